-- Printed by a program of this session out of the translation (hybrid print) and out of hand proofs. Not trusted: Lean checks it.
import Derived.Below
import Derived.Deep.Draws
import Derived.Deep.AppendLies
import Derived.Maps.AppendAt
import Derived.OwnWalk
import Derived.Laws.BytesArg
import Derived.Laws.MakeOwn
import Derived.Laws.OwnMore
import Derived.Deep.OwnRows
import Derived.Tactics
import Derived.Lib.ConvBytes
import Derived.Laws.Slices
import Derived.WalkKit
import Derived.KernelRfl
import Derived.RowKit3
import Derived.Deep.LoopGhost
import Derived.Deep.QuietTactic
import Derived.BigQuiet
import Derived.WideLaws
import Derived.Deep.DeepCutAuto
import Derived.Deep.CutBlock
import Derived.Deep.RegionHeld3
import Derived.Laws.Rows
import Derived.Lib.AppendStr
import Derived.ArgAppend
import Derived.Laws.IdiomCopy
import Derived.RowKit
import Derived.OrdersHeld
import Derived.Laws.BitsLemmas
import Derived.Laws.StructEq
import Derived.Test.YteodlmgmmpkpoaaProg
import Derived.Laws.EntriesVeiled
import Derived.StillTailTactics
import Derived.RangeFuncNested
import Derived.RangeFuncBound
import Derived.RangeFuncCalls
import Derived.RangeFuncLeaves
import Derived.Shelf.Abstract
import Derived.OwnWalkIn
import Derived.TacticsInMore
import Derived.LoopNIn
import Derived.LoopIn
import Derived.Test.YteodlmgmmpkpoaaSR0
section
namespace Go.Proofs.Yteodlmgmmpkpoaa.PS
open Go.RowKit Go.Proofs.YteodlmgmmpkpoaaW.PrintWords Go.Proofs.YteodlmgmmpkpoaaW.PrintLast Go.Proofs.YteodlmgmmpkpoaaW.PrintMore
attribute [local go_sem] max2_int min2_int max_two min_two max_three min_three max_four min_four   -- for this text's walks alone
set_option linter.unusedVariables false
set_option linter.unusedSimpArgs false
def errW : Option Int → Value
  | none => .nilIface
  | some c => .iface 0 (.int .i64 c)
theorem errW_none : errW none = .nilIface := rfl
theorem errW_some (c : Int) : errW (some c) = .iface 0 (.int .i64 c) := rfl
theorem info3 : (Try.prog.info? 3).map (fun i => (i.zero, i.size, i.bytes)) = some (some (.int .i64 0), 1, 8) := by kernel_rfl
structure S27 where
  f0 : Int
  f1 : Int
def z27 : S27 := ⟨(0 : Int), (0 : Int)⟩
def k27 : Kd S27 := Kd.iso (Kd.pair (Kd.int .i64) (Kd.int .i64)) (fun x : S27 => (x.f0, x.f1))
theorem k27_open {w : World} {x : S27} {cs : List Value} (h : k27.K w x cs) : cs = [.int .i64 x.f0, .int .i64 x.f1] := by
  obtain ⟨_, _, rfl, rfl, rfl⟩ := h
  exact rfl
theorem k27_mk (w : World) (x : S27)  : k27.K w x [.int .i64 x.f0, .int .i64 x.f1] := ⟨[.int .i64 x.f0], [.int .i64 x.f1], rfl, rfl, rfl⟩
theorem k27_mkM (w : World) (base : Nat) (ok : Nat → Prop) (x : S27)  : k27.M w base ok x [.int .i64 x.f0, .int .i64 x.f1] := ⟨[.int .i64 x.f0], [.int .i64 x.f1], rfl, rfl, rfl⟩
def rd_T27 (xs : List S27) (i : Int) : S27 := xs.getD i.toNat z27
theorem at_T27 {w : World} {A : Option Addr} {n : Nat} {xs : List S27} (h : Kd.C k27 w A n xs) (i : Int) (h0 : 0 ≤ i) (h1 : i < n) : ∃ ad , A = some ad ∧ w.cell? (ad.add (i.toNat * 2)) = some (.int .i64 (rd_T27 xs i).f0) ∧ w.cell? ⟨(ad.add (i.toNat * 2)).block, (ad.add (i.toNat * 2)).off + 1, none⟩ = some (.int .i64 (rd_T27 xs i).f1) := by
  obtain ⟨ad, c, e, _, hK, hc0⟩ := Kd.C_get h z27 i h0 h1
  have hc : ∀ j u, c[j]? = some u → w.cell? (ad.add (i.toNat * 2 + j)) = some u := hc0
  obtain rfl := k27_open hK
  exact ⟨ad, e, hc 0 _ rfl, by rw [← add_field _ _ 1 (by omega)]; exact hc 1 _ rfl⟩
def rd_L3 (xs : List (List Int)) (i : Int) : (List Int) := xs.getD i.toNat ([] : List Int)
theorem at_L3 {w : World} {A : Option Addr} {n : Nat} {xs : List (List Int)} (h : Kd.C (Kd.slice 3 (Kd.int .i64)) w A n xs) (i : Int) (h0 : 0 ≤ i) (h1 : i < n) : ∃ ad A0 c0, A = some ad ∧ w.cell? (ad.add i.toNat) = some (.slice A0 (rd_L3 xs i).length c0) ∧ (rd_L3 xs i).length ≤ c0 ∧ (Kd.int .i64).C w A0 (rd_L3 xs i).length (rd_L3 xs i) := by
  obtain ⟨ad, c, e, _, hK, hc0⟩ := Kd.C_get h ([] : List Int) i h0 h1
  have hc : ∀ j u, c[j]? = some u → w.cell? (ad.add (i.toNat * 1 + j)) = some u := hc0
  obtain ⟨A0, c0, rfl, l0, g0⟩ := hK
  exact ⟨ad, A0, c0, e, by have hq := hc 0 _ rfl; rwa [Nat.mul_one, Nat.add_zero] at hq, l0, g0⟩
theorem eqA27 (d : Nat) (w : World) (x0 y0 : Int) (x1 y1 : Int) :
    (Op.equalIn (d + 2) 27 (.agg #[.int .i64 x0, .int .i64 x1]) (.agg #[.int .i64 y0, .int .i64 y1])).run Try.prog w = .ok (x0 == y0 && (x1 == y1)) w := by
  refine eqA_of Try.underlying27 (by kernel_rfl) ?_
  refine eqf_cons (by rfl) (by go_simp; rfl) (by go_simp; rfl) (by go_simp) ?_
  exact eqf_last (by rfl) (by go_simp; rfl) (by go_simp; rfl) (by go_simp)
end Go.Proofs.Yteodlmgmmpkpoaa.PS
end
section
namespace Go.Proofs.Yteodlmgmmpkpoaa.PS
open Go.RowKit Go.Proofs.YteodlmgmmpkpoaaW.PrintWords Go.Proofs.YteodlmgmmpkpoaaW.PrintLast Go.Proofs.YteodlmgmmpkpoaaW.PrintMore
set_option linter.unusedVariables false
structure KpW (a b : World) : Prop where
  keep : ∀ (g : Nat) (o : Obj), a.heap[g]? = some o → b.heap[g]? = some o
theorem KpW.refl (a : World) : KpW a a := ⟨fun _ _ h => h⟩
theorem KpW.ad {a b : World} (k : KpW a b) (n : Nat) : KpW a (b.drewN n) := ⟨fun g o h => blk_drewN (k.keep g o h) n⟩
theorem KpW.d {a b : World} (k : KpW a b) : KpW a b.drew := ⟨fun g o h => blk_drew (k.keep g o h)⟩
theorem KpW.al {a b : World} (k : KpW a b) (o' : Obj) : KpW a (b.alloc o') := ⟨fun g o h => blk_alloc (k.keep g o h) o'⟩
theorem bk_ {a b : World} {g : Nat} {o : Obj} (h : a.heap[g]? = some o) (k : KpW a b := by (with_reducible repeat (first | refine KpW.ad ?_ _ | refine KpW.d ?_ | refine KpW.al ?_ _)); exact KpW.refl _) : b.heap[g]? = some o := k.keep g o h
structure BlW (w a b : World) : Prop where
  go : Below w.heap.size w a → Below w.heap.size w b
theorem BlW.refl (w a : World) : BlW w a a := ⟨id⟩
theorem BlW.ad {w a b : World} (k : BlW w a b) (n : Nat) : BlW w a (b.drewN n) := ⟨fun h => pw_below_drewN (k.go h) n⟩
theorem BlW.d {w a b : World} (k : BlW w a b) : BlW w a b.drew := ⟨fun h => below_drew1 (k.go h)⟩
theorem BlW.al {w a b : World} (k : BlW w a b) (o : Obj) : BlW w a (b.alloc o) := ⟨fun h => below_alloc (k.go h) o⟩
theorem BlW.st {w a b : World} {g j : Nat} {v : Value} (k : BlW w a b) (hg : w.heap.size ≤ g) : BlW w a (b.setCell ⟨g, j, none⟩ v) := ⟨fun h => below_set (k.go h) hg⟩
theorem bl_ {w a b : World} (h : Below w.heap.size w a) (k : BlW w a b := by repeat (first | (with_reducible first | exact BlW.refl _ _ | apply BlW.al | apply BlW.ad | apply BlW.d | refine BlW.st ?_ (Aside0.out (by assumption))) | exact BlW.refl _ _)) : Below w.heap.size w b := k.go h
structure CrW (a b : World) : Prop where
  go : ∀ {α : Type} (d : Kd α) (A : Option Addr) (n : Nat) (l : List α), d.C a A n l → d.C b A n l
theorem CrW.refl (a : World) : CrW a a := ⟨fun _ _ _ _ h => h⟩
theorem CrW.ad {a b : World} (k : CrW a b) (n : Nat) : CrW a (b.drewN n) := ⟨fun d A m l h => Kd.C_drewN (k.go d A m l h) n⟩
theorem CrW.d {a b : World} (k : CrW a b) : CrW a b.drew := ⟨fun d A m l h => Kd.C_drew (k.go d A m l h)⟩
theorem CrW.al {a b : World} (k : CrW a b) (o : Obj) : CrW a (b.alloc o) := ⟨fun d A m l h => Kd.C_alloc (k.go d A m l h) o⟩
theorem cr_ {a b : World} {α : Type} {d : Kd α} {A : Option Addr} {n : Nat} {l : List α} (h : d.C a A n l) (k : CrW a b := by repeat (first | exact CrW.refl _ | (with_reducible refine CrW.al ?_ _) | (with_reducible refine CrW.ad ?_ _) | (with_reducible refine CrW.d ?_))) : d.C b A n l := k.go d A n l h
theorem nel_ {a b : World} {g n : Nat} {o : Obj} (hg : n = b.heap.size) (h : a.heap[g]? = some o) (k : KpW a b := by (with_reducible repeat (first | refine KpW.ad ?_ _ | refine KpW.d ?_ | refine KpW.al ?_ _)); exact KpW.refl _) : g ≠ n := hg ▸ Nat.ne_of_lt (blk_lt (k.keep g o h))
theorem ner_ {a b : World} {g n : Nat} {o : Obj} (hg : n = b.heap.size) (h : a.heap[g]? = some o) (k : KpW a b := by (with_reducible repeat (first | refine KpW.ad ?_ _ | refine KpW.d ?_ | refine KpW.al ?_ _)); exact KpW.refl _) : n ≠ g := hg ▸ Nat.ne_of_gt (blk_lt (k.keep g o h))
theorem szl_ {w a b : World} {n : Nat} (hg : n = b.heap.size) (h : Below w.heap.size w a) (k : BlW w a b := by repeat (first | (with_reducible first | exact BlW.refl _ _ | apply BlW.al | apply BlW.ad | apply BlW.d | refine BlW.st ?_ (Aside0.out (by assumption))) | exact BlW.refl _ _)) : w.heap.size ≤ n := hg ▸ below_size (k.go h)
end Go.Proofs.Yteodlmgmmpkpoaa.PS
end
section
namespace Go.Proofs.Yteodlmgmmpkpoaa.PS
set_option linter.unusedVariables false
def inM (x : Int) : Bool := decide (-1000000 ≤ x) && decide (x ≤ 1000000)
def okS (lo hi : Int) : Bool := (decide (-1000000 ≤ lo) && decide (lo ≤ hi)) && decide (hi ≤ 1000000)
def gapsB : List Int → Bool
  | [] => true
  | a :: l => (match l with
    | [] => true
    | b :: _ => decide (1 ≤ b - a) && decide (b - a ≤ 10000)) && gapsB l
def axisB (l : List Int) : Bool := (decide (2 ≤ l.length) && decide (l.length ≤ 12)) && (l.all inM && gapsB l)
def rowB (m : Nat) (r : List Int) : Bool := (r.length == m) && r.all inM
def tableB (X Y : List Int) (V : List (List Int)) : Bool := (axisB X && axisB Y) && ((V.length == X.length) && V.all (rowB Y.length))
def gI (l : List Int) (i : Nat) : Int := l.getD i 0
def gV (V : List (List Int)) (i k : Nat) : Int := (V.getD i []).getD k 0
def onB (l : List Int) (lo hi : Int) : Bool := decide (gI l 0 ≤ lo) && decide (hi ≤ gI l (l.length - 1))
def cellOf (l : List Int) (x : Int) : Nat := ((l.drop 1).dropLast).countP (fun y => decide (y < x))
def numAt (X Y : List Int) (V : List (List Int)) (i k : Nat) (x y : Int) : Int :=
  (gI X (i + 1) - x) * (gI Y (k + 1) - y) * gV V i k + (x - gI X i) * (gI Y (k + 1) - y) * gV V (i + 1) k + (gI X (i + 1) - x) * (y - gI Y k) * gV V i (k + 1) + (x - gI X i) * (y - gI Y k) * gV V (i + 1) (k + 1)
def denAt (X Y : List Int) (i k : Nat) : Int := (gI X (i + 1) - gI X i) * (gI Y (k + 1) - gI Y k)
structure Pt where
  x : Int
  y : Int
  n : Int
  d : Int
def stopsL (l : List Int) (lo hi : Int) : List Int := (lo :: l.filter (fun x => decide (lo < x) && decide (x < hi))) ++ (if lo < hi then [hi] else [])
def ptAt (X Y : List Int) (V : List (List Int)) (x y : Int) : Pt := ⟨x, y, numAt X Y V (cellOf X x) (cellOf Y y) x y, denAt X Y (cellOf X x) (cellOf Y y)⟩
def gridL (xs ys : List Int) (f : Int → Int → Pt) : List Pt := xs.flatMap fun x => ys.map fun y => f x y
def ltP (p q : Pt) : Bool := decide (p.n * q.d < q.n * p.d)
def leastP : List Pt → Pt
  | [] => ⟨0, 0, 0, 0⟩
  | p :: l => l.foldl (fun m q => if ltP q m then q else m) p
def mostP : List Pt → Pt
  | [] => ⟨0, 0, 0, 0⟩
  | p :: l => l.foldl (fun m q => if ltP m q then q else m) p
def flP (p : Pt) : Int := p.n / p.d
def ceP (p : Pt) : Int := -((-p.n) / p.d)
def pointsB (X Y : List Int) (V : List (List Int)) (a0 a1 b0 b1 : Int) : Bool := tableB X Y V && (okS a0 a1 && okS b0 b1) && (onB X a0 a1 && onB Y b0 b1)
def pointsE (X Y : List Int) (V : List (List Int)) (a0 a1 b0 b1 : Int) : Int := if tableB X Y V then (if okS a0 a1 && okS b0 b1 then (if onB X a0 a1 && onB Y b0 b1 then 0 else 1) else 10) else 11
def ptsL (X Y : List Int) (V : List (List Int)) (a0 a1 b0 b1 : Int) : List Pt := gridL (stopsL X a0 a1) (stopsL Y b0 b1) (ptAt X Y V)
def spans_spanned.f (l0 : List S27) : Option Int := some (if l0.all (fun s => okS s.f0 s.f1) then 0 else 10)
def spans_CheckTable.f (X Y : List Int) (V : List (List Int)) : Option Int := some (if tableB X Y V then 0 else 11)
def spans_at.f (X Y : List Int) (V : List (List Int)) (x y : Int) : Option (Int × Int) :=
  if (tableB X Y V && (onB X x x && onB Y y y)) = true then some ((ptAt X Y V x y).n, (ptAt X Y V x y).d) else none
def spans_extremes.f (X Y : List Int) (V : List (List Int)) (a0 a1 b0 b1 : Int) : Option (Int × Int × Int × Int × Int × Int × Int × Int) :=
  if pointsB X Y V a0 a1 b0 b1 = true then
    some ((leastP (ptsL X Y V a0 a1 b0 b1)).x, (leastP (ptsL X Y V a0 a1 b0 b1)).y, (leastP (ptsL X Y V a0 a1 b0 b1)).n, (leastP (ptsL X Y V a0 a1 b0 b1)).d,
      (mostP (ptsL X Y V a0 a1 b0 b1)).x, (mostP (ptsL X Y V a0 a1 b0 b1)).y, (mostP (ptsL X Y V a0 a1 b0 b1)).n, (mostP (ptsL X Y V a0 a1 b0 b1)).d)
  else none
def boxB (b : List S27) : Bool := (decide (1 ≤ b.length) && decide (b.length ≤ 3)) && b.all (fun s => okS s.f0 s.f1)
end Go.Proofs.Yteodlmgmmpkpoaa.PS
end
section
namespace Go.Proofs.Yteodlmgmmpkpoaa.PS
open Go.RowKit Go.Proofs.YteodlmgmmpkpoaaW.PrintWords Go.Proofs.YteodlmgmmpkpoaaW.PrintLast Go.Proofs.YteodlmgmmpkpoaaW.PrintMore
set_option linter.unusedVariables false
theorem wr64 {n : Int} (h0 : -9223372036854775808 ≤ n) (h1 : n ≤ 9223372036854775807) : wrap64 n = n := by unfold wrap64; omega
theorem any_snoc {α : Type} (l : List α) (d : α) (p : α → Bool) (x : Nat) (hx : x < l.length) : (l.take (x + 1)).any p = ((l.take x).any p || p (l.getD x d)) := by
  rw [List.take_succ_eq_append_getElem hx, List.any_append]
  simp [List.getD_eq_getElem?_getD, List.getElem?_eq_getElem hx]
theorem any_hit {α : Type} (l : List α) (d : α) (p : α → Bool) (x : Nat) (hx : x < l.length) (h : p (l.getD x d) = true) : l.any p = true := by
  rw [List.any_eq_true]
  exact ⟨l.getD x d, by rw [List.getD_eq_getElem?_getD, List.getElem?_eq_getElem hx]; simp, h⟩
theorem getD_mem {α : Type} (l : List α) (d : α) (x : Nat) (hx : x < l.length) : l.getD x d ∈ l := by
  rw [List.getD_eq_getElem?_getD, List.getElem?_eq_getElem hx]; simp
theorem any_not {α : Type} (l : List α) (p : α → Bool) : l.any (fun x => !p x) = !l.all p := by
  induction l with
  | nil => rfl
  | cons a l ih => rw [List.any_cons, List.all_cons, ih]; cases p a <;> simp
def Place (b : Bool) (w : World) (e : Ending) (w' : World) : Prop := ∃ i : Int, e = .returned (.int .i64 i) ∧ decide (0 ≤ i) = b ∧ Below w.heap.size w w'
def Yes (b : Bool) (w : World) (e : Ending) (w' : World) : Prop := e = .returned (.bool b) ∧ Below w.heap.size w w'
end Go.Proofs.Yteodlmgmmpkpoaa.PS
end
section
namespace Go.Proofs.Yteodlmgmmpkpoaa.PS
open Go.RowKit Go.Proofs.YteodlmgmmpkpoaaW.PrintWords Go.Proofs.YteodlmgmmpkpoaaW.PrintLast Go.Proofs.YteodlmgmmpkpoaaW.PrintMore
attribute [local go_sem] max2_int min2_int max_two min_two max_three min_three max_four min_four   -- for this text's walks alone
set_option linter.unusedVariables false
set_option linter.unusedSimpArgs false
def spans_within.f (a0 : Int) (a1 : Int) (a2 : Int) : Option (Bool) := if a0 ≥ a1 then (some (decide (a0 ≤ a2))) else (some false)
set_option maxHeartbeats 8000000 in
set_option maxRecDepth 100000 in
theorem spans_within.calls (a0 : Int) (a1 : Int) (a2 : Int) (r : Bool) (w : World) (h : spans_within.f a0 a1 a2 = some r) :
  Calls Try.prog 93 #[.int .i64 a0, .int .i64 a1, .int .i64 a2] w fun e w' => e = .returned (.bool r) ∧ Drawn0 w w' := by
 have H : (if a0 ≥ a1 then (some (decide (a0 ≤ a2))) else (some false)) = some r := h
 clear h
 by_cases c4 : a0 ≥ a1
 ·
  rw [if_pos c4] at H
  have c4b0 : decide (a1 ≤ a0) = true := decide_eq_true c4
  clear c4
  obtain rfl := Option.some.inj H
  go_enter Try.func93, Try.ntmps93
  go_wp2
  go_ret
  exact ⟨by first | rfl | (simp; done) | (simp [*]; done), by repeat (first | exact Drawn0.refl _ | apply Drawn0.step)⟩
 ·
  rw [if_neg c4] at H
  have c4b0 : decide (a1 ≤ a0) = false := decide_eq_false c4
  clear c4
  obtain rfl := Option.some.inj H
  go_enter Try.func93, Try.ntmps93
  go_wp2
  go_ret
  exact ⟨by first | rfl | (simp; done) | (simp [*]; done), by repeat (first | exact Drawn0.refl _ | apply Drawn0.step)⟩
end Go.Proofs.Yteodlmgmmpkpoaa.PS
end
section
namespace Go.Proofs.Yteodlmgmmpkpoaa.PS
open Go.RowKit Go.Proofs.YteodlmgmmpkpoaaW.PrintWords Go.Proofs.YteodlmgmmpkpoaaW.PrintLast Go.Proofs.YteodlmgmmpkpoaaW.PrintMore
attribute [local go_sem] max2_int min2_int max_two min_two max_three min_three max_four min_four   -- for this text's walks alone
set_option linter.unusedVariables false
set_option linter.unusedSimpArgs false
def spans_valid.f (a0_0 : Int) (a0_1 : Int) : Option (Bool) := (spans_within.f a0_0 (-1000000) a0_1).bind fun t107 => (if t107 = true then (some (decide (a0_1 ≤ 1000000))) else (some false))
set_option maxHeartbeats 8000000 in
set_option maxRecDepth 100000 in
theorem spans_valid.calls (a0_0 : Int) (a0_1 : Int) (r : Bool) (w : World) (h : spans_valid.f a0_0 a0_1 = some r) :
  Calls Try.prog 153 #[.agg #[.int .i64 a0_0, .int .i64 a0_1]] w fun e w' => e = .returned (.bool r) ∧ Below w.heap.size w w' := by
 have hu27 := Try.underlying27
 have HB := Aside0.mk (Below.refl w.heap.size w)
 have H : ((spans_within.f a0_0 (-1000000) a0_1).bind fun t107 => (if t107 = true then (some (decide (a0_1 ≤ 1000000))) else (some false))) = some r := h
 clear h
 replace H := Option.bind_eq_some_iff.mp H
 obtain ⟨t107, A20, H⟩ := H
 replace H : (if t107 = true then (some (decide (a0_1 ≤ 1000000))) else (some false)) = some r := H
 have A2 := Aside0.mk A20
 clear A20
 by_cases c3 : t107 = true
 ·
  subst c3
  have H1 : (some (decide (a0_1 ≤ 1000000))) = some r := by rw [if_pos rfl] at H; exact H
  clear H
  have H := H1
  clear H1
  obtain rfl := Option.some.inj H
  go_enter Try.func153, Try.ntmps153
  go_wp2_with (first | ((with_reducible refine gate_dst (N := 1) rfl ?_); refine box_event ?hg (N := 1) ?hd (cs := #[.int .i64 a0_0, .int .i64 a0_1]) (t := 27) ?hr ?_; (case hd => rfl); (case hg => rfl); (case hr => first | (go_simp; done) | (go_simp; rfl)); intro gb106 hg w4 hbox hb; have n0_ := Aside0.mk (below_step (bl_ HB.out) hb); have n1_ := Aside0.mk (hbox); have n2_ := Aside0.mk (szl_ hg HB.out); have n3_ := Aside0.mk (szl_ hg HB.out); clear HB; have HB := n0_; have BK106 := n1_; have GW106 := n2_; have GE106 := n3_; clear n0_ n1_ n2_ n3_ hb hbox hg; have hcz5_0 : w4.cell? ⟨gb106, 0, none⟩ = some (.int .i64 a0_0) := (blk_cell BK106.out 0).trans rfl; have hcz5_1 : w4.cell? ⟨gb106, 1, none⟩ = some (.int .i64 a0_1) := (blk_cell BK106.out 1).trans rfl; have hfz5_0 := blk_frozen BK106.out 0; have hfz5_1 := blk_frozen BK106.out 1) | ((with_reducible refine gate_callee (f := 93) rfl ?_); refine goesL_ (some 7) rfl rfl Try.func93 (by kernel_rfl) rfl #[.int .i64 a0_0, .int .i64 (-1000000), .int .i64 a0_1] rfl (by (try simp only [List.map_toArray, List.map_cons, List.map_nil]); first | done | rfl | (simp only [List.length_drop, List.length_take]; rfl)) ?_; (with_reducible refine (spans_within.calls a0_0 (-1000000) a0_1 true _ A2.out).mono ?_); rintro e w' ⟨rfl, ⟨nd, rfl⟩⟩; refine ⟨_, rfl, ?_⟩))
  go_ret
  exact ⟨by first | rfl | (simp [errW_none, errW_some] <;> rfl) | (simp [*, errW_none, errW_some] <;> rfl), bl_ HB.out⟩
 ·
  replace c3 := Bool.eq_false_iff.mpr c3
  subst c3
  have H1 : (some false) = some r := by rw [if_neg (show ¬ (false = true) by decide)] at H; exact H
  clear H
  have H := H1
  clear H1
  obtain rfl := Option.some.inj H
  go_enter Try.func153, Try.ntmps153
  go_wp2_with (first | ((with_reducible refine gate_dst (N := 1) rfl ?_); refine box_event ?hg (N := 1) ?hd (cs := #[.int .i64 a0_0, .int .i64 a0_1]) (t := 27) ?hr ?_; (case hd => rfl); (case hg => rfl); (case hr => first | (go_simp; done) | (go_simp; rfl)); intro gb106 hg w6 hbox hb; have n0_ := Aside0.mk (below_step (bl_ HB.out) hb); have n1_ := Aside0.mk (hbox); have n2_ := Aside0.mk (szl_ hg HB.out); have n3_ := Aside0.mk (szl_ hg HB.out); clear HB; have HB := n0_; have BK106 := n1_; have GW106 := n2_; have GE106 := n3_; clear n0_ n1_ n2_ n3_ hb hbox hg; have hcz7_0 : w6.cell? ⟨gb106, 0, none⟩ = some (.int .i64 a0_0) := (blk_cell BK106.out 0).trans rfl; have hcz7_1 : w6.cell? ⟨gb106, 1, none⟩ = some (.int .i64 a0_1) := (blk_cell BK106.out 1).trans rfl; have hfz7_0 := blk_frozen BK106.out 0; have hfz7_1 := blk_frozen BK106.out 1) | ((with_reducible refine gate_callee (f := 93) rfl ?_); refine goesL_ (some 7) rfl rfl Try.func93 (by kernel_rfl) rfl #[.int .i64 a0_0, .int .i64 (-1000000), .int .i64 a0_1] rfl (by (try simp only [List.map_toArray, List.map_cons, List.map_nil]); first | done | rfl | (simp only [List.length_drop, List.length_take]; rfl)) ?_; (with_reducible refine (spans_within.calls a0_0 (-1000000) a0_1 false _ A2.out).mono ?_); rintro e w' ⟨rfl, ⟨nd, rfl⟩⟩; refine ⟨_, rfl, ?_⟩))
  go_ret
  exact ⟨by first | rfl | (simp [errW_none, errW_some] <;> rfl) | (simp [*, errW_none, errW_some] <;> rfl), bl_ HB.out⟩
end Go.Proofs.Yteodlmgmmpkpoaa.PS
end
section
namespace Go.Proofs.Yteodlmgmmpkpoaa.PS
open Go.RowKit Go.Proofs.YteodlmgmmpkpoaaW.PrintWords Go.Proofs.YteodlmgmmpkpoaaW.PrintLast Go.Proofs.YteodlmgmmpkpoaaW.PrintMore
set_option linter.unusedVariables false
set_option linter.unusedSimpArgs false
theorem within_total (x a b : Int) : spans_within.f x a b = some (decide (a ≤ x) && decide (x ≤ b)) := by
  unfold spans_within.f
  by_cases h : x ≥ a
  · rw [if_pos h, decide_eq_true (show a ≤ x from h)]; rfl
  · rw [if_neg h, decide_eq_false (show ¬ a ≤ x from h)]; rfl
theorem valid_total (a b : Int) : spans_valid.f a b = some (okS a b) := by
  unfold spans_valid.f okS
  rw [within_total, Option.bind_some]
  cases h : (decide (-1000000 ≤ a) && decide (a ≤ b)) <;> simp
def badS (s : S27) : Bool := !okS s.f0 s.f1
theorem spanned_lit (a b : Int) (w : World) : Calls Try.prog 152 #[.agg #[.int .i64 a, .int .i64 b]] w (Yes (!okS a b) w) := by
  have H := Aside0.mk (valid_total a b)
  go_enter Try.func152, Try.ntmps152
  go_wp2_with (go_at_call 153; refine (spans_valid.calls a b _ _ H.out).mono ?_; rintro e w' ⟨rfl, hb⟩)
  go_ret
  exact ⟨rfl, ((Below.refl _ _).alloc (Nat.le_refl _) _).trans (hb.mono (by simp))⟩
set_option maxHeartbeats 1000000 in
theorem spanned_index (A : Option Addr) (c : Nat) (l : List S27) (w : World) (hr : Kd.C k27 w A l.length l) :
    Calls Try.prog 178 #[.slice A l.length c, .func (.func 152) #[] #[]] w (Place (l.any badS) w) := by
  have HR := Aside0.mk hr
  have HL := Aside0.mk hr.2.1
  clear hr
  go_enter Try.func178, Try.ntmps178
  go_wp2
  go_loopw [5, 8] (fun v5 v8 wr => ∃ x : Nat, v8 = .int .i64 x ∧ Aside0 ((l.take x).any badS = false) ∧ Aside0 (x ≤ l.length) ∧ Aside0 (Below w.heap.size w wr)) (fun _ v8 _ => l.length - (intOf v8).toNat)
  case atStart => exact ⟨0, rfl, ⟨by simp⟩, ⟨Nat.zero_le _⟩, ⟨Below.refl _ _⟩⟩
  case round =>
    obtain ⟨x, rfl, HA, HX, HB⟩ := hrel
    by_cases c1 : x < l.length
    · obtain ⟨ad, e0, hx0, hx1⟩ := at_T27 HR.out (x : Int) (by omega) (by omega)
      rw [Int.toNat_natCast] at hx0 hx1
      have q0 := (HB.out.cell (p := ad.add (x * 2)) (World.block_lt_of_cell? _ _ hx0)).trans hx0
      have q1 := (HB.out.cell (p := ⟨(ad.add (x * 2)).block, (ad.add (x * 2)).off + 1, none⟩) (World.block_lt_of_cell? _ _ hx1)).trans hx1
      have hlen := HL.out
      have HS := Aside0.mk (any_snoc l z27 badS x c1)
      subst e0
      clear hx0 hx1 HX
      cases hb1 : badS (rd_T27 l x) with
      | false =>
        have HV := Aside0.mk (show (!okS (rd_T27 l x).f0 (rd_T27 l x).f1) = false from hb1)
        clear hb1
        go_wp2_with (go_at_call 152; refine (spanned_lit _ _ _).mono ?_; rintro e w' ⟨rfl, hb⟩; rw [HV.out])
        go_roundw
        case measure => simp [intOf]; omega
        case rel => exact ⟨x + 1, by go_num, ⟨by rw [HS.out, HA.out]; exact HV.out⟩, ⟨by omega⟩, ⟨HB.out.trans (hb.mono (by have := HB.out.size; omega))⟩⟩
      | true =>
        have HV := Aside0.mk (show (!okS (rd_T27 l x).f0 (rd_T27 l x).f1) = true from hb1)
        clear hb1
        go_wp2_with (go_at_call 152; refine (spanned_lit _ _ _).mono ?_; rintro e w' ⟨rfl, hb⟩; rw [HV.out])
        go_ret
        exact ⟨x, rfl, by rw [any_hit l z27 badS x c1 HV.out]; simp, HB.out.trans (hb.mono (by have := HB.out.size; omega))⟩
    · have HE := Aside0.mk (List.take_of_length_le (l := l) (i := x) (by omega))
      go_wp2
      go_ret
      exact ⟨-1, rfl, by rw [← HE.out, HA.out]; rfl, HB.out⟩
theorem spanned_has (A : Option Addr) (c : Nat) (l : List S27) (w : World) (hr : Kd.C k27 w A l.length l) :
    Calls Try.prog 151 #[.slice A l.length c, .func (.func 152) #[] #[]] w (Yes (l.any badS) w) := by
  have HR := Aside0.mk hr
  clear hr
  go_enter Try.func151, Try.ntmps151
  go_wp2_with (go_at_call 178; refine (spanned_index A c l _ HR.out).mono ?_; rintro e w' ⟨i, rfl, hi, hb⟩; have HI := Aside0.mk hi; clear hi)
  go_ret
  exact ⟨by rw [← HI.out]; rfl, hb⟩
theorem spans_spanned.calls (A0 : Option Addr) (c0 : Nat) (l0 : List (S27)) (r : Int) (w : World) (hr0 : Kd.C k27 w A0 l0.length l0) (hc0 : l0.length ≤ c0) (h : spans_spanned.f l0 = some r) :
    Calls Try.prog 94 #[.slice A0 l0.length c0] w fun e w' => e = .returned (.int .i64 r) ∧ Below w.heap.size w w' := by
  have HR := Aside0.mk hr0
  have H := Aside0.mk (Option.some.inj h)
  clear hr0 h
  cases hb1 : l0.any badS with
  | false =>
    have HV := Aside0.mk hb1
    have HE := Aside0.mk (show l0.all (fun s => okS s.f0 s.f1) = true by have := any_not l0 (fun s => okS s.f0 s.f1); rw [show l0.any (fun x => !okS x.f0 x.f1) = false from hb1] at this; simpa using this)
    clear hb1
    go_enter Try.func94, Try.ntmps94
    go_wp2_with (go_at_call 151; refine (spanned_has A0 c0 l0 _ HR.out).mono ?_; rintro e w' ⟨rfl, hb⟩; rw [HV.out])
    go_ret
    exact ⟨by rw [← H.out, HE.out]; rfl, hb⟩
  | true =>
    have HV := Aside0.mk hb1
    have HE := Aside0.mk (show l0.all (fun s => okS s.f0 s.f1) = false by have := any_not l0 (fun s => okS s.f0 s.f1); rw [show l0.any (fun x => !okS x.f0 x.f1) = true from hb1] at this; simpa using this)
    clear hb1
    go_enter Try.func94, Try.ntmps94
    go_wp2_with (go_at_call 151; refine (spanned_has A0 c0 l0 _ HR.out).mono ?_; rintro e w' ⟨rfl, hb⟩; rw [HV.out])
    go_ret
    exact ⟨by rw [← H.out, HE.out]; rfl, hb⟩
end Go.Proofs.Yteodlmgmmpkpoaa.PS
end
section
namespace Go.Proofs.Yteodlmgmmpkpoaa.PS
open Go.RowKit Go.Proofs.YteodlmgmmpkpoaaW.PrintWords Go.Proofs.YteodlmgmmpkpoaaW.PrintLast Go.Proofs.YteodlmgmmpkpoaaW.PrintMore
attribute [local go_sem] max2_int min2_int max_two min_two max_three min_three max_four min_four   -- for this text's walks alone
set_option linter.unusedVariables false
set_option linter.unusedSimpArgs false
def spans_axis.l0 : Nat → List Int → List Int → Int → Int → Option (Bool)
 | 0, _, _, _, _ => none
 | k + 1, x0, x9, x10, x11 => if x11 < x10 then (if 0 ≤ x11 then (if x11 < (x9.length : Int) then ((spans_within.f (rd x9 x11) (-1000000) 1000000).bind fun t103 => (if t103 = true then (if x11 > 0 then (if 0 ≤ (wrap64 (x11 - 1)) then (if (wrap64 (x11 - 1)) < (x0.length : Int) then ((spans_within.f (wrap64 ((rd x9 x11) - (rd x0 (wrap64 (x11 - 1))))) 1 10000).bind fun t105 => (if t105 = true then (spans_axis.l0 k x0 x9 x10 (wrap64 (x11 + 1))) else (some false))) else (none)) else (none)) else (spans_axis.l0 k x0 x9 x10 (wrap64 (x11 + 1)))) else (some false))) else (none)) else (none)) else (some true)
def spans_axis.f (k : Nat) (l0 : List Int) : Option (Bool) := (spans_within.f (l0.length : Int) 2 12).bind fun t101 => (if t101 = true then (spans_axis.l0 k l0 l0 (l0.length : Int) 0) else (some false))
set_option maxHeartbeats 8000000 in
set_option maxRecDepth 100000 in
theorem spans_axis.calls (k : Nat) (A0 : Option Addr) (c0 : Nat) (l0 : List Int) (r : Bool) (w : World) (hr0 : Kd.C (Kd.int .i64) w A0 l0.length l0) (hc0 : l0.length ≤ c0) (h : spans_axis.f k l0 = some r) :
  Calls Try.prog 98 #[.slice A0 l0.length c0] w fun e w' => e = .returned (.bool r) ∧ Drawn0 w w' := by
 have HR0 := Aside0.mk hr0
 have HC0 := Aside0.mk hc0
 clear hr0 hc0
 have H : ((spans_within.f (l0.length : Int) 2 12).bind fun t101 => (if t101 = true then (spans_axis.l0 k l0 l0 (l0.length : Int) 0) else (some false))) = some r := h
 clear h
 replace H := Option.bind_eq_some_iff.mp H
 obtain ⟨t101, A20, H⟩ := H
 replace H : (if t101 = true then (spans_axis.l0 k l0 l0 (l0.length : Int) 0) else (some false)) = some r := H
 have A2 := Aside0.mk A20
 clear A20
 by_cases c3 : t101 = true
 ·
  subst c3
  have H1 : (spans_axis.l0 k l0 l0 (l0.length : Int) 0) = some r := by rw [if_pos rfl] at H; exact H
  clear H
  have H := H1
  clear H1
  have H' := Aside0.mk H
  clear H
  go_enter Try.func98, Try.ntmps98
  go_wp2_with (first | ((with_reducible refine gate_callee (f := 93) rfl ?_); refine goesL_ (some 7) rfl rfl Try.func93 (by kernel_rfl) rfl #[.int .i64 (l0.length : Int), .int .i64 2, .int .i64 12] rfl (by (try simp only [List.map_toArray, List.map_cons, List.map_nil]); first | done | rfl | (simp only [List.length_drop, List.length_take]; rfl)) ?_; (with_reducible refine (spans_within.calls (l0.length : Int) 2 12 true _ A2.out).mono ?_); rintro e w' ⟨rfl, ⟨nd, rfl⟩⟩; refine ⟨_, rfl, ?_⟩))
  go_loopg [11] k (fun kq v11 w' => ∃ (x11_1 : Int), v11 = .int .i64 x11_1 ∧ Aside0 (spans_axis.l0 kq l0 l0 (l0.length : Int) x11_1 = some r) ∧ Aside0 (kq ≤ k) ∧ Drawn0 w w')
  case atStart => exact ⟨(0), (by first | rfl | (simp; done) | (simp [*]; done)), H', ⟨Nat.le_refl _⟩, by repeat (first | exact Drawn0.refl _ | apply Drawn0.step)⟩
  case round =>
   clear H'
   try clear p2
   try clear c3
   obtain ⟨x11_1, rfl, HA, HK1, ⟨m1, rfl⟩⟩ := hrel
   cases gk with
   | zero => exact absurd HA.out (by simp [spans_axis.l0])
   | succ k1 =>
    have H := HA.out
    clear HA
    simp only [spans_axis.l0] at H
    by_cases c4 : x11_1 < (l0.length : Int)
    ·
     rw [if_pos c4] at H
     have c4b0 : decide (x11_1 < (l0.length : Int)) = true := decide_eq_true c4
     clear c4
     by_cases c5 : 0 ≤ x11_1
     ·
      rw [if_pos c5] at H
      have c5b0 : decide (0 ≤ x11_1) = true := decide_eq_true c5
      clear c5
      by_cases c6 : x11_1 < (l0.length : Int)
      ·
       rw [if_pos c6] at H
       have c6b0 : decide (x11_1 < (l0.length : Int)) = true := decide_eq_true c6
       clear c6
       replace H := Option.bind_eq_some_iff.mp H
       obtain ⟨t103, A70, H⟩ := H
       replace H : (if t103 = true then (if x11_1 > 0 then (if 0 ≤ (wrap64 (x11_1 - 1)) then (if (wrap64 (x11_1 - 1)) < (l0.length : Int) then ((spans_within.f (wrap64 ((rd l0 x11_1) - (rd l0 (wrap64 (x11_1 - 1))))) 1 10000).bind fun t105 => (if t105 = true then (spans_axis.l0 k1 l0 l0 (l0.length : Int) (wrap64 (x11_1 + 1))) else (some false))) else (none)) else (none)) else (spans_axis.l0 k1 l0 l0 (l0.length : Int) (wrap64 (x11_1 + 1)))) else (some false)) = some r := H
       have A7 := Aside0.mk A70
       clear A70
       by_cases c8 : t103 = true
       ·
        subst c8
        have H1 : (if x11_1 > 0 then (if 0 ≤ (wrap64 (x11_1 - 1)) then (if (wrap64 (x11_1 - 1)) < (l0.length : Int) then ((spans_within.f (wrap64 ((rd l0 x11_1) - (rd l0 (wrap64 (x11_1 - 1))))) 1 10000).bind fun t105 => (if t105 = true then (spans_axis.l0 k1 l0 l0 (l0.length : Int) (wrap64 (x11_1 + 1))) else (some false))) else (none)) else (none)) else (spans_axis.l0 k1 l0 l0 (l0.length : Int) (wrap64 (x11_1 + 1)))) = some r := by rw [if_pos rfl] at H; exact H
        clear H
        have H := H1
        clear H1
        by_cases c9 : x11_1 > 0
        ·
         rw [if_pos c9] at H
         have c9b0 : decide (0 < x11_1) = true := decide_eq_true c9
         clear c9
         obtain ⟨ji10, hji10⟩ : ∃ j_ : Int, (wrap64 (x11_1 - 1)) = j_ := ⟨_, rfl⟩
         replace H : (if 0 ≤ (ji10) then (if (ji10) < (l0.length : Int) then ((spans_within.f (wrap64 ((rd l0 x11_1) - (rd l0 (ji10)))) 1 10000).bind fun t105 => (if t105 = true then (spans_axis.l0 k1 l0 l0 (l0.length : Int) (wrap64 (x11_1 + 1))) else (some false))) else (none)) else (none)) = some r := by first | (rw [hji10] at H; exact H) | (simp only [hji10] at H ⊢; exact H)
         (try rw [hji10] at A7)
         have hji10w : (IntKind.i64.wrap (x11_1 - 1)) = ji10 := (i64_w _).trans hji10
         by_cases c11 : 0 ≤ (ji10)
         ·
          rw [if_pos c11] at H
          have c11b0 : decide (0 ≤ (ji10)) = true := decide_eq_true c11
          clear c11
          by_cases c12 : (ji10) < (l0.length : Int)
          ·
           rw [if_pos c12] at H
           have c12b0 : decide ((ji10) < (l0.length : Int)) = true := decide_eq_true c12
           clear c12
           replace H := Option.bind_eq_some_iff.mp H
           obtain ⟨t105, A130, H⟩ := H
           replace H : (if t105 = true then (spans_axis.l0 k1 l0 l0 (l0.length : Int) (wrap64 (x11_1 + 1))) else (some false)) = some r := H
           have A13 := Aside0.mk A130
           clear A130
           by_cases c14 : t105 = true
           ·
            subst c14
            have H1 : (spans_axis.l0 k1 l0 l0 (l0.length : Int) (wrap64 (x11_1 + 1))) = some r := by rw [if_pos rfl] at H; exact H
            clear H
            have H := H1
            clear H1
            have H' := Aside0.mk H
            clear H
            have p102 : 0 ≤ (x11_1 : Int) := of_decide_eq_true (by first | (with_reducible assumption) | assumption)
            have q102 : x11_1 < (l0.length : Int) := of_decide_eq_true (by first | (with_reducible assumption) | assumption)
            obtain ⟨ad102, e102, hx102_0⟩ := Kd.at_int HR0.out x11_1 p102 q102
            cases e102
            replace p102 := eq_true p102
            replace q102 := eq_true q102
            go_wp2_with (first | ((with_reducible refine gate_callee (f := 93) rfl ?_); refine goesL_ (some 17) rfl rfl Try.func93 (by kernel_rfl) rfl #[.int .i64 (rd l0 x11_1), .int .i64 (-1000000), .int .i64 1000000] rfl (by (try simp only [List.map_toArray, List.map_cons, List.map_nil]); first | done | rfl | (simp only [List.length_drop, List.length_take]; rfl)) ?_; (with_reducible refine (spans_within.calls (rd l0 x11_1) (-1000000) 1000000 true _ A7.out).mono ?_); rintro e w' ⟨rfl, ⟨nd, rfl⟩⟩; refine ⟨_, rfl, ?_⟩; have p104 : 0 ≤ ((ji10) : Int) := of_decide_eq_true (by first | (with_reducible assumption) | assumption); have q104 : (ji10) < (l0.length : Int) := of_decide_eq_true (by first | (with_reducible assumption) | assumption); obtain ⟨ad104, e104, hx104_0⟩ := Kd.at_int HR0.out (ji10) p104 q104; obtain rfl : ad102 = ad104 := (by injection e104); replace p104 := eq_true p104; replace q104 := eq_true q104) | (go_at_call 93; (with_reducible refine (spans_within.calls (wrap64 ((rd l0 x11_1) - (rd l0 (ji10)))) 1 10000 true _ A13.out).mono ?_); rintro e w' ⟨rfl, ⟨nd, rfl⟩⟩))
            go_roundg k1
            case measure => have := HK1.out; omega
            case rel => exact ⟨(wrap64 (x11_1 + 1)), (by first | rfl | (simp; done) | (simp [*]; done)), H', ⟨by have := HK1.out; omega⟩, by repeat (first | exact Drawn0.refl _ | apply Drawn0.step)⟩
           ·
            replace c14 := Bool.eq_false_iff.mpr c14
            subst c14
            have H1 : (some false) = some r := by rw [if_neg (show ¬ (false = true) by decide)] at H; exact H
            clear H
            have H := H1
            clear H1
            obtain rfl := Option.some.inj H
            have p102 : 0 ≤ (x11_1 : Int) := of_decide_eq_true (by first | (with_reducible assumption) | assumption)
            have q102 : x11_1 < (l0.length : Int) := of_decide_eq_true (by first | (with_reducible assumption) | assumption)
            obtain ⟨ad102, e102, hx102_0⟩ := Kd.at_int HR0.out x11_1 p102 q102
            cases e102
            replace p102 := eq_true p102
            replace q102 := eq_true q102
            go_wp2_with (first | ((with_reducible refine gate_callee (f := 93) rfl ?_); refine goesL_ (some 17) rfl rfl Try.func93 (by kernel_rfl) rfl #[.int .i64 (rd l0 x11_1), .int .i64 (-1000000), .int .i64 1000000] rfl (by (try simp only [List.map_toArray, List.map_cons, List.map_nil]); first | done | rfl | (simp only [List.length_drop, List.length_take]; rfl)) ?_; (with_reducible refine (spans_within.calls (rd l0 x11_1) (-1000000) 1000000 true _ A7.out).mono ?_); rintro e w' ⟨rfl, ⟨nd, rfl⟩⟩; refine ⟨_, rfl, ?_⟩; have p104 : 0 ≤ ((ji10) : Int) := of_decide_eq_true (by first | (with_reducible assumption) | assumption); have q104 : (ji10) < (l0.length : Int) := of_decide_eq_true (by first | (with_reducible assumption) | assumption); obtain ⟨ad104, e104, hx104_0⟩ := Kd.at_int HR0.out (ji10) p104 q104; obtain rfl : ad102 = ad104 := (by injection e104); replace p104 := eq_true p104; replace q104 := eq_true q104) | (go_at_call 93; (with_reducible refine (spans_within.calls (wrap64 ((rd l0 x11_1) - (rd l0 (ji10)))) 1 10000 false _ A13.out).mono ?_); rintro e w' ⟨rfl, ⟨nd, rfl⟩⟩))
            go_ret
            exact ⟨by first | rfl | (simp; done) | (simp only [← hji10] <;> (first | rfl | simp)) | (simp [*]; done), by repeat (first | exact Drawn0.refl _ | apply Drawn0.step)⟩
          ·
           rw [if_neg c12] at H
           exact absurd H (by simp)
         ·
          rw [if_neg c11] at H
          exact absurd H (by simp)
        ·
         rw [if_neg c9] at H
         have c9b0 : decide (0 < x11_1) = false := decide_eq_false c9
         clear c9
         have H' := Aside0.mk H
         clear H
         have p102 : 0 ≤ (x11_1 : Int) := of_decide_eq_true (by first | (with_reducible assumption) | assumption)
         have q102 : x11_1 < (l0.length : Int) := of_decide_eq_true (by first | (with_reducible assumption) | assumption)
         obtain ⟨ad102, e102, hx102_0⟩ := Kd.at_int HR0.out x11_1 p102 q102
         cases e102
         replace p102 := eq_true p102
         replace q102 := eq_true q102
         go_wp2_with (first | ((with_reducible refine gate_callee (f := 93) rfl ?_); refine goesL_ (some 17) rfl rfl Try.func93 (by kernel_rfl) rfl #[.int .i64 (rd l0 x11_1), .int .i64 (-1000000), .int .i64 1000000] rfl (by (try simp only [List.map_toArray, List.map_cons, List.map_nil]); first | done | rfl | (simp only [List.length_drop, List.length_take]; rfl)) ?_; (with_reducible refine (spans_within.calls (rd l0 x11_1) (-1000000) 1000000 true _ A7.out).mono ?_); rintro e w' ⟨rfl, ⟨nd, rfl⟩⟩; refine ⟨_, rfl, ?_⟩))
         go_roundg k1
         case measure => have := HK1.out; omega
         case rel => exact ⟨(wrap64 (x11_1 + 1)), (by first | rfl | (simp; done) | (simp [*]; done)), H', ⟨by have := HK1.out; omega⟩, by repeat (first | exact Drawn0.refl _ | apply Drawn0.step)⟩
       ·
        replace c8 := Bool.eq_false_iff.mpr c8
        subst c8
        have H1 : (some false) = some r := by rw [if_neg (show ¬ (false = true) by decide)] at H; exact H
        clear H
        have H := H1
        clear H1
        obtain rfl := Option.some.inj H
        have p102 : 0 ≤ (x11_1 : Int) := of_decide_eq_true (by first | (with_reducible assumption) | assumption)
        have q102 : x11_1 < (l0.length : Int) := of_decide_eq_true (by first | (with_reducible assumption) | assumption)
        obtain ⟨ad102, e102, hx102_0⟩ := Kd.at_int HR0.out x11_1 p102 q102
        cases e102
        replace p102 := eq_true p102
        replace q102 := eq_true q102
        go_wp2_with (first | ((with_reducible refine gate_callee (f := 93) rfl ?_); refine goesL_ (some 17) rfl rfl Try.func93 (by kernel_rfl) rfl #[.int .i64 (rd l0 x11_1), .int .i64 (-1000000), .int .i64 1000000] rfl (by (try simp only [List.map_toArray, List.map_cons, List.map_nil]); first | done | rfl | (simp only [List.length_drop, List.length_take]; rfl)) ?_; (with_reducible refine (spans_within.calls (rd l0 x11_1) (-1000000) 1000000 false _ A7.out).mono ?_); rintro e w' ⟨rfl, ⟨nd, rfl⟩⟩; refine ⟨_, rfl, ?_⟩))
        go_ret
        exact ⟨by first | rfl | (simp; done) | (simp [*]; done), by repeat (first | exact Drawn0.refl _ | apply Drawn0.step)⟩
      ·
       rw [if_neg c6] at H
       exact absurd H (by simp)
     ·
      rw [if_neg c5] at H
      exact absurd H (by simp)
    ·
     rw [if_neg c4] at H
     have c4b0 : decide (x11_1 < (l0.length : Int)) = false := decide_eq_false c4
     clear c4
     obtain rfl := Option.some.inj H
     go_wp2
     go_ret
     exact ⟨by first | rfl | (simp; done) | (simp [*]; done), by repeat (first | exact Drawn0.refl _ | apply Drawn0.step)⟩
 ·
  replace c3 := Bool.eq_false_iff.mpr c3
  subst c3
  have H1 : (some false) = some r := by rw [if_neg (show ¬ (false = true) by decide)] at H; exact H
  clear H
  have H := H1
  clear H1
  obtain rfl := Option.some.inj H
  go_enter Try.func98, Try.ntmps98
  go_wp2_with (first | ((with_reducible refine gate_callee (f := 93) rfl ?_); refine goesL_ (some 7) rfl rfl Try.func93 (by kernel_rfl) rfl #[.int .i64 (l0.length : Int), .int .i64 2, .int .i64 12] rfl (by (try simp only [List.map_toArray, List.map_cons, List.map_nil]); first | done | rfl | (simp only [List.length_drop, List.length_take]; rfl)) ?_; (with_reducible refine (spans_within.calls (l0.length : Int) 2 12 false _ A2.out).mono ?_); rintro e w' ⟨rfl, ⟨nd, rfl⟩⟩; refine ⟨_, rfl, ?_⟩))
  go_ret
  exact ⟨by first | rfl | (simp; done) | (simp [*]; done), by repeat (first | exact Drawn0.refl _ | apply Drawn0.step)⟩
end Go.Proofs.Yteodlmgmmpkpoaa.PS
end
section
namespace Go.Proofs.Yteodlmgmmpkpoaa.PS
open Go.RowKit Go.Proofs.YteodlmgmmpkpoaaW.PrintWords Go.Proofs.YteodlmgmmpkpoaaW.PrintLast Go.Proofs.YteodlmgmmpkpoaaW.PrintMore
set_option linter.unusedVariables false
theorem rd_nat (l : List Int) (i : Nat) : rd l (i : Int) = gI l i := by unfold rd gI; rw [Int.toNat_natCast]
def goodFrom (l : List Int) (i : Nat) : Bool := (l.drop i).all inM && gapsB (l.drop (i - 1))
theorem drop_step (l : List Int) (i : Nat) (hi : i < l.length) : l.drop i = gI l i :: l.drop (i + 1) := by
  rw [List.drop_eq_getElem_cons hi]
  unfold gI
  rw [List.getD_eq_getElem?_getD, List.getElem?_eq_getElem hi]
  rfl
theorem gaps_cons (a b : Int) (l : List Int) : gapsB (a :: b :: l) = ((decide (1 ≤ b - a) && decide (b - a ≤ 10000)) && gapsB (b :: l)) := by rw [gapsB]
theorem gaps_one (a : Int) : gapsB [a] = true := by simp [gapsB]
theorem inM_iff (x : Int) : inM x = true ↔ -1000000 ≤ x ∧ x ≤ 1000000 := by unfold inM; simp
theorem axis_loop (l : List Int) (hl : l.length ≤ 9223372036854775807) : ∀ (d k i : Nat), l.length - i = d → i ≤ l.length → d < k → (i = 0 ∨ inM (gI l (i - 1)) = true) →
    spans_axis.l0 k l l l.length i = some (goodFrom l i)
  | 0, k, i, hd, hi, hk, hp => by
    obtain ⟨k, rfl⟩ : ∃ m, k = m + 1 := ⟨k - 1, by omega⟩
    simp only [spans_axis.l0]
    rw [if_neg (by omega)]
    have hil : i = l.length := by omega
    subst hil
    unfold goodFrom
    rw [List.drop_length, List.all_nil, Bool.true_and]
    congr 1
    cases h : l.length with
    | zero => rw [List.length_eq_zero_iff.1 h]; rfl
    | succ n =>
      rw [show n + 1 - 1 = n from rfl, drop_step l n (by omega), List.drop_of_length_le (by omega)]
      exact (gaps_one _).symm
  | d + 1, k, i, hd, hi, hk, hp => by
    obtain ⟨k, rfl⟩ : ∃ m, k = m + 1 := ⟨k - 1, by omega⟩
    have hlt : i < l.length := by omega
    simp only [spans_axis.l0]
    rw [if_pos (by omega), if_pos (by omega), if_pos (by omega), rd_nat, within_total, Option.bind_some]
    have e0 : (decide (-1000000 ≤ gI l i) && decide (gI l i ≤ 1000000)) = inM (gI l i) := rfl
    rw [e0]
    cases hin : inM (gI l i) with
    | false =>
      rw [if_neg (by simp)]
      unfold goodFrom
      rw [drop_step l i hlt, List.all_cons, hin]
      rfl
    | true =>
      rw [if_pos rfl]
      have ih := axis_loop l hl d k (i + 1) (by omega) (by omega) (by omega) (.inr (by rw [Nat.add_sub_cancel]; exact hin))
      have e1 : wrap64 ((i : Int) + 1) = ((i + 1 : Nat) : Int) := by rw [wr64 (by omega) (by omega)]; rfl
      by_cases h0 : i = 0
      · subst h0
        rw [if_neg (by omega), e1, ih]
        unfold goodFrom
        rw [drop_step l 0 hlt, List.all_cons, hin]
        simp only [Nat.zero_add, Bool.true_and]
      · rw [if_pos (by omega)]
        have e2 : wrap64 ((i : Int) - 1) = ((i - 1 : Nat) : Int) := by rw [wr64 (by omega) (by omega)]; omega
        rw [e2, if_pos (by omega), if_pos (by omega), rd_nat]
        have hp' := (inM_iff _).1 (hp.resolve_left h0)
        have hi' := (inM_iff _).1 hin
        rw [wr64 (by omega) (by omega), within_total, Option.bind_some]
        have e3 : goodFrom l i = ((decide (1 ≤ gI l i - gI l (i - 1)) && decide (gI l i - gI l (i - 1) ≤ 10000)) && goodFrom l (i + 1)) := by
          unfold goodFrom
          rw [drop_step l i hlt, List.all_cons, hin, Bool.true_and, Nat.add_sub_cancel]
          rw [drop_step l (i - 1) (by omega), show i - 1 + 1 = i from by omega, drop_step l i hlt, gaps_cons]
          cases (decide (1 ≤ gI l i - gI l (i - 1)) && decide (gI l i - gI l (i - 1) ≤ 10000)) <;> simp
        cases hg : (decide (1 ≤ gI l i - gI l (i - 1)) && decide (gI l i - gI l (i - 1) ≤ 10000)) with
        | false => rw [if_neg (by simp), e3, hg]; rfl
        | true => rw [if_pos rfl, e1, ih, e3, hg, Bool.true_and]
theorem axis_total (l : List Int) (hl : l.length ≤ 9223372036854775807) (k : Nat) (hk : l.length < k) : spans_axis.f k l = some (axisB l) := by
  unfold spans_axis.f
  rw [within_total, Option.bind_some]
  have e : (decide ((2 : Int) ≤ (l.length : Int)) && decide ((l.length : Int) ≤ 12)) = (decide (2 ≤ l.length) && decide (l.length ≤ 12)) := by
    rw [Bool.eq_iff_iff]; simp; omega
  rw [e]
  unfold axisB
  cases h : (decide (2 ≤ l.length) && decide (l.length ≤ 12)) with
  | false => rw [if_neg (by simp)]; rfl
  | true =>
    rw [if_pos rfl]
    have := axis_loop l hl (l.length - 0) k 0 rfl (Nat.zero_le _) (by omega) (.inl rfl)
    rw [show ((0 : Nat) : Int) = 0 from rfl] at this
    rw [this]
    unfold goodFrom
    simp
end Go.Proofs.Yteodlmgmmpkpoaa.PS
end
section
namespace Go.Proofs.Yteodlmgmmpkpoaa.PS
open Go.RowKit Go.Proofs.YteodlmgmmpkpoaaW.PrintWords Go.Proofs.YteodlmgmmpkpoaaW.PrintLast Go.Proofs.YteodlmgmmpkpoaaW.PrintMore
attribute [local go_sem] max2_int min2_int max_two min_two max_three min_three max_four min_four   -- for this text's walks alone
set_option linter.unusedVariables false
set_option linter.unusedSimpArgs false
def swashplateref01_From.f (a0 : Int) (a1 : Int) (a2 : Int) : Option (Bool) := if a0 ≥ a1 then (some (decide (a0 ≤ a2))) else (some false)
set_option maxHeartbeats 8000000 in
set_option maxRecDepth 100000 in
theorem swashplateref01_From.calls (a0 : Int) (a1 : Int) (a2 : Int) (r : Bool) (w : World) (h : swashplateref01_From.f a0 a1 a2 = some r) :
  Calls Try.prog 37 #[.int .i64 a0, .int .i64 a1, .int .i64 a2] w fun e w' => e = .returned (.bool r) ∧ Drawn0 w w' := by
 have H : (if a0 ≥ a1 then (some (decide (a0 ≤ a2))) else (some false)) = some r := h
 clear h
 by_cases c4 : a0 ≥ a1
 ·
  rw [if_pos c4] at H
  have c4b0 : decide (a1 ≤ a0) = true := decide_eq_true c4
  clear c4
  obtain rfl := Option.some.inj H
  go_enter Try.func37, Try.ntmps37
  go_wp2
  go_ret
  exact ⟨by first | rfl | (simp; done) | (simp [*]; done), by repeat (first | exact Drawn0.refl _ | apply Drawn0.step)⟩
 ·
  rw [if_neg c4] at H
  have c4b0 : decide (a1 ≤ a0) = false := decide_eq_false c4
  clear c4
  obtain rfl := Option.some.inj H
  go_enter Try.func37, Try.ntmps37
  go_wp2
  go_ret
  exact ⟨by first | rfl | (simp; done) | (simp [*]; done), by repeat (first | exact Drawn0.refl _ | apply Drawn0.step)⟩
end Go.Proofs.Yteodlmgmmpkpoaa.PS
end
section
namespace Go.Proofs.Yteodlmgmmpkpoaa.PS
open Go.RowKit Go.Proofs.YteodlmgmmpkpoaaW.PrintWords Go.Proofs.YteodlmgmmpkpoaaW.PrintLast Go.Proofs.YteodlmgmmpkpoaaW.PrintMore
attribute [local go_sem] max2_int min2_int max_two min_two max_three min_three max_four min_four   -- for this text's walks alone
set_option linter.unusedVariables false
set_option linter.unusedSimpArgs false
def swashplateref01_Valid.f (a0_0 : Int) (a0_1 : Int) : Option (Bool) := (swashplateref01_From.f a0_0 (-1000000) 1000000).bind fun t330 => (if t330 = true then ((swashplateref01_From.f a0_1 a0_0 1000000).bind fun t331 => (some t331)) else (some false))
set_option maxHeartbeats 8000000 in
set_option maxRecDepth 100000 in
theorem swashplateref01_Valid.calls (a0_0 : Int) (a0_1 : Int) (r : Bool) (w : World) (h : swashplateref01_Valid.f a0_0 a0_1 = some r) :
  Calls Try.prog 40 #[.agg #[.int .i64 a0_0, .int .i64 a0_1]] w fun e w' => e = .returned (.bool r) ∧ Below w.heap.size w w' := by
 have hu27 := Try.underlying27
 have HB := Aside0.mk (Below.refl w.heap.size w)
 have H : ((swashplateref01_From.f a0_0 (-1000000) 1000000).bind fun t330 => (if t330 = true then ((swashplateref01_From.f a0_1 a0_0 1000000).bind fun t331 => (some t331)) else (some false))) = some r := h
 clear h
 replace H := Option.bind_eq_some_iff.mp H
 obtain ⟨t330, A20, H⟩ := H
 replace H : (if t330 = true then ((swashplateref01_From.f a0_1 a0_0 1000000).bind fun t331 => (some t331)) else (some false)) = some r := H
 have A2 := Aside0.mk A20
 clear A20
 by_cases c3 : t330 = true
 ·
  subst c3
  have H1 : ((swashplateref01_From.f a0_1 a0_0 1000000).bind fun t331 => (some t331)) = some r := by rw [if_pos rfl] at H; exact H
  clear H
  have H := H1
  clear H1
  replace H := Option.bind_eq_some_iff.mp H
  obtain ⟨t331, A40, H⟩ := H
  replace H : (some t331) = some r := H
  have A4 := Aside0.mk A40
  clear A40
  obtain rfl := Option.some.inj H
  go_enter Try.func40, Try.ntmps40
  go_wp2_with (first | ((with_reducible refine gate_dst (N := 1) rfl ?_); refine box_event ?hg (N := 1) ?hd (cs := #[.int .i64 a0_0, .int .i64 a0_1]) (t := 27) ?hr ?_; (case hd => rfl); (case hg => rfl); (case hr => first | (go_simp; done) | (go_simp; rfl)); intro gb329 hg w5 hbox hb; have n0_ := Aside0.mk (below_step (bl_ HB.out) hb); have n1_ := Aside0.mk (hbox); have n2_ := Aside0.mk (szl_ hg HB.out); have n3_ := Aside0.mk (szl_ hg HB.out); clear HB; have HB := n0_; have BK329 := n1_; have GW329 := n2_; have GE329 := n3_; clear n0_ n1_ n2_ n3_ hb hbox hg; have hcz6_0 : w5.cell? ⟨gb329, 0, none⟩ = some (.int .i64 a0_0) := (blk_cell BK329.out 0).trans rfl; have hcz6_1 : w5.cell? ⟨gb329, 1, none⟩ = some (.int .i64 a0_1) := (blk_cell BK329.out 1).trans rfl; have hfz6_0 := blk_frozen BK329.out 0; have hfz6_1 := blk_frozen BK329.out 1) | ((with_reducible refine gate_callee (f := 37) rfl ?_); refine goesL_ (some 5) rfl rfl Try.func37 (by kernel_rfl) rfl #[.int .i64 a0_0, .int .i64 (-1000000), .int .i64 1000000] rfl (by (try simp only [List.map_toArray, List.map_cons, List.map_nil]); first | done | rfl | (simp only [List.length_drop, List.length_take]; rfl)) ?_; (with_reducible refine (swashplateref01_From.calls a0_0 (-1000000) 1000000 true _ A2.out).mono ?_); rintro e w' ⟨rfl, ⟨nd, rfl⟩⟩; refine ⟨_, rfl, ?_⟩) | (go_at_call 37; (with_reducible refine (swashplateref01_From.calls a0_1 a0_0 1000000 t331 _ A4.out).mono ?_); rintro e w' ⟨rfl, ⟨nd, rfl⟩⟩))
  go_ret
  exact ⟨by first | rfl | (simp [errW_none, errW_some] <;> rfl) | (simp [*, errW_none, errW_some] <;> rfl), bl_ HB.out⟩
 ·
  replace c3 := Bool.eq_false_iff.mpr c3
  subst c3
  have H1 : (some false) = some r := by rw [if_neg (show ¬ (false = true) by decide)] at H; exact H
  clear H
  have H := H1
  clear H1
  obtain rfl := Option.some.inj H
  go_enter Try.func40, Try.ntmps40
  go_wp2_with (first | ((with_reducible refine gate_dst (N := 1) rfl ?_); refine box_event ?hg (N := 1) ?hd (cs := #[.int .i64 a0_0, .int .i64 a0_1]) (t := 27) ?hr ?_; (case hd => rfl); (case hg => rfl); (case hr => first | (go_simp; done) | (go_simp; rfl)); intro gb329 hg w7 hbox hb; have n0_ := Aside0.mk (below_step (bl_ HB.out) hb); have n1_ := Aside0.mk (hbox); have n2_ := Aside0.mk (szl_ hg HB.out); have n3_ := Aside0.mk (szl_ hg HB.out); clear HB; have HB := n0_; have BK329 := n1_; have GW329 := n2_; have GE329 := n3_; clear n0_ n1_ n2_ n3_ hb hbox hg; have hcz8_0 : w7.cell? ⟨gb329, 0, none⟩ = some (.int .i64 a0_0) := (blk_cell BK329.out 0).trans rfl; have hcz8_1 : w7.cell? ⟨gb329, 1, none⟩ = some (.int .i64 a0_1) := (blk_cell BK329.out 1).trans rfl; have hfz8_0 := blk_frozen BK329.out 0; have hfz8_1 := blk_frozen BK329.out 1) | ((with_reducible refine gate_callee (f := 37) rfl ?_); refine goesL_ (some 5) rfl rfl Try.func37 (by kernel_rfl) rfl #[.int .i64 a0_0, .int .i64 (-1000000), .int .i64 1000000] rfl (by (try simp only [List.map_toArray, List.map_cons, List.map_nil]); first | done | rfl | (simp only [List.length_drop, List.length_take]; rfl)) ?_; (with_reducible refine (swashplateref01_From.calls a0_0 (-1000000) 1000000 false _ A2.out).mono ?_); rintro e w' ⟨rfl, ⟨nd, rfl⟩⟩; refine ⟨_, rfl, ?_⟩))
  go_ret
  exact ⟨by first | rfl | (simp [errW_none, errW_some] <;> rfl) | (simp [*, errW_none, errW_some] <;> rfl), bl_ HB.out⟩
end Go.Proofs.Yteodlmgmmpkpoaa.PS
end
section
namespace Go.Proofs.Yteodlmgmmpkpoaa.PS
open Go.RowKit Go.Proofs.YteodlmgmmpkpoaaW.PrintWords Go.Proofs.YteodlmgmmpkpoaaW.PrintLast Go.Proofs.YteodlmgmmpkpoaaW.PrintMore
attribute [local go_sem] max2_int min2_int max_two min_two max_three min_three max_four min_four   -- for this text's walks alone
set_option linter.unusedVariables false
set_option linter.unusedSimpArgs false
def swashplateref01_Check.l0 : Nat → List (S27) → Int → Option (Int)
 | 0, _, _ => none
 | k + 1, x0, x3 => if x3 < (x0.length : Int) then (if 0 ≤ x3 then ((swashplateref01_Valid.f ((rd_T27 x0 x3).f0) ((rd_T27 x0 x3).f1)).bind fun t334 => (if t334 = true then (swashplateref01_Check.l0 k x0 (wrap64 (x3 + 1))) else (some 10))) else (none)) else (some 0)
def swashplateref01_Check.f (k : Nat) (l0 : List (S27)) : Option (Int) := (swashplateref01_From.f (l0.length : Int) 1 3).bind fun t332 => (if t332 = true then (swashplateref01_Check.l0 k l0 0) else (some 10))
set_option maxHeartbeats 8000000 in
set_option maxRecDepth 100000 in
theorem swashplateref01_Check.calls (k : Nat) (A0 : Option Addr) (c0 : Nat) (l0 : List (S27)) (r : Int) (w : World) (hr0 : Kd.C k27 w A0 l0.length l0) (hc0 : l0.length ≤ c0) (h : swashplateref01_Check.f k l0 = some r) :
  Calls Try.prog 28 #[.slice A0 l0.length c0] w fun e w' => e = .returned (.int .i64 r) ∧ Below w.heap.size w w' := by
 have hu27 := Try.underlying27
 have HR0 := Aside0.mk hr0
 have HC0 := Aside0.mk hc0
 clear hr0 hc0
 have HB := Aside0.mk (Below.refl w.heap.size w)
 have H : ((swashplateref01_From.f (l0.length : Int) 1 3).bind fun t332 => (if t332 = true then (swashplateref01_Check.l0 k l0 0) else (some 10))) = some r := h
 clear h
 replace H := Option.bind_eq_some_iff.mp H
 obtain ⟨t332, A20, H⟩ := H
 replace H : (if t332 = true then (swashplateref01_Check.l0 k l0 0) else (some 10)) = some r := H
 have A2 := Aside0.mk A20
 clear A20
 by_cases c3 : t332 = true
 ·
  subst c3
  have H1 : (swashplateref01_Check.l0 k l0 0) = some r := by rw [if_pos rfl] at H; exact H
  clear H
  have H := H1
  clear H1
  have H' := Aside0.mk H
  clear H
  go_enter Try.func28, Try.ntmps28
  go_wp2_with (first | ((with_reducible refine gate_callee (f := 37) rfl ?_); refine goesL_ (some 6) rfl rfl Try.func37 (by kernel_rfl) rfl #[.int .i64 (l0.length : Int), .int .i64 1, .int .i64 3] rfl (by (try simp only [List.map_toArray, List.map_cons, List.map_nil]); first | done | rfl | (simp only [List.length_drop, List.length_take]; rfl)) ?_; (with_reducible refine (swashplateref01_From.calls (l0.length : Int) 1 3 true _ A2.out).mono ?_); rintro e w' ⟨rfl, ⟨nd, rfl⟩⟩; refine ⟨_, rfl, ?_⟩))
  go_loopg [3] k (fun kq v3 w' => ∃ (x3_1 : Int), v3 = .int .i64 x3_1 ∧ Aside0 (swashplateref01_Check.l0 kq l0 x3_1 = some r) ∧ Aside0 (kq ≤ k) ∧ Aside0 (Below w.heap.size w w'))
  case atStart => exact ⟨(0), (by first | rfl | (simp; done) | (simp [*]; done)), H', ⟨Nat.le_refl _⟩, ⟨bl_ HB.out⟩⟩
  case round =>
   clear H'
   try clear c2
   try clear p2
   try clear c3
   obtain ⟨x3_1, rfl, HA, HK1, HB⟩ := hrel
   cases gk with
   | zero => exact absurd HA.out (by simp [swashplateref01_Check.l0])
   | succ k1 =>
    have H := HA.out
    clear HA
    simp only [swashplateref01_Check.l0] at H
    by_cases c4 : x3_1 < (l0.length : Int)
    ·
     rw [if_pos c4] at H
     have c4b0 : decide (x3_1 < (l0.length : Int)) = true := decide_eq_true c4
     clear c4
     by_cases c5 : 0 ≤ x3_1
     ·
      rw [if_pos c5] at H
      have c5b0 : decide (0 ≤ x3_1) = true := decide_eq_true c5
      clear c5
      replace H := Option.bind_eq_some_iff.mp H
      obtain ⟨t334, A60, H⟩ := H
      replace H : (if t334 = true then (swashplateref01_Check.l0 k1 l0 (wrap64 (x3_1 + 1))) else (some 10)) = some r := H
      have A6 := Aside0.mk A60
      clear A60
      by_cases c7 : t334 = true
      ·
       subst c7
       have H1 : (swashplateref01_Check.l0 k1 l0 (wrap64 (x3_1 + 1))) = some r := by rw [if_pos rfl] at H; exact H
       clear H
       have H := H1
       clear H1
       have H' := Aside0.mk H
       clear H
       have p333 : 0 ≤ (x3_1 : Int) := of_decide_eq_true (by first | (with_reducible assumption) | assumption)
       have q333 : x3_1 < (l0.length : Int) := of_decide_eq_true (by first | (with_reducible assumption) | assumption)
       obtain ⟨ad333, e333, hx333_0, hx333_1⟩ := at_T27 HR0.out x3_1 p333 q333
       cases e333
       replace hx333_0 := (HB.out.cell (World.block_lt_of_cell? w _ hx333_0)).trans hx333_0
       replace hx333_1 := (HB.out.cell (World.block_lt_of_cell? w _ hx333_1)).trans hx333_1
       replace p333 := eq_true p333
       replace q333 := eq_true q333
       go_wp2_with (first | ((with_reducible refine gate_callee (f := 40) rfl ?_); refine goesL_ (some 18) rfl rfl Try.func40 (by kernel_rfl) rfl #[.agg #[.int .i64 ((rd_T27 l0 x3_1).f0), .int .i64 ((rd_T27 l0 x3_1).f1)]] rfl (by (try simp only [List.map_toArray, List.map_cons, List.map_nil]); first | done | rfl | (simp only [List.length_drop, List.length_take]; rfl)) ?_; (with_reducible refine (swashplateref01_Valid.calls ((rd_T27 l0 x3_1).f0) ((rd_T27 l0 x3_1).f1) true _ A6.out).mono ?_); rintro e w8 ⟨rfl, hb⟩; refine ⟨_, rfl, ?_⟩; have n0_ := Aside0.mk (below_step (bl_ HB.out) hb); clear HB; have HB := n0_; clear n0_; (try clear hb); (try clear hb2); (try clear hk); (try clear hi)))
       go_roundg k1
       case measure => have := HK1.out; omega
       case rel => exact ⟨(wrap64 (x3_1 + 1)), (by first | rfl | (simp; done) | (simp [*]; done)), H', ⟨by have := HK1.out; omega⟩, ⟨bl_ HB.out⟩⟩
      ·
       replace c7 := Bool.eq_false_iff.mpr c7
       subst c7
       have H1 : (some 10) = some r := by rw [if_neg (show ¬ (false = true) by decide)] at H; exact H
       clear H
       have H := H1
       clear H1
       obtain rfl := Option.some.inj H
       have p333 : 0 ≤ (x3_1 : Int) := of_decide_eq_true (by first | (with_reducible assumption) | assumption)
       have q333 : x3_1 < (l0.length : Int) := of_decide_eq_true (by first | (with_reducible assumption) | assumption)
       obtain ⟨ad333, e333, hx333_0, hx333_1⟩ := at_T27 HR0.out x3_1 p333 q333
       cases e333
       replace hx333_0 := (HB.out.cell (World.block_lt_of_cell? w _ hx333_0)).trans hx333_0
       replace hx333_1 := (HB.out.cell (World.block_lt_of_cell? w _ hx333_1)).trans hx333_1
       replace p333 := eq_true p333
       replace q333 := eq_true q333
       go_wp2_with (first | ((with_reducible refine gate_callee (f := 40) rfl ?_); refine goesL_ (some 18) rfl rfl Try.func40 (by kernel_rfl) rfl #[.agg #[.int .i64 ((rd_T27 l0 x3_1).f0), .int .i64 ((rd_T27 l0 x3_1).f1)]] rfl (by (try simp only [List.map_toArray, List.map_cons, List.map_nil]); first | done | rfl | (simp only [List.length_drop, List.length_take]; rfl)) ?_; (with_reducible refine (swashplateref01_Valid.calls ((rd_T27 l0 x3_1).f0) ((rd_T27 l0 x3_1).f1) false _ A6.out).mono ?_); rintro e w9 ⟨rfl, hb⟩; refine ⟨_, rfl, ?_⟩; have n0_ := Aside0.mk (below_step (bl_ HB.out) hb); clear HB; have HB := n0_; clear n0_; (try clear hb); (try clear hb2); (try clear hk); (try clear hi)))
       go_ret
       exact ⟨by first | rfl | (simp [errW_none, errW_some] <;> rfl) | (simp [*, errW_none, errW_some] <;> rfl), bl_ HB.out⟩
     ·
      rw [if_neg c5] at H
      exact absurd H (by simp)
    ·
     rw [if_neg c4] at H
     have c4b0 : decide (x3_1 < (l0.length : Int)) = false := decide_eq_false c4
     clear c4
     obtain rfl := Option.some.inj H
     go_wp2
     go_ret
     exact ⟨by first | rfl | (simp [errW_none, errW_some] <;> rfl) | (simp [*, errW_none, errW_some] <;> rfl), bl_ HB.out⟩
 ·
  replace c3 := Bool.eq_false_iff.mpr c3
  subst c3
  have H1 : (some 10) = some r := by rw [if_neg (show ¬ (false = true) by decide)] at H; exact H
  clear H
  have H := H1
  clear H1
  obtain rfl := Option.some.inj H
  go_enter Try.func28, Try.ntmps28
  go_wp2_with (first | ((with_reducible refine gate_callee (f := 37) rfl ?_); refine goesL_ (some 6) rfl rfl Try.func37 (by kernel_rfl) rfl #[.int .i64 (l0.length : Int), .int .i64 1, .int .i64 3] rfl (by (try simp only [List.map_toArray, List.map_cons, List.map_nil]); first | done | rfl | (simp only [List.length_drop, List.length_take]; rfl)) ?_; (with_reducible refine (swashplateref01_From.calls (l0.length : Int) 1 3 false _ A2.out).mono ?_); rintro e w' ⟨rfl, ⟨nd, rfl⟩⟩; refine ⟨_, rfl, ?_⟩))
  go_ret
  exact ⟨by first | rfl | (simp [errW_none, errW_some] <;> rfl) | (simp [*, errW_none, errW_some] <;> rfl), bl_ HB.out⟩
end Go.Proofs.Yteodlmgmmpkpoaa.PS
end
section
namespace Go.Proofs.Yteodlmgmmpkpoaa.PS
open Go.RowKit Go.Proofs.YteodlmgmmpkpoaaW.PrintWords Go.Proofs.YteodlmgmmpkpoaaW.PrintLast Go.Proofs.YteodlmgmmpkpoaaW.PrintMore
attribute [local go_sem] max2_int min2_int max_two min_two max_three min_three max_four min_four   -- for this text's walks alone
set_option linter.unusedVariables false
set_option linter.unusedSimpArgs false
def spans_Check.f (l0 : List (S27)) : Option (Int) := (spans_within.f (l0.length : Int) 1 3).bind fun t158 => (if t158 = true then ((spans_spanned.f l0).bind fun t159 => (some t159)) else (some 10))
set_option maxHeartbeats 8000000 in
set_option maxRecDepth 100000 in
theorem spans_Check.calls (A0 : Option Addr) (c0 : Nat) (l0 : List (S27)) (r : Int) (w : World) (hr0 : Kd.C k27 w A0 l0.length l0) (hc0 : l0.length ≤ c0) (h : spans_Check.f l0 = some r) :
  Calls Try.prog 26 #[.slice A0 l0.length c0] w fun e w' => e = .returned (.int .i64 r) ∧ Below w.heap.size w w' := by
 have HR0 := Aside0.mk hr0
 have HC0 := Aside0.mk hc0
 clear hr0 hc0
 have HB := Aside0.mk (Below.refl w.heap.size w)
 have H : ((spans_within.f (l0.length : Int) 1 3).bind fun t158 => (if t158 = true then ((spans_spanned.f l0).bind fun t159 => (some t159)) else (some 10))) = some r := h
 clear h
 replace H := Option.bind_eq_some_iff.mp H
 obtain ⟨t158, A20, H⟩ := H
 replace H : (if t158 = true then ((spans_spanned.f l0).bind fun t159 => (some t159)) else (some 10)) = some r := H
 have A2 := Aside0.mk A20
 clear A20
 by_cases c3 : t158 = true
 ·
  subst c3
  have H1 : ((spans_spanned.f l0).bind fun t159 => (some t159)) = some r := by rw [if_pos rfl] at H; exact H
  clear H
  have H := H1
  clear H1
  replace H := Option.bind_eq_some_iff.mp H
  obtain ⟨t159, A40, H⟩ := H
  replace H : (some t159) = some r := H
  have A4 := Aside0.mk A40
  clear A40
  obtain rfl := Option.some.inj H
  go_enter Try.func26, Try.ntmps26
  go_wp2_with (first | ((with_reducible refine gate_callee (f := 93) rfl ?_); refine goesL_ (some 5) rfl rfl Try.func93 (by kernel_rfl) rfl #[.int .i64 (l0.length : Int), .int .i64 1, .int .i64 3] rfl (by (try simp only [List.map_toArray, List.map_cons, List.map_nil]); first | done | rfl | (simp only [List.length_drop, List.length_take]; rfl)) ?_; (with_reducible refine (spans_within.calls (l0.length : Int) 1 3 true _ A2.out).mono ?_); rintro e w' ⟨rfl, ⟨nd, rfl⟩⟩; refine ⟨_, rfl, ?_⟩) | ((with_reducible refine gate_callee (f := 94) rfl ?_); refine goesL_ (some 8) rfl rfl Try.func94 (by kernel_rfl) rfl #[.slice A0 l0.length c0] rfl (by (try simp only [List.map_toArray, List.map_cons, List.map_nil]); first | done | rfl | (simp only [List.length_drop, List.length_take]; rfl)) ?_; (with_reducible refine (spans_spanned.calls _ _ l0 t159 _ ?side1 ?side2 A4.out).mono ?_); (case side1 => exact cr_ HR0.out); (case side2 => exact HC0.out); rintro e w5 ⟨rfl, hb⟩; refine ⟨_, rfl, ?_⟩; have n0_ := Aside0.mk (below_step (bl_ HB.out) hb); clear HB; have HB := n0_; clear n0_; (try clear hb); (try clear hb2); (try clear hk); (try clear hi)))
  go_ret
  exact ⟨by first | rfl | (simp [errW_none, errW_some] <;> rfl) | (simp [*, errW_none, errW_some] <;> rfl), bl_ HB.out⟩
 ·
  replace c3 := Bool.eq_false_iff.mpr c3
  subst c3
  have H1 : (some 10) = some r := by rw [if_neg (show ¬ (false = true) by decide)] at H; exact H
  clear H
  have H := H1
  clear H1
  obtain rfl := Option.some.inj H
  go_enter Try.func26, Try.ntmps26
  go_wp2_with (first | ((with_reducible refine gate_callee (f := 93) rfl ?_); refine goesL_ (some 5) rfl rfl Try.func93 (by kernel_rfl) rfl #[.int .i64 (l0.length : Int), .int .i64 1, .int .i64 3] rfl (by (try simp only [List.map_toArray, List.map_cons, List.map_nil]); first | done | rfl | (simp only [List.length_drop, List.length_take]; rfl)) ?_; (with_reducible refine (spans_within.calls (l0.length : Int) 1 3 false _ A2.out).mono ?_); rintro e w' ⟨rfl, ⟨nd, rfl⟩⟩; refine ⟨_, rfl, ?_⟩))
  go_ret
  exact ⟨by first | rfl | (simp [errW_none, errW_some] <;> rfl) | (simp [*, errW_none, errW_some] <;> rfl), bl_ HB.out⟩
end Go.Proofs.Yteodlmgmmpkpoaa.PS
end
section
namespace Go.Proofs.Yteodlmgmmpkpoaa.PS
open Go.RowKit Go.Proofs.YteodlmgmmpkpoaaW.PrintWords Go.Proofs.YteodlmgmmpkpoaaW.PrintLast Go.Proofs.YteodlmgmmpkpoaaW.PrintMore
set_option linter.unusedVariables false
theorem from_total (a b c : Int) : swashplateref01_From.f a b c = some (decide (b ≤ a) && decide (a ≤ c)) := by
  unfold swashplateref01_From.f
  by_cases h : a ≥ b
  · rw [if_pos h]; simp [show b ≤ a from h]
  · rw [if_neg h]; simp [show ¬ b ≤ a from h]
theorem rvalid_total (a b : Int) : swashplateref01_Valid.f a b = some (okS a b) := by
  unfold swashplateref01_Valid.f okS
  rw [from_total, Option.bind_some]
  by_cases h : (decide (-1000000 ≤ a) && decide (a ≤ 1000000)) = true
  · rw [if_pos h, from_total, Option.bind_some]
    simp only [Bool.and_eq_true, decide_eq_true_eq] at h
    congr 1
    rw [Bool.eq_iff_iff]
    simp
    omega
  · rw [if_neg h]
    simp only [Bool.and_eq_true, decide_eq_true_eq] at h
    congr 1
    symm
    rw [Bool.eq_false_iff]
    intro h2
    simp at h2
    omega
theorem step64 (i : Nat) (h : i < 9223372036854775807) : wrap64 ((i : Int) + 1) = ((i + 1 : Nat) : Int) := by rw [wr64 (by omega) (by omega)]; rfl
theorem drop_stepG {α : Type} (d : α) (l : List α) (i : Nat) (hi : i < l.length) : l.drop i = l.getD i d :: l.drop (i + 1) := by
  rw [List.drop_eq_getElem_cons hi, List.getD_eq_getElem?_getD, List.getElem?_eq_getElem hi]
  rfl
theorem rdT27_nat (l : List S27) (i : Nat) : rd_T27 l (i : Int) = l.getD i z27 := by unfold rd_T27; rw [Int.toNat_natCast]
theorem rcheck_loop (l : List S27) (hl : l.length ≤ 9223372036854775806) : ∀ (k i : Nat), i ≤ l.length → l.length - i < k →
    swashplateref01_Check.l0 k l i = some (if (l.drop i).all (fun s => okS s.f0 s.f1) then 0 else 10)
  | 0, i, _, h => absurd h (Nat.not_lt_zero _)
  | k + 1, i, hi, hk => by
    simp only [swashplateref01_Check.l0]
    by_cases hlt : i < l.length
    · rw [if_pos (by omega), if_pos (by omega), rdT27_nat, rvalid_total, Option.bind_some, drop_stepG z27 l i hlt, List.all_cons]
      cases okS (l.getD i z27).f0 (l.getD i z27).f1 with
      | false => rw [if_neg (by simp)]; rfl
      | true => rw [if_pos rfl, step64 i (by omega), rcheck_loop l hl k (i + 1) (by omega) (by omega), Bool.true_and]
    · rw [if_neg (by omega), List.drop_of_length_le (by omega)]
      rfl
theorem boxB_len (l : List S27) : (decide ((1 : Int) ≤ (l.length : Int)) && decide ((l.length : Int) ≤ 3)) = (decide (1 ≤ l.length) && decide (l.length ≤ 3)) := by
  rw [Bool.eq_iff_iff]; simp; omega
theorem rcheck_total (l : List S27) (k : Nat) (hk : 5 < k) : swashplateref01_Check.f k l = some (if boxB l then 0 else 10) := by
  unfold swashplateref01_Check.f boxB
  rw [from_total, Option.bind_some, boxB_len]
  by_cases h : (decide (1 ≤ l.length) && decide (l.length ≤ 3)) = true
  · rw [if_pos h, h, Bool.true_and]
    simp only [Bool.and_eq_true, decide_eq_true_eq] at h
    have := rcheck_loop l (by omega) k 0 (Nat.zero_le _) (by omega)
    rw [List.drop_zero] at this
    exact this
  · rw [if_neg h]
    rw [Bool.not_eq_true] at h
    rw [h]
    rfl
theorem check_total (l : List S27) : spans_Check.f l = some (if boxB l then 0 else 10) := by
  unfold spans_Check.f boxB
  rw [within_total, Option.bind_some, boxB_len]
  cases (decide (1 ≤ l.length) && decide (l.length ≤ 3)) with
  | true => rw [if_pos rfl]; unfold spans_spanned.f; rw [Option.bind_some, Bool.true_and]
  | false => rw [if_neg (by simp)]; rfl
end Go.Proofs.Yteodlmgmmpkpoaa.PS
end
section
namespace Go.Proofs.Yteodlmgmmpkpoaa.PS
open Go.RowKit Go.Proofs.YteodlmgmmpkpoaaW.PrintWords Go.Proofs.YteodlmgmmpkpoaaW.PrintLast Go.Proofs.YteodlmgmmpkpoaaW.PrintMore
set_option linter.unusedVariables false
set_option linter.unusedSimpArgs false
def badInt (x : Int) : Bool := !inM x
theorem within_bad (x : Int) : spans_within.f x (-1000000) 1000000 = some (!badInt x) := by
  rw [within_total]; unfold badInt inM; rw [Bool.not_not]
theorem out_calls (x : Int) (w : World) : Calls Try.prog 95 #[.int .i64 x] w (Yes (badInt x) w) := by
  have H := Aside0.mk (within_bad x)
  go_enter Try.func95, Try.ntmps95
  go_wp2_with (go_at_call 93; refine (spans_within.calls x _ _ _ _ H.out).mono ?_; rintro e w' ⟨rfl, ⟨nd, rfl⟩⟩)
  go_ret
  exact ⟨by simp, pw_below_drewN (Below.refl _ _) _⟩
set_option maxHeartbeats 1000000 in
theorem index_ints (A : Option Addr) (c : Nat) (l : List Int) (w : World) (hr : Kd.C (Kd.int .i64) w A l.length l) :
    Calls Try.prog 154 #[.slice A l.length c, .func (.func 95) #[] #[]] w (Place (l.any badInt) w) := by
  have HR := Aside0.mk hr
  have HL := Aside0.mk hr.2.1
  clear hr
  go_enter Try.func154, Try.ntmps154
  go_wp2
  go_loopw [5, 8] (fun v5 v8 wr => ∃ x : Nat, v8 = .int .i64 x ∧ Aside0 ((l.take x).any badInt = false) ∧ Aside0 (x ≤ l.length) ∧ Aside0 (Below w.heap.size w wr)) (fun _ v8 _ => l.length - (intOf v8).toNat)
  case atStart => exact ⟨0, rfl, ⟨by simp⟩, ⟨Nat.zero_le _⟩, ⟨Below.refl _ _⟩⟩
  case round =>
    obtain ⟨x, rfl, HA, HX, HB⟩ := hrel
    by_cases c1 : x < l.length
    · obtain ⟨ad, e0, hx0⟩ := Kd.at_int HR.out (x : Int) (by omega) (by omega)
      rw [Int.toNat_natCast] at hx0
      have q0 := (HB.out.cell (p := ad.add x) (World.block_lt_of_cell? _ _ hx0)).trans hx0
      have hlen := HL.out
      have HS := Aside0.mk (any_snoc l 0 badInt x c1)
      subst e0
      clear hx0 HX
      cases hb1 : badInt (rd l x) with
      | false =>
        have HV := Aside0.mk hb1
        clear hb1
        go_wp2_with (go_at_call 95; refine (out_calls _ _).mono ?_; rintro e w' ⟨rfl, hb⟩; rw [HV.out])
        go_roundw
        case measure => simp [intOf]; omega
        case rel => exact ⟨x + 1, by go_num, ⟨by rw [HS.out, HA.out]; exact HV.out⟩, ⟨by omega⟩, ⟨HB.out.trans (hb.mono (by have := HB.out.size; omega))⟩⟩
      | true =>
        have HV := Aside0.mk hb1
        clear hb1
        go_wp2_with (go_at_call 95; refine (out_calls _ _).mono ?_; rintro e w' ⟨rfl, hb⟩; rw [HV.out])
        go_ret
        exact ⟨x, rfl, by rw [any_hit l 0 badInt x c1 HV.out]; simp, HB.out.trans (hb.mono (by have := HB.out.size; omega))⟩
    · have HE := Aside0.mk (List.take_of_length_le (l := l) (i := x) (by omega))
      go_wp2
      go_ret
      exact ⟨-1, rfl, by rw [← HE.out, HA.out]; rfl, HB.out⟩
theorem has_ints (A : Option Addr) (c : Nat) (l : List Int) (w : World) (hr : Kd.C (Kd.int .i64) w A l.length l) :
    Calls Try.prog 97 #[.slice A l.length c, .func (.func 95) #[] #[]] w (Yes (l.any badInt) w) := by
  have HR := Aside0.mk hr
  clear hr
  go_enter Try.func97, Try.ntmps97
  go_wp2_with (go_at_call 154; refine (index_ints A c l _ HR.out).mono ?_; rintro e w' ⟨i, rfl, hi, hb⟩; have HI := Aside0.mk hi; clear hi)
  go_ret
  exact ⟨by rw [← HI.out]; rfl, hb⟩
def rowBad (m : Nat) (l : List Int) : Bool := (l.length != m) || l.any badInt
set_option maxHeartbeats 1000000 in
theorem row_calls (A : Option Addr) (c : Nat) (l : List Int) (AY : Option Addr) (m cY tb ob : Nat) (w : World) (hr : Kd.C (Kd.int .i64) w A l.length l) (hm : m ≤ 9223372036854775807)
    (ht : w.cell? ⟨tb, 1, none⟩ = some (.slice AY m cY)) (ho : w.cell? ⟨ob, 0, none⟩ = some (.func (.func 95) #[] #[])) :
    Calls Try.prog 96 #[.slice A l.length c, .pointer (some ⟨tb, 0, none⟩), .pointer (some ⟨ob, 0, none⟩)] w (Yes (rowBad m l) w) := by
  have HR := Aside0.mk hr
  have HL := Aside0.mk hr.2.1
  clear hr
  by_cases h : l.length = m
  · have c0 : (l.length == m) = true := by simpa using h
    have c1 : (l.length != m) = false := by simpa using h
    have c2 : ((l.length : Int) != (m : Int)) = false := by simp [h]
    have HE := Aside0.mk (show rowBad m l = l.any badInt by unfold rowBad; rw [c1]; rfl)
    clear h
    go_enter Try.func96, Try.ntmps96
    go_wp2_with (go_at_call 97; refine (has_ints A c l _ HR.out).mono ?_; rintro e w' ⟨rfl, hb⟩)
    go_ret
    exact ⟨by rw [HE.out]; rfl, hb⟩
  · have c0 : (l.length == m) = false := by simpa using h
    have c1 : (l.length != m) = true := by simpa using h
    have c2 : ((l.length : Int) != (m : Int)) = true := by rw [bne_iff_ne]; omega
    have HE := Aside0.mk (show rowBad m l = true by unfold rowBad; rw [c1]; rfl)
    clear h
    go_enter Try.func96, Try.ntmps96
    go_wp2
    go_ret
    exact ⟨by rw [HE.out]; rfl, Below.refl _ _⟩
set_option maxHeartbeats 1000000 in
theorem index_rows (A : Option Addr) (c : Nat) (l : List (List Int)) (AY : Option Addr) (m cY tb ob : Nat) (w : World) (hr : Kd.C (Kd.slice 3 (Kd.int .i64)) w A l.length l) (hm : m ≤ 9223372036854775807)
    (ht : w.cell? ⟨tb, 1, none⟩ = some (.slice AY m cY)) (ho : w.cell? ⟨ob, 0, none⟩ = some (.func (.func 95) #[] #[])) :
    Calls Try.prog 155 #[.slice A l.length c, .func (.func 96) #[] #[.pointer (some ⟨tb, 0, none⟩), .pointer (some ⟨ob, 0, none⟩)]] w (Place (l.any (rowBad m)) w) := by
  have HR := Aside0.mk hr
  have HL := Aside0.mk hr.2.1
  have HT := Aside0.mk ht
  have HO := Aside0.mk ho
  clear hr ht ho
  go_enter Try.func155, Try.ntmps155
  go_wp2
  go_loopw [5, 8] (fun v5 v8 wr => ∃ x : Nat, v8 = .int .i64 x ∧ Aside0 ((l.take x).any (rowBad m) = false) ∧ Aside0 (x ≤ l.length) ∧ Aside0 (Below w.heap.size w wr)) (fun _ v8 _ => l.length - (intOf v8).toNat)
  case atStart => exact ⟨0, rfl, ⟨by simp⟩, ⟨Nat.zero_le _⟩, ⟨Below.refl _ _⟩⟩
  case round =>
    obtain ⟨x, rfl, HA, HX, HB⟩ := hrel
    by_cases c1 : x < l.length
    · obtain ⟨ad, A1, cc, e0, hx0, hlc, hrow⟩ := at_L3 HR.out (x : Int) (by omega) (by omega)
      rw [Int.toNat_natCast] at hx0
      have q0 := (HB.out.cell (p := ad.add x) (World.block_lt_of_cell? _ _ hx0)).trans hx0
      have hlen := HL.out
      have HS := Aside0.mk (any_snoc l [] (rowBad m) x c1)
      have HR1 := Aside0.mk (Kd.C_below hrow HB.out)
      have HT1 := Aside0.mk ((HB.out.cell (p := ⟨tb, 1, none⟩) (World.block_lt_of_cell? _ _ HT.out)).trans HT.out)
      have HO1 := Aside0.mk ((HB.out.cell (p := ⟨ob, 0, none⟩) (World.block_lt_of_cell? _ _ HO.out)).trans HO.out)
      subst e0
      clear hx0 HX hrow hlc
      cases hb1 : rowBad m (rd_L3 l x) with
      | false =>
        have HV := Aside0.mk hb1
        clear hb1
        go_wp2_with (go_at_call 96; refine (row_calls A1 cc _ AY m cY tb ob _ HR1.out hm HT1.out HO1.out).mono ?_; rintro e w' ⟨rfl, hb⟩; rw [HV.out])
        go_roundw
        case measure => simp [intOf]; omega
        case rel => exact ⟨x + 1, by go_num, ⟨by rw [HS.out, HA.out]; exact HV.out⟩, ⟨by omega⟩, ⟨HB.out.trans (hb.mono (by have := HB.out.size; omega))⟩⟩
      | true =>
        have HV := Aside0.mk hb1
        clear hb1
        go_wp2_with (go_at_call 96; refine (row_calls A1 cc _ AY m cY tb ob _ HR1.out hm HT1.out HO1.out).mono ?_; rintro e w' ⟨rfl, hb⟩; rw [HV.out])
        go_ret
        exact ⟨x, rfl, by rw [any_hit l [] (rowBad m) x c1 HV.out]; simp, HB.out.trans (hb.mono (by have := HB.out.size; omega))⟩
    · have HE := Aside0.mk (List.take_of_length_le (l := l) (i := x) (by omega))
      go_wp2
      go_ret
      exact ⟨-1, rfl, by rw [← HE.out, HA.out]; rfl, HB.out⟩
theorem has_rows (A : Option Addr) (c : Nat) (l : List (List Int)) (AY : Option Addr) (m cY tb ob : Nat) (w : World) (hr : Kd.C (Kd.slice 3 (Kd.int .i64)) w A l.length l) (hm : m ≤ 9223372036854775807)
    (ht : w.cell? ⟨tb, 1, none⟩ = some (.slice AY m cY)) (ho : w.cell? ⟨ob, 0, none⟩ = some (.func (.func 95) #[] #[])) :
    Calls Try.prog 99 #[.slice A l.length c, .func (.func 96) #[] #[.pointer (some ⟨tb, 0, none⟩), .pointer (some ⟨ob, 0, none⟩)]] w (Yes (l.any (rowBad m)) w) := by
  have HR := Aside0.mk hr
  have HT := Aside0.mk ht
  have HO := Aside0.mk ho
  clear hr ht ho
  go_enter Try.func99, Try.ntmps99
  go_wp2_with (go_at_call 155; refine (index_rows A c l AY m cY tb ob _ HR.out hm HT.out HO.out).mono ?_; rintro e w' ⟨i, rfl, hi, hb⟩; have HI := Aside0.mk hi; clear hi)
  go_ret
  exact ⟨by rw [← HI.out]; rfl, hb⟩
theorem table_all (X Y : List Int) (V : List (List Int)) : V.any (rowBad Y.length) = !V.all (rowB Y.length) := by
  rw [← any_not]
  congr 1
  funext r
  unfold rowBad rowB
  rw [show r.any badInt = r.any (fun x => !inM x) from rfl, any_not]
  cases h : (r.length == Y.length) with
  | true => rw [show (r.length != Y.length) = false by simpa using h]; simp
  | false => rw [show (r.length != Y.length) = true by simpa using h]; simp
set_option maxHeartbeats 4000000 in
theorem spans_CheckTable.calls (A0_0 : Option Addr) (c0_0 : Nat) (l0_0 : List Int) (A0_1 : Option Addr) (c0_1 : Nat) (l0_1 : List Int) (A0_2 : Option Addr) (c0_2 : Nat) (l0_2 : List (List Int)) (r : Int) (w : World) (hr0_0 : Kd.C (Kd.int .i64) w A0_0 l0_0.length l0_0) (hc0_0 : l0_0.length ≤ c0_0) (hr0_1 : Kd.C (Kd.int .i64) w A0_1 l0_1.length l0_1) (hc0_1 : l0_1.length ≤ c0_1) (hr0_2 : Kd.C (Kd.slice 3 (Kd.int .i64)) w A0_2 l0_2.length l0_2) (hc0_2 : l0_2.length ≤ c0_2) (h : spans_CheckTable.f l0_0 l0_1 l0_2 = some r) :
    Calls Try.prog 29 #[.agg #[.slice A0_0 l0_0.length c0_0, .slice A0_1 l0_1.length c0_1, .slice A0_2 l0_2.length c0_2]] w fun e w' => e = .returned (.int .i64 r) ∧ Below w.heap.size w w' := by
  have HV := Aside0.mk (Option.some.inj h)
  have HR0 := Aside0.mk hr0_0
  have HR1 := Aside0.mk hr0_1
  have HR2 := Aside0.mk hr0_2
  have hl0 := hr0_0.2.1
  have hl1 := hr0_1.2.1
  have hl2 := hr0_2.2.1
  clear hr0_0 hr0_1 hr0_2 h
  obtain ⟨k, hk0, hk1⟩ : ∃ k, l0_0.length < k ∧ l0_1.length < k := ⟨l0_0.length + l0_1.length + 1, by omega, by omega⟩
  have hA0 := axis_total l0_0 hl0 k hk0
  have hB0 := axis_total l0_1 hl1 k hk1
  clear hk0 hk1
  cases hxa : axisB l0_0 with
  | false =>
    have HA := Aside0.mk (show spans_axis.f k l0_0 = some false by rw [hA0, hxa])
    have H11 := Aside0.mk (show r = 11 by rw [← HV.out]; unfold tableB; rw [hxa]; rfl)
    clear HV hA0 hB0 hxa
    go_enter Try.func29, Try.ntmps29
    go_wp2_with (go_at_call 98; refine (spans_axis.calls k _ _ l0_0 _ _ (Kd.C_alloc (Kd.C_alloc HR0.out _) _) hc0_0 HA.out).mono ?_; rintro e w' ⟨rfl, ⟨nd, rfl⟩⟩)
    go_ret
    exact ⟨by rw [H11.out]; rfl, by repeat (first | exact Below.refl _ _ | apply below_alloc | apply pw_below_drewN)⟩
  | true =>
    have HA := Aside0.mk (show spans_axis.f k l0_0 = some true by rw [hA0, hxa])
    clear hA0
    cases hxb : axisB l0_1 with
    | false =>
      have HB := Aside0.mk (show spans_axis.f k l0_1 = some false by rw [hB0, hxb])
      have H11 : Aside0 (r = 11) := ⟨by rw [← HV.out]; unfold tableB; rw [hxa, hxb]; rfl⟩
      clear HV hB0 hxa hxb
      go_enter Try.func29, Try.ntmps29
      go_wp2_with (first
        | (go_at_call 98; with_reducible (refine (spans_axis.calls k _ _ l0_0 _ _ (Kd.C_alloc (Kd.C_alloc HR0.out _) _) hc0_0 HA.out).mono ?_); rintro e w' ⟨rfl, ⟨nd, rfl⟩⟩)
        | (go_at_call 98; with_reducible (refine (spans_axis.calls k _ _ l0_1 _ _ (Kd.C_drewN (Kd.C_alloc (Kd.C_alloc HR1.out _) _) _) hc0_1 HB.out).mono ?_); rintro e w' ⟨rfl, ⟨nd, rfl⟩⟩))
      go_ret
      exact ⟨by rw [H11.out]; rfl, by repeat (first | exact Below.refl _ _ | apply below_alloc | apply pw_below_drewN)⟩
    | true =>
      have HB := Aside0.mk (show spans_axis.f k l0_1 = some true by rw [hB0, hxb])
      have HVal : Aside0 (r = if (l0_2.length == l0_0.length && l0_2.all (rowB l0_1.length)) = true then 0 else 11) := ⟨by rw [← HV.out]; unfold tableB; rw [hxa, hxb]; rfl⟩
      clear HV hB0 hxa hxb
      by_cases hlen : l0_2.length = l0_0.length
      · have c1 : ((l0_2.length : Int) != (l0_0.length : Int)) = false := by simp [hlen]
        have HE : Aside0 (r = if l0_2.any (rowBad l0_1.length) = true then 11 else 0) := ⟨by rw [HVal.out, table_all l0_0, hlen]; cases l0_2.all (rowB l0_1.length) <;> simp⟩
        clear HVal hlen
        cases hb2 : l0_2.any (rowBad l0_1.length) with
        | false =>
          have HV := Aside0.mk hb2
          clear hb2
          go_enter Try.func29, Try.ntmps29
          go_wp2_with (first
            | (go_at_call 98; with_reducible (refine (spans_axis.calls k _ _ l0_0 _ _ (Kd.C_alloc (Kd.C_alloc HR0.out _) _) hc0_0 HA.out).mono ?_); rintro e w' ⟨rfl, ⟨nd, rfl⟩⟩)
            | (go_at_call 98; with_reducible (refine (spans_axis.calls k _ _ l0_1 _ _ (Kd.C_drewN (Kd.C_alloc (Kd.C_alloc HR1.out _) _) _) hc0_1 HB.out).mono ?_); rintro e w' ⟨rfl, ⟨nd, rfl⟩⟩)
            | (go_at_call 99; refine (has_rows A0_2 c0_2 l0_2 A0_1 l0_1.length c0_1 _ _ _ ?c1 hl1 ?c2 ?c3).mono ?_; (case c1 => repeat (first | exact HR2.out | (with_reducible refine Kd.C_alloc ?_ _) | (with_reducible refine Kd.C_drewN ?_ _) | (with_reducible refine Kd.C_drew ?_))); (case c2 => go_simp); (case c3 => go_simp); rintro e w' ⟨rfl, hb⟩; rw [HV.out]))
          go_ret
          exact ⟨by rw [HE.out, HV.out]; rfl, below_step (by repeat (first | exact Below.refl _ _ | apply below_alloc | apply pw_below_drewN)) hb⟩
        | true =>
          have HV := Aside0.mk hb2
          clear hb2
          go_enter Try.func29, Try.ntmps29
          go_wp2_with (first
            | (go_at_call 98; with_reducible (refine (spans_axis.calls k _ _ l0_0 _ _ (Kd.C_alloc (Kd.C_alloc HR0.out _) _) hc0_0 HA.out).mono ?_); rintro e w' ⟨rfl, ⟨nd, rfl⟩⟩)
            | (go_at_call 98; with_reducible (refine (spans_axis.calls k _ _ l0_1 _ _ (Kd.C_drewN (Kd.C_alloc (Kd.C_alloc HR1.out _) _) _) hc0_1 HB.out).mono ?_); rintro e w' ⟨rfl, ⟨nd, rfl⟩⟩)
            | (go_at_call 99; refine (has_rows A0_2 c0_2 l0_2 A0_1 l0_1.length c0_1 _ _ _ ?c1 hl1 ?c2 ?c3).mono ?_; (case c1 => repeat (first | exact HR2.out | (with_reducible refine Kd.C_alloc ?_ _) | (with_reducible refine Kd.C_drewN ?_ _) | (with_reducible refine Kd.C_drew ?_))); (case c2 => go_simp); (case c3 => go_simp); rintro e w' ⟨rfl, hb⟩; rw [HV.out]))
          go_ret
          exact ⟨by rw [HE.out, HV.out]; rfl, below_step (by repeat (first | exact Below.refl _ _ | apply below_alloc | apply pw_below_drewN)) hb⟩
      · have c1 : ((l0_2.length : Int) != (l0_0.length : Int)) = true := by rw [bne_iff_ne]; omega
        have H11 : Aside0 (r = 11) := ⟨by rw [HVal.out, show (l0_2.length == l0_0.length) = false by simpa using hlen]; rfl⟩
        clear HVal hlen
        go_enter Try.func29, Try.ntmps29
        go_wp2_with (first
          | (go_at_call 98; with_reducible (refine (spans_axis.calls k _ _ l0_0 _ _ (Kd.C_alloc (Kd.C_alloc HR0.out _) _) hc0_0 HA.out).mono ?_); rintro e w' ⟨rfl, ⟨nd, rfl⟩⟩)
          | (go_at_call 98; with_reducible (refine (spans_axis.calls k _ _ l0_1 _ _ (Kd.C_drewN (Kd.C_alloc (Kd.C_alloc HR1.out _) _) _) hc0_1 HB.out).mono ?_); rintro e w' ⟨rfl, ⟨nd, rfl⟩⟩))
        go_ret
        exact ⟨by rw [H11.out]; rfl, by repeat (first | exact Below.refl _ _ | apply below_alloc | apply pw_below_drewN)⟩
end Go.Proofs.Yteodlmgmmpkpoaa.PS
end
section
namespace Go.Proofs.Yteodlmgmmpkpoaa.PS
open Go.RowKit Go.Proofs.YteodlmgmmpkpoaaW.PrintWords Go.Proofs.YteodlmgmmpkpoaaW.PrintLast Go.Proofs.YteodlmgmmpkpoaaW.PrintMore
attribute [local go_sem] max2_int min2_int max_two min_two max_three min_three max_four min_four   -- for this text's walks alone
set_option linter.unusedVariables false
set_option linter.unusedSimpArgs false
def spans_lies.f (l0 : List Int) (a1_0 : Int) (a1_1 : Int) : Option (Bool) := if 0 < (l0.length : Int) then (if a1_0 ≥ (rd l0 0) then (if 0 ≤ (wrap64 ((l0.length : Int) - 1)) then (if (wrap64 ((l0.length : Int) - 1)) < (l0.length : Int) then (some (decide (a1_1 ≤ (rd l0 (wrap64 ((l0.length : Int) - 1)))))) else (none)) else (none)) else (some false)) else (none)
set_option maxHeartbeats 8000000 in
set_option maxRecDepth 100000 in
theorem spans_lies.calls (A0 : Option Addr) (c0 : Nat) (l0 : List Int) (a1_0 : Int) (a1_1 : Int) (r : Bool) (w : World) (hr0 : Kd.C (Kd.int .i64) w A0 l0.length l0) (hc0 : l0.length ≤ c0) (h : spans_lies.f l0 a1_0 a1_1 = some r) :
  Calls Try.prog 104 #[.slice A0 l0.length c0, .agg #[.int .i64 a1_0, .int .i64 a1_1]] w fun e w' => e = .returned (.bool r) ∧ Below w.heap.size w w' := by
 have hu27 := Try.underlying27
 have HR0 := Aside0.mk hr0
 have HC0 := Aside0.mk hc0
 clear hr0 hc0
 have HB := Aside0.mk (Below.refl w.heap.size w)
 have H : (if 0 < (l0.length : Int) then (if a1_0 ≥ (rd l0 0) then (if 0 ≤ (wrap64 ((l0.length : Int) - 1)) then (if (wrap64 ((l0.length : Int) - 1)) < (l0.length : Int) then (some (decide (a1_1 ≤ (rd l0 (wrap64 ((l0.length : Int) - 1)))))) else (none)) else (none)) else (some false)) else (none)) = some r := h
 clear h
 by_cases c3 : 0 < (l0.length : Int)
 ·
  rw [if_pos c3] at H
  have c3b0 : decide (0 < (l0.length : Int)) = true := decide_eq_true c3
  have c3b1 : decide (0 < l0.length) = true := decide_eq_true (by omega)
  clear c3
  by_cases c4 : a1_0 ≥ (rd l0 0)
  ·
   rw [if_pos c4] at H
   have c4b0 : decide ((rd l0 0) ≤ a1_0) = true := decide_eq_true c4
   clear c4
   obtain ⟨ji5, hji5⟩ : ∃ j_ : Int, (wrap64 ((l0.length : Int) - 1)) = j_ := ⟨_, rfl⟩
   replace H : (if 0 ≤ (ji5) then (if (ji5) < (l0.length : Int) then (some (decide (a1_1 ≤ (rd l0 (ji5))))) else (none)) else (none)) = some r := by first | (rw [hji5] at H; exact H) | (simp only [hji5] at H ⊢; exact H)
   have hji5w : (IntKind.i64.wrap ((l0.length : Int) - 1)) = ji5 := (i64_w _).trans hji5
   by_cases c6 : 0 ≤ (ji5)
   ·
    rw [if_pos c6] at H
    have c6b0 : decide (0 ≤ (ji5)) = true := decide_eq_true c6
    clear c6
    by_cases c7 : (ji5) < (l0.length : Int)
    ·
     rw [if_pos c7] at H
     have c7b0 : decide ((ji5) < (l0.length : Int)) = true := decide_eq_true c7
     clear c7
     obtain rfl := Option.some.inj H
     go_enter Try.func104, Try.ntmps104
     go_wp2_with (first | ((with_reducible refine gate_dst (N := 3) rfl ?_); (try (refine gate_guard (by rfl) ?_; dsimp only)); refine box_event ?hg (N := 3) ?hd (cs := #[.int .i64 a1_0, .int .i64 a1_1]) (t := 27) ?hr ?_; (case hd => rfl); (case hg => rfl); (case hr => first | (go_simp; done) | (go_simp; rfl)); intro gb164 hg w8 hbox hb; have n0_ := Aside0.mk (below_step (bl_ HB.out) hb); have n1_ := Aside0.mk (hbox); have n2_ := Aside0.mk (szl_ hg HB.out); have n3_ := Aside0.mk (szl_ hg HB.out); clear HB; have HB := n0_; have BK164 := n1_; have GW164 := n2_; have GE164 := n3_; clear n0_ n1_ n2_ n3_ hb hbox hg; have hcz9_0 : w8.cell? ⟨gb164, 0, none⟩ = some (.int .i64 a1_0) := (blk_cell BK164.out 0).trans rfl; have hcz9_1 : w8.cell? ⟨gb164, 1, none⟩ = some (.int .i64 a1_1) := (blk_cell BK164.out 1).trans rfl; have hfz9_0 := blk_frozen BK164.out 0; have hfz9_1 := blk_frozen BK164.out 1; have p165 : 0 ≤ (0 : Int) := (by omega); have q165 : 0 < (l0.length : Int) := of_decide_eq_true (by first | (with_reducible assumption) | assumption); obtain ⟨ad165, e165, hx165_0⟩ := Kd.at_int HR0.out 0 p165 q165; cases e165; have qi165 : (0 < l0.length) = True := eq_true (by omega); (try rw [show ((0 : Int)).toNat = 0 from rfl] at hx165_0); (try rw [Addr.add_zero'] at hx165_0); replace hx165_0 := (HB.out.cell (World.block_lt_of_cell? w _ hx165_0)).trans hx165_0; replace p165 := eq_true p165; replace q165 := eq_true q165; have p166 : 0 ≤ ((ji5) : Int) := of_decide_eq_true (by first | (with_reducible assumption) | assumption); have q166 : (ji5) < (l0.length : Int) := of_decide_eq_true (by first | (with_reducible assumption) | assumption); obtain ⟨ad166, e166, hx166_0⟩ := Kd.at_int HR0.out (ji5) p166 q166; obtain rfl : ad165 = ad166 := (by injection e166); replace hx166_0 := (HB.out.cell (World.block_lt_of_cell? w _ hx166_0)).trans hx166_0; replace p166 := eq_true p166; replace q166 := eq_true q166))
     repeat (go_quiet (first | ((with_reducible refine gate_dst (N := 3) rfl ?_); (try (refine gate_guard (by rfl) ?_; dsimp only)); refine box_event ?hg (N := 3) ?hd (cs := #[.int .i64 a1_0, .int .i64 a1_1]) (t := 27) ?hr ?_; (case hd => rfl); (case hg => rfl); (case hr => first | (go_simp; done) | (go_simp; rfl)); intro gb164 hg w8 hbox hb; have n0_ := Aside0.mk (below_step (bl_ HB.out) hb); have n1_ := Aside0.mk (hbox); have n2_ := Aside0.mk (szl_ hg HB.out); have n3_ := Aside0.mk (szl_ hg HB.out); clear HB; have HB := n0_; have BK164 := n1_; have GW164 := n2_; have GE164 := n3_; clear n0_ n1_ n2_ n3_ hb hbox hg; have hcz9_0 : w8.cell? ⟨gb164, 0, none⟩ = some (.int .i64 a1_0) := (blk_cell BK164.out 0).trans rfl; have hcz9_1 : w8.cell? ⟨gb164, 1, none⟩ = some (.int .i64 a1_1) := (blk_cell BK164.out 1).trans rfl; have hfz9_0 := blk_frozen BK164.out 0; have hfz9_1 := blk_frozen BK164.out 1; have p165 : 0 ≤ (0 : Int) := (by omega); have q165 : 0 < (l0.length : Int) := of_decide_eq_true (by first | (with_reducible assumption) | assumption); obtain ⟨ad165, e165, hx165_0⟩ := Kd.at_int HR0.out 0 p165 q165; cases e165; have qi165 : (0 < l0.length) = True := eq_true (by omega); (try rw [show ((0 : Int)).toNat = 0 from rfl] at hx165_0); (try rw [Addr.add_zero'] at hx165_0); replace hx165_0 := (HB.out.cell (World.block_lt_of_cell? w _ hx165_0)).trans hx165_0; replace p165 := eq_true p165; replace q165 := eq_true q165; have p166 : 0 ≤ ((ji5) : Int) := of_decide_eq_true (by first | (with_reducible assumption) | assumption); have q166 : (ji5) < (l0.length : Int) := of_decide_eq_true (by first | (with_reducible assumption) | assumption); obtain ⟨ad166, e166, hx166_0⟩ := Kd.at_int HR0.out (ji5) p166 q166; obtain rfl : ad165 = ad166 := (by injection e166); replace hx166_0 := (HB.out.cell (World.block_lt_of_cell? w _ hx166_0)).trans hx166_0; replace p166 := eq_true p166; replace q166 := eq_true q166)); try go_wp2_with (first | ((with_reducible refine gate_dst (N := 3) rfl ?_); (try (refine gate_guard (by rfl) ?_; dsimp only)); refine box_event ?hg (N := 3) ?hd (cs := #[.int .i64 a1_0, .int .i64 a1_1]) (t := 27) ?hr ?_; (case hd => rfl); (case hg => rfl); (case hr => first | (go_simp; done) | (go_simp; rfl)); intro gb164 hg w8 hbox hb; have n0_ := Aside0.mk (below_step (bl_ HB.out) hb); have n1_ := Aside0.mk (hbox); have n2_ := Aside0.mk (szl_ hg HB.out); have n3_ := Aside0.mk (szl_ hg HB.out); clear HB; have HB := n0_; have BK164 := n1_; have GW164 := n2_; have GE164 := n3_; clear n0_ n1_ n2_ n3_ hb hbox hg; have hcz9_0 : w8.cell? ⟨gb164, 0, none⟩ = some (.int .i64 a1_0) := (blk_cell BK164.out 0).trans rfl; have hcz9_1 : w8.cell? ⟨gb164, 1, none⟩ = some (.int .i64 a1_1) := (blk_cell BK164.out 1).trans rfl; have hfz9_0 := blk_frozen BK164.out 0; have hfz9_1 := blk_frozen BK164.out 1; have p165 : 0 ≤ (0 : Int) := (by omega); have q165 : 0 < (l0.length : Int) := of_decide_eq_true (by first | (with_reducible assumption) | assumption); obtain ⟨ad165, e165, hx165_0⟩ := Kd.at_int HR0.out 0 p165 q165; cases e165; have qi165 : (0 < l0.length) = True := eq_true (by omega); (try rw [show ((0 : Int)).toNat = 0 from rfl] at hx165_0); (try rw [Addr.add_zero'] at hx165_0); replace hx165_0 := (HB.out.cell (World.block_lt_of_cell? w _ hx165_0)).trans hx165_0; replace p165 := eq_true p165; replace q165 := eq_true q165; have p166 : 0 ≤ ((ji5) : Int) := of_decide_eq_true (by first | (with_reducible assumption) | assumption); have q166 : (ji5) < (l0.length : Int) := of_decide_eq_true (by first | (with_reducible assumption) | assumption); obtain ⟨ad166, e166, hx166_0⟩ := Kd.at_int HR0.out (ji5) p166 q166; obtain rfl : ad165 = ad166 := (by injection e166); replace hx166_0 := (HB.out.cell (World.block_lt_of_cell? w _ hx166_0)).trans hx166_0; replace p166 := eq_true p166; replace q166 := eq_true q166)))
     go_ret
     exact ⟨by first | rfl | (simp [errW_none, errW_some] <;> rfl) | (simp only [← hji5]; first | rfl | (simp [errW_none, errW_some] <;> rfl)) | (simp [*, errW_none, errW_some] <;> rfl), bl_ HB.out⟩
    ·
     rw [if_neg c7] at H
     exact absurd H (by simp)
   ·
    rw [if_neg c6] at H
    exact absurd H (by simp)
  ·
   rw [if_neg c4] at H
   have c4b0 : decide ((rd l0 0) ≤ a1_0) = false := decide_eq_false c4
   clear c4
   obtain rfl := Option.some.inj H
   go_enter Try.func104, Try.ntmps104
   go_wp2_with (first | ((with_reducible refine gate_dst (N := 3) rfl ?_); (try (refine gate_guard (by rfl) ?_; dsimp only)); refine box_event ?hg (N := 3) ?hd (cs := #[.int .i64 a1_0, .int .i64 a1_1]) (t := 27) ?hr ?_; (case hd => rfl); (case hg => rfl); (case hr => first | (go_simp; done) | (go_simp; rfl)); intro gb164 hg w10 hbox hb; have n0_ := Aside0.mk (below_step (bl_ HB.out) hb); have n1_ := Aside0.mk (hbox); have n2_ := Aside0.mk (szl_ hg HB.out); have n3_ := Aside0.mk (szl_ hg HB.out); clear HB; have HB := n0_; have BK164 := n1_; have GW164 := n2_; have GE164 := n3_; clear n0_ n1_ n2_ n3_ hb hbox hg; have hcz11_0 : w10.cell? ⟨gb164, 0, none⟩ = some (.int .i64 a1_0) := (blk_cell BK164.out 0).trans rfl; have hcz11_1 : w10.cell? ⟨gb164, 1, none⟩ = some (.int .i64 a1_1) := (blk_cell BK164.out 1).trans rfl; have hfz11_0 := blk_frozen BK164.out 0; have hfz11_1 := blk_frozen BK164.out 1; have p165 : 0 ≤ (0 : Int) := (by omega); have q165 : 0 < (l0.length : Int) := of_decide_eq_true (by first | (with_reducible assumption) | assumption); obtain ⟨ad165, e165, hx165_0⟩ := Kd.at_int HR0.out 0 p165 q165; cases e165; have qi165 : (0 < l0.length) = True := eq_true (by omega); (try rw [show ((0 : Int)).toNat = 0 from rfl] at hx165_0); (try rw [Addr.add_zero'] at hx165_0); replace hx165_0 := (HB.out.cell (World.block_lt_of_cell? w _ hx165_0)).trans hx165_0; replace p165 := eq_true p165; replace q165 := eq_true q165))
   repeat (go_quiet (first | ((with_reducible refine gate_dst (N := 3) rfl ?_); (try (refine gate_guard (by rfl) ?_; dsimp only)); refine box_event ?hg (N := 3) ?hd (cs := #[.int .i64 a1_0, .int .i64 a1_1]) (t := 27) ?hr ?_; (case hd => rfl); (case hg => rfl); (case hr => first | (go_simp; done) | (go_simp; rfl)); intro gb164 hg w10 hbox hb; have n0_ := Aside0.mk (below_step (bl_ HB.out) hb); have n1_ := Aside0.mk (hbox); have n2_ := Aside0.mk (szl_ hg HB.out); have n3_ := Aside0.mk (szl_ hg HB.out); clear HB; have HB := n0_; have BK164 := n1_; have GW164 := n2_; have GE164 := n3_; clear n0_ n1_ n2_ n3_ hb hbox hg; have hcz11_0 : w10.cell? ⟨gb164, 0, none⟩ = some (.int .i64 a1_0) := (blk_cell BK164.out 0).trans rfl; have hcz11_1 : w10.cell? ⟨gb164, 1, none⟩ = some (.int .i64 a1_1) := (blk_cell BK164.out 1).trans rfl; have hfz11_0 := blk_frozen BK164.out 0; have hfz11_1 := blk_frozen BK164.out 1; have p165 : 0 ≤ (0 : Int) := (by omega); have q165 : 0 < (l0.length : Int) := of_decide_eq_true (by first | (with_reducible assumption) | assumption); obtain ⟨ad165, e165, hx165_0⟩ := Kd.at_int HR0.out 0 p165 q165; cases e165; have qi165 : (0 < l0.length) = True := eq_true (by omega); (try rw [show ((0 : Int)).toNat = 0 from rfl] at hx165_0); (try rw [Addr.add_zero'] at hx165_0); replace hx165_0 := (HB.out.cell (World.block_lt_of_cell? w _ hx165_0)).trans hx165_0; replace p165 := eq_true p165; replace q165 := eq_true q165)); try go_wp2_with (first | ((with_reducible refine gate_dst (N := 3) rfl ?_); (try (refine gate_guard (by rfl) ?_; dsimp only)); refine box_event ?hg (N := 3) ?hd (cs := #[.int .i64 a1_0, .int .i64 a1_1]) (t := 27) ?hr ?_; (case hd => rfl); (case hg => rfl); (case hr => first | (go_simp; done) | (go_simp; rfl)); intro gb164 hg w10 hbox hb; have n0_ := Aside0.mk (below_step (bl_ HB.out) hb); have n1_ := Aside0.mk (hbox); have n2_ := Aside0.mk (szl_ hg HB.out); have n3_ := Aside0.mk (szl_ hg HB.out); clear HB; have HB := n0_; have BK164 := n1_; have GW164 := n2_; have GE164 := n3_; clear n0_ n1_ n2_ n3_ hb hbox hg; have hcz11_0 : w10.cell? ⟨gb164, 0, none⟩ = some (.int .i64 a1_0) := (blk_cell BK164.out 0).trans rfl; have hcz11_1 : w10.cell? ⟨gb164, 1, none⟩ = some (.int .i64 a1_1) := (blk_cell BK164.out 1).trans rfl; have hfz11_0 := blk_frozen BK164.out 0; have hfz11_1 := blk_frozen BK164.out 1; have p165 : 0 ≤ (0 : Int) := (by omega); have q165 : 0 < (l0.length : Int) := of_decide_eq_true (by first | (with_reducible assumption) | assumption); obtain ⟨ad165, e165, hx165_0⟩ := Kd.at_int HR0.out 0 p165 q165; cases e165; have qi165 : (0 < l0.length) = True := eq_true (by omega); (try rw [show ((0 : Int)).toNat = 0 from rfl] at hx165_0); (try rw [Addr.add_zero'] at hx165_0); replace hx165_0 := (HB.out.cell (World.block_lt_of_cell? w _ hx165_0)).trans hx165_0; replace p165 := eq_true p165; replace q165 := eq_true q165)))
   go_ret
   exact ⟨by first | rfl | (simp [errW_none, errW_some] <;> rfl) | (simp [*, errW_none, errW_some] <;> rfl), bl_ HB.out⟩
 ·
  rw [if_neg c3] at H
  exact absurd H (by simp)
end Go.Proofs.Yteodlmgmmpkpoaa.PS
end
section
namespace Go.Proofs.Yteodlmgmmpkpoaa.PS
open Go.RowKit Go.Proofs.YteodlmgmmpkpoaaW.PrintWords Go.Proofs.YteodlmgmmpkpoaaW.PrintLast Go.Proofs.YteodlmgmmpkpoaaW.PrintMore
attribute [local go_sem] max2_int min2_int max_two min_two max_three min_three max_four min_four   -- for this text's walks alone
set_option linter.unusedVariables false
set_option linter.unusedSimpArgs false
def spans_checkPoints.f (l0_0 : List Int) (l0_1 : List Int) (l0_2 : List (List Int)) (a1_0 : Int) (a1_1 : Int) (a2_0 : Int) (a2_1 : Int) : Option (Int) := (spans_CheckTable.f l0_0 l0_1 l0_2).bind fun t205 => (if t205 = 0 then ((spans_spanned.f (([(⟨a1_0, a1_1⟩ : S27), (⟨a2_0, a2_1⟩ : S27)] : List (S27)))).bind fun t209 => (if t209 = 0 then ((spans_lies.f l0_0 a1_0 a1_1).bind fun t210 => (if t210 = true then ((spans_lies.f l0_1 a2_0 a2_1).bind fun t211 => (if t211 = true then (some 0) else (some 1))) else (some 1))) else (some t209))) else (some t205))
set_option maxHeartbeats 8000000 in
set_option maxRecDepth 100000 in
theorem spans_checkPoints.calls (A0_0 : Option Addr) (c0_0 : Nat) (l0_0 : List Int) (A0_1 : Option Addr) (c0_1 : Nat) (l0_1 : List Int) (A0_2 : Option Addr) (c0_2 : Nat) (l0_2 : List (List Int)) (a1_0 : Int) (a1_1 : Int) (a2_0 : Int) (a2_1 : Int) (r : Int) (w : World) (hr0_0 : Kd.C (Kd.int .i64) w A0_0 l0_0.length l0_0) (hc0_0 : l0_0.length ≤ c0_0) (hr0_1 : Kd.C (Kd.int .i64) w A0_1 l0_1.length l0_1) (hc0_1 : l0_1.length ≤ c0_1) (hr0_2 : Kd.C (Kd.slice 3 (Kd.int .i64)) w A0_2 l0_2.length l0_2) (hc0_2 : l0_2.length ≤ c0_2) (h : spans_checkPoints.f l0_0 l0_1 l0_2 a1_0 a1_1 a2_0 a2_1 = some r) :
  Calls Try.prog 88 #[.agg #[.slice A0_0 l0_0.length c0_0, .slice A0_1 l0_1.length c0_1, .slice A0_2 l0_2.length c0_2], .agg #[.int .i64 a1_0, .int .i64 a1_1], .agg #[.int .i64 a2_0, .int .i64 a2_1]] w fun e w' => e = .returned (.int .i64 r) ∧ Below w.heap.size w w' := by
 have hu25 := Try.underlying25
 have hu27 := Try.underlying27
 have HR0_0 := Aside0.mk hr0_0
 have HC0_0 := Aside0.mk hc0_0
 clear hr0_0 hc0_0
 have HR0_1 := Aside0.mk hr0_1
 have HC0_1 := Aside0.mk hc0_1
 clear hr0_1 hc0_1
 have HR0_2 := Aside0.mk hr0_2
 have HC0_2 := Aside0.mk hc0_2
 clear hr0_2 hc0_2
 have HB := Aside0.mk (Below.refl w.heap.size w)
 have H : ((spans_CheckTable.f l0_0 l0_1 l0_2).bind fun t205 => (if t205 = 0 then ((spans_spanned.f (([(⟨a1_0, a1_1⟩ : S27), (⟨a2_0, a2_1⟩ : S27)] : List (S27)))).bind fun t209 => (if t209 = 0 then ((spans_lies.f l0_0 a1_0 a1_1).bind fun t210 => (if t210 = true then ((spans_lies.f l0_1 a2_0 a2_1).bind fun t211 => (if t211 = true then (some 0) else (some 1))) else (some 1))) else (some t209))) else (some t205))) = some r := h
 clear h
 replace H := Option.bind_eq_some_iff.mp H
 obtain ⟨t205, A40, H⟩ := H
 replace H : (if t205 = 0 then ((spans_spanned.f (([(⟨a1_0, a1_1⟩ : S27), (⟨a2_0, a2_1⟩ : S27)] : List (S27)))).bind fun t209 => (if t209 = 0 then ((spans_lies.f l0_0 a1_0 a1_1).bind fun t210 => (if t210 = true then ((spans_lies.f l0_1 a2_0 a2_1).bind fun t211 => (if t211 = true then (some 0) else (some 1))) else (some 1))) else (some t209))) else (some t205)) = some r := H
 have A4 := Aside0.mk A40
 clear A40
 by_cases c5 : t205 = 0
 ·
  rw [if_pos c5] at H
  have c5b0 : (t205 == 0) = true := beq_iff_eq.mpr c5
  have c5b1 : (t205 != 0) = false := bne_eq_false_iff_eq.mpr c5
  clear c5
  obtain ⟨y206, hy206⟩ : ∃ y_ : List (S27), y_ = (([(⟨a1_0, a1_1⟩ : S27), (⟨a2_0, a2_1⟩ : S27)] : List (S27))) := ⟨_, rfl⟩
  replace H : ((spans_spanned.f y206).bind fun t209 => (if t209 = 0 then ((spans_lies.f l0_0 a1_0 a1_1).bind fun t210 => (if t210 = true then ((spans_lies.f l0_1 a2_0 a2_1).bind fun t211 => (if t211 = true then (some 0) else (some 1))) else (some 1))) else (some t209))) = some r := by first | (rw [hy206]; with_reducible exact H) | (have H2_ := (Option.bind_some _ _).symm.trans H; rw [hy206]; with_reducible exact H2_) | (have H2_ := (Option.bind_some _ _).symm.trans H; with_reducible exact H2_) | with_reducible exact H | (rw [hy206]; exact H) | exact H
  have Ny206 := Aside0.mk hy206
  clear hy206
  replace H := Option.bind_eq_some_iff.mp H
  obtain ⟨t209, A60, H⟩ := H
  replace H : (if t209 = 0 then ((spans_lies.f l0_0 a1_0 a1_1).bind fun t210 => (if t210 = true then ((spans_lies.f l0_1 a2_0 a2_1).bind fun t211 => (if t211 = true then (some 0) else (some 1))) else (some 1))) else (some t209)) = some r := H
  have A6 := Aside0.mk A60
  clear A60
  by_cases c7 : t209 = 0
  ·
   rw [if_pos c7] at H
   have c7b0 : (t209 == 0) = true := beq_iff_eq.mpr c7
   have c7b1 : (t209 != 0) = false := bne_eq_false_iff_eq.mpr c7
   clear c7
   replace H := Option.bind_eq_some_iff.mp H
   obtain ⟨t210, A80, H⟩ := H
   replace H : (if t210 = true then ((spans_lies.f l0_1 a2_0 a2_1).bind fun t211 => (if t211 = true then (some 0) else (some 1))) else (some 1)) = some r := H
   have A8 := Aside0.mk A80
   clear A80
   by_cases c9 : t210 = true
   ·
    subst c9
    have H1 : ((spans_lies.f l0_1 a2_0 a2_1).bind fun t211 => (if t211 = true then (some 0) else (some 1))) = some r := by rw [if_pos rfl] at H; exact H
    clear H
    have H := H1
    clear H1
    replace H := Option.bind_eq_some_iff.mp H
    obtain ⟨t211, A100, H⟩ := H
    replace H : (if t211 = true then (some 0) else (some 1)) = some r := H
    have A10 := Aside0.mk A100
    clear A100
    by_cases c11 : t211 = true
    ·
     subst c11
     have H1 : (some 0) = some r := by rw [if_pos rfl] at H; exact H
     clear H
     have H := H1
     clear H1
     obtain rfl := Option.some.inj H
     go_enter Try.func88, Try.ntmps88
     go_wp2_with (first | ((with_reducible refine gate_dst (N := 3) rfl ?_); refine box_event ?hg (N := 3) ?hd (cs := #[.slice A0_0 l0_0.length c0_0, .slice A0_1 l0_1.length c0_1, .slice A0_2 l0_2.length c0_2]) (t := 25) ?hr ?_; (case hd => rfl); (case hg => rfl); (case hr => first | (go_simp; done) | (go_simp; rfl)); intro gb202 hg w12 hbox hb; have n0_ := Aside0.mk (below_step (bl_ HB.out) hb); have n1_ := Aside0.mk (hbox); have n2_ := Aside0.mk (szl_ hg HB.out); have n3_ := Aside0.mk (szl_ hg HB.out); clear HB; have HB := n0_; have BK202 := n1_; have GW202 := n2_; have GE202 := n3_; clear n0_ n1_ n2_ n3_ hb hbox hg) | ((with_reducible refine gate_dst (N := 4) rfl ?_); refine box_event ?hg (N := 4) ?hd (cs := #[.int .i64 a1_0, .int .i64 a1_1]) (t := 27) ?hr ?_; (case hd => rfl); (case hg => rfl); (case hr => first | (go_simp; done) | (go_simp; rfl)); intro gb203 hg w13 hbox hb; have n0_ := Aside0.mk (blk_below (bk_ BK202.out) hb); have n1_ := Aside0.mk (below_step (bl_ HB.out) hb); have n2_ := Aside0.mk (hbox); have n3_ := Aside0.mk (szl_ hg HB.out); have n4_ := Aside0.mk (szl_ hg HB.out); have n5_ := Aside0.mk (nel_ hg BK202.out); have n6_ := Aside0.mk (ner_ hg BK202.out); clear BK202 HB; have BK202 := n0_; have HB := n1_; have BK203 := n2_; have GW203 := n3_; have GE203 := n4_; have NB202_203 := n5_; have NB203_202 := n6_; clear n0_ n1_ n2_ n3_ n4_ n5_ n6_ hb hbox hg) | ((with_reducible refine gate_dst (N := 5) rfl ?_); refine box_event ?hg (N := 5) ?hd (cs := #[.int .i64 a2_0, .int .i64 a2_1]) (t := 27) ?hr ?_; (case hd => rfl); (case hg => rfl); (case hr => first | (go_simp; done) | (go_simp; rfl)); intro gb204 hg w14 hbox hb; have n0_ := Aside0.mk (blk_below (bk_ BK202.out) hb); have n1_ := Aside0.mk (blk_below (bk_ BK203.out) hb); have n2_ := Aside0.mk (below_step (bl_ HB.out) hb); have n3_ := Aside0.mk (hbox); have n4_ := Aside0.mk (szl_ hg HB.out); have n5_ := Aside0.mk (szl_ hg HB.out); have n6_ := Aside0.mk (nel_ hg BK202.out); have n7_ := Aside0.mk (ner_ hg BK202.out); have n8_ := Aside0.mk (nel_ hg BK203.out); have n9_ := Aside0.mk (ner_ hg BK203.out); clear BK202 BK203 HB; have BK202 := n0_; have BK203 := n1_; have HB := n2_; have BK204 := n3_; have GW204 := n4_; have GE204 := n5_; have NB202_204 := n6_; have NB204_202 := n7_; have NB203_204 := n8_; have NB204_203 := n9_; clear n0_ n1_ n2_ n3_ n4_ n5_ n6_ n7_ n8_ n9_ hb hbox hg; have hnb15 := NB202_203.out; have hnc15 := NB203_202.out; have hnb16 := NB202_204.out; have hnc16 := NB204_202.out; have hcz17_0 : w14.cell? ⟨gb202, 0, none⟩ = some (.slice A0_0 l0_0.length c0_0) := (blk_cell BK202.out 0).trans rfl; have hcz17_1 : w14.cell? ⟨gb202, 1, none⟩ = some (.slice A0_1 l0_1.length c0_1) := (blk_cell BK202.out 1).trans rfl; have hcz17_2 : w14.cell? ⟨gb202, 2, none⟩ = some (.slice A0_2 l0_2.length c0_2) := (blk_cell BK202.out 2).trans rfl; have hfz17_0 := blk_frozen BK202.out 0; have hfz17_1 := blk_frozen BK202.out 1; have hfz17_2 := blk_frozen BK202.out 2) | ((with_reducible refine gate_callee (f := 29) rfl ?_); refine goesL_ (some 10) rfl rfl Try.func29 (by kernel_rfl) rfl #[.agg #[.slice A0_0 l0_0.length c0_0, .slice A0_1 l0_1.length c0_1, .slice A0_2 l0_2.length c0_2]] rfl (by (try simp only [List.map_toArray, List.map_cons, List.map_nil]); first | done | rfl | (simp only [List.length_drop, List.length_take]; rfl)) ?_; (with_reducible refine (spans_CheckTable.calls _ _ l0_0 _ _ l0_1 _ _ l0_2 t205 _ ?side1 ?side2 ?side3 ?side4 ?side5 ?side6 A4.out).mono ?_); (case side1 => exact cr_ (Kd.C_below HR0_0.out HB.out)); (case side2 => exact HC0_0.out); (case side3 => exact cr_ (Kd.C_below HR0_1.out HB.out)); (case side4 => exact HC0_1.out); (case side5 => exact cr_ (Kd.C_below HR0_2.out HB.out)); (case side6 => exact HC0_2.out); rintro e w18 ⟨rfl, hb⟩; refine ⟨_, rfl, ?_⟩; have n0_ := Aside0.mk (blk_below (bk_ BK202.out) hb); have n1_ := Aside0.mk (blk_below (bk_ BK203.out) hb); have n2_ := Aside0.mk (blk_below (bk_ BK204.out) hb); have n3_ := Aside0.mk (below_step (bl_ HB.out) hb); clear BK202 BK203 BK204 HB; have BK202 := n0_; have BK203 := n1_; have BK204 := n2_; have HB := n3_; clear n0_ n1_ n2_ n3_; (try clear hb); (try clear hb2); (try clear hk); (try clear hi); have hnb19 := NB203_204.out; have hnc19 := NB204_203.out; have hcz20_0 : w18.cell? ⟨gb203, 0, none⟩ = some (.int .i64 a1_0) := (blk_cell BK203.out 0).trans rfl; have hcz20_1 : w18.cell? ⟨gb203, 1, none⟩ = some (.int .i64 a1_1) := (blk_cell BK203.out 1).trans rfl; have hfz20_0 := blk_frozen BK203.out 0; have hfz20_1 := blk_frozen BK203.out 1; have hcz21_0 : w18.cell? ⟨gb204, 0, none⟩ = some (.int .i64 a2_0) := (blk_cell BK204.out 0).trans rfl; have hcz21_1 : w18.cell? ⟨gb204, 1, none⟩ = some (.int .i64 a2_1) := (blk_cell BK204.out 1).trans rfl; have hfz21_0 := blk_frozen BK204.out 0; have hfz21_1 := blk_frozen BK204.out 1) | ((with_reducible refine gate_dst (N := 16) rfl ?_); refine Kd.R_lit k27 _ 27 ?hg (N := 16) ?hd (xs := ([(⟨a1_0, a1_1⟩ : S27), (⟨a2_0, a2_1⟩ : S27)] : List (S27))) (inner := [.int .i64 a1_0, .int .i64 a1_1, .int .i64 a2_0, .int .i64 a2_1]) (ok := fun _ => True) (okp := fun _ => True) ?hr ?hp (fun _ hk => hk) trivial (Below.refl _ _) (Nat.le_refl _) (by simp) ?_; (case hd => rfl); (case hg => rfl); (case hr => first | (go_simp; done) | (go_simp; rfl)); (case hp => exact (Reps.c2 (show Kd.M k27 _ _ _ (⟨a1_0, a1_1⟩ : S27) [.int .i64 a1_0, .int .i64 a1_1] from (k27_mkM _ _ _ (⟨a1_0, a1_1⟩ : S27) )) (Reps.c2 (show Kd.M k27 _ _ _ (⟨a2_0, a2_1⟩ : S27) [.int .i64 a2_0, .int .i64 a2_1] from (k27_mkM _ _ _ (⟨a2_0, a2_1⟩ : S27) )) (Reps.none _ _)))); intro v207 w22 ho23 hb hg_ hnew_; clear hg_ hnew_; (first | rw [← Ny206.out] at ho23 | (simp only [Int.reduceToNat] at ho23; rw [← Ny206.out] at ho23)); have n0_ := Aside0.mk (Kd.R_lower (Kd.R_newB (Kd.R_newB ho23 (bk_ BK203.out)) (bk_ BK204.out)) (below_size (bl_ HB.out))); have n1_ := Aside0.mk (blk_below (bk_ BK202.out) hb); have n2_ := Aside0.mk (blk_below (bk_ BK203.out) hb); have n3_ := Aside0.mk (blk_below (bk_ BK204.out) hb); have n4_ := Aside0.mk (below_step (bl_ HB.out) hb); clear BK202 BK203 BK204 HB; have HO208 := n0_; have BK202 := n1_; have BK203 := n2_; have BK204 := n3_; have HB := n4_; clear n0_ n1_ n2_ n3_ n4_ hb ho23; obtain ⟨Ao24, co24, eo24⟩ := Kd.R_slice HO208.out; subst eo24) | ((with_reducible refine gate_callee (f := 94) rfl ?_); refine goesL_ (some 17) rfl rfl Try.func94 (by kernel_rfl) rfl #[.slice Ao24 y206.length co24] rfl (by (try simp only [List.map_toArray, List.map_cons, List.map_nil]); first | done | rfl | (simp only [List.length_drop, List.length_take]; rfl)) ?_; (with_reducible refine (spans_spanned.calls _ _ y206 t209 _ ?side1 ?side2 A6.out).mono ?_); (case side1 => exact cr_ (Kd.R_reads' HO208.out).2.2); (case side2 => exact (Kd.R_reads' HO208.out).2.1); rintro e w25 ⟨rfl, hb⟩; refine ⟨_, rfl, ?_⟩; have n0_ := Aside0.mk (Kd.R_below (by (with_reducible repeat (first | apply Kd.R_alloc | apply Kd.R_drewN | apply Kd.R_drew)); exact HO208.out) hb); have n1_ := Aside0.mk (blk_below (bk_ BK202.out) hb); have n2_ := Aside0.mk (blk_below (bk_ BK203.out) hb); have n3_ := Aside0.mk (blk_below (bk_ BK204.out) hb); have n4_ := Aside0.mk (below_step (bl_ HB.out) hb); clear HO208 BK202 BK203 BK204 HB; have HO208 := n0_; have BK202 := n1_; have BK203 := n2_; have BK204 := n3_; have HB := n4_; clear n0_ n1_ n2_ n3_ n4_; (try clear hb); (try clear hb2); (try clear hk); (try clear hi); have hcz26_0 : w25.cell? ⟨gb202, 0, none⟩ = some (.slice A0_0 l0_0.length c0_0) := (blk_cell BK202.out 0).trans rfl; have hcz26_1 : w25.cell? ⟨gb202, 1, none⟩ = some (.slice A0_1 l0_1.length c0_1) := (blk_cell BK202.out 1).trans rfl; have hcz26_2 : w25.cell? ⟨gb202, 2, none⟩ = some (.slice A0_2 l0_2.length c0_2) := (blk_cell BK202.out 2).trans rfl; have hfz26_0 := blk_frozen BK202.out 0; have hfz26_1 := blk_frozen BK202.out 1; have hfz26_2 := blk_frozen BK202.out 2; have hcz27_0 : w25.cell? ⟨gb203, 0, none⟩ = some (.int .i64 a1_0) := (blk_cell BK203.out 0).trans rfl; have hcz27_1 : w25.cell? ⟨gb203, 1, none⟩ = some (.int .i64 a1_1) := (blk_cell BK203.out 1).trans rfl; have hfz27_0 := blk_frozen BK203.out 0; have hfz27_1 := blk_frozen BK203.out 1) | ((with_reducible refine gate_callee (f := 104) rfl ?_); refine goesL_ (some 24) rfl rfl Try.func104 (by kernel_rfl) rfl #[.slice A0_0 l0_0.length c0_0, .agg #[.int .i64 a1_0, .int .i64 a1_1]] rfl (by (try simp only [List.map_toArray, List.map_cons, List.map_nil]); first | done | rfl | (simp only [List.length_drop, List.length_take]; rfl)) ?_; (with_reducible refine (spans_lies.calls _ _ l0_0 a1_0 a1_1 true _ ?side1 ?side2 A8.out).mono ?_); (case side1 => exact cr_ (Kd.C_below HR0_0.out HB.out)); (case side2 => exact HC0_0.out); rintro e w28 ⟨rfl, hb⟩; refine ⟨_, rfl, ?_⟩; have n0_ := Aside0.mk (Kd.R_below (by (with_reducible repeat (first | apply Kd.R_alloc | apply Kd.R_drewN | apply Kd.R_drew)); exact HO208.out) hb); have n1_ := Aside0.mk (blk_below (bk_ BK202.out) hb); have n2_ := Aside0.mk (blk_below (bk_ BK203.out) hb); have n3_ := Aside0.mk (blk_below (bk_ BK204.out) hb); have n4_ := Aside0.mk (below_step (bl_ HB.out) hb); clear HO208 BK202 BK203 BK204 HB; have HO208 := n0_; have BK202 := n1_; have BK203 := n2_; have BK204 := n3_; have HB := n4_; clear n0_ n1_ n2_ n3_ n4_; (try clear hb); (try clear hb2); (try clear hk); (try clear hi); have hcz29_0 : w28.cell? ⟨gb202, 0, none⟩ = some (.slice A0_0 l0_0.length c0_0) := (blk_cell BK202.out 0).trans rfl; have hcz29_1 : w28.cell? ⟨gb202, 1, none⟩ = some (.slice A0_1 l0_1.length c0_1) := (blk_cell BK202.out 1).trans rfl; have hcz29_2 : w28.cell? ⟨gb202, 2, none⟩ = some (.slice A0_2 l0_2.length c0_2) := (blk_cell BK202.out 2).trans rfl; have hfz29_0 := blk_frozen BK202.out 0; have hfz29_1 := blk_frozen BK202.out 1; have hfz29_2 := blk_frozen BK202.out 2; have hcz30_0 : w28.cell? ⟨gb204, 0, none⟩ = some (.int .i64 a2_0) := (blk_cell BK204.out 0).trans rfl; have hcz30_1 : w28.cell? ⟨gb204, 1, none⟩ = some (.int .i64 a2_1) := (blk_cell BK204.out 1).trans rfl; have hfz30_0 := blk_frozen BK204.out 0; have hfz30_1 := blk_frozen BK204.out 1) | (go_at_call 104; (with_reducible refine (spans_lies.calls _ _ l0_1 a2_0 a2_1 true _ ?side1 ?side2 A10.out).mono ?_); (case side1 => exact cr_ (Kd.C_below HR0_1.out HB.out)); (case side2 => exact HC0_1.out); rintro e w31 ⟨rfl, hb⟩; have n0_ := Aside0.mk (Kd.R_below (by (with_reducible repeat (first | apply Kd.R_alloc | apply Kd.R_drewN | apply Kd.R_drew)); exact HO208.out) hb); have n1_ := Aside0.mk (blk_below (bk_ BK202.out) hb); have n2_ := Aside0.mk (blk_below (bk_ BK203.out) hb); have n3_ := Aside0.mk (blk_below (bk_ BK204.out) hb); have n4_ := Aside0.mk (below_step (bl_ HB.out) hb); clear HO208 BK202 BK203 BK204 HB; have HO208 := n0_; have BK202 := n1_; have BK203 := n2_; have BK204 := n3_; have HB := n4_; clear n0_ n1_ n2_ n3_ n4_; (try clear hb); (try clear hb2); (try clear hk); (try clear hi)))
     go_ret
     exact ⟨by first | rfl | (simp [errW_none, errW_some] <;> rfl) | (simp [*, errW_none, errW_some] <;> rfl), bl_ HB.out⟩
    ·
     replace c11 := Bool.eq_false_iff.mpr c11
     subst c11
     have H1 : (some 1) = some r := by rw [if_neg (show ¬ (false = true) by decide)] at H; exact H
     clear H
     have H := H1
     clear H1
     obtain rfl := Option.some.inj H
     go_enter Try.func88, Try.ntmps88
     go_wp2_with (first | ((with_reducible refine gate_dst (N := 3) rfl ?_); refine box_event ?hg (N := 3) ?hd (cs := #[.slice A0_0 l0_0.length c0_0, .slice A0_1 l0_1.length c0_1, .slice A0_2 l0_2.length c0_2]) (t := 25) ?hr ?_; (case hd => rfl); (case hg => rfl); (case hr => first | (go_simp; done) | (go_simp; rfl)); intro gb202 hg w32 hbox hb; have n0_ := Aside0.mk (below_step (bl_ HB.out) hb); have n1_ := Aside0.mk (hbox); have n2_ := Aside0.mk (szl_ hg HB.out); have n3_ := Aside0.mk (szl_ hg HB.out); clear HB; have HB := n0_; have BK202 := n1_; have GW202 := n2_; have GE202 := n3_; clear n0_ n1_ n2_ n3_ hb hbox hg) | ((with_reducible refine gate_dst (N := 4) rfl ?_); refine box_event ?hg (N := 4) ?hd (cs := #[.int .i64 a1_0, .int .i64 a1_1]) (t := 27) ?hr ?_; (case hd => rfl); (case hg => rfl); (case hr => first | (go_simp; done) | (go_simp; rfl)); intro gb203 hg w33 hbox hb; have n0_ := Aside0.mk (blk_below (bk_ BK202.out) hb); have n1_ := Aside0.mk (below_step (bl_ HB.out) hb); have n2_ := Aside0.mk (hbox); have n3_ := Aside0.mk (szl_ hg HB.out); have n4_ := Aside0.mk (szl_ hg HB.out); have n5_ := Aside0.mk (nel_ hg BK202.out); have n6_ := Aside0.mk (ner_ hg BK202.out); clear BK202 HB; have BK202 := n0_; have HB := n1_; have BK203 := n2_; have GW203 := n3_; have GE203 := n4_; have NB202_203 := n5_; have NB203_202 := n6_; clear n0_ n1_ n2_ n3_ n4_ n5_ n6_ hb hbox hg) | ((with_reducible refine gate_dst (N := 5) rfl ?_); refine box_event ?hg (N := 5) ?hd (cs := #[.int .i64 a2_0, .int .i64 a2_1]) (t := 27) ?hr ?_; (case hd => rfl); (case hg => rfl); (case hr => first | (go_simp; done) | (go_simp; rfl)); intro gb204 hg w34 hbox hb; have n0_ := Aside0.mk (blk_below (bk_ BK202.out) hb); have n1_ := Aside0.mk (blk_below (bk_ BK203.out) hb); have n2_ := Aside0.mk (below_step (bl_ HB.out) hb); have n3_ := Aside0.mk (hbox); have n4_ := Aside0.mk (szl_ hg HB.out); have n5_ := Aside0.mk (szl_ hg HB.out); have n6_ := Aside0.mk (nel_ hg BK202.out); have n7_ := Aside0.mk (ner_ hg BK202.out); have n8_ := Aside0.mk (nel_ hg BK203.out); have n9_ := Aside0.mk (ner_ hg BK203.out); clear BK202 BK203 HB; have BK202 := n0_; have BK203 := n1_; have HB := n2_; have BK204 := n3_; have GW204 := n4_; have GE204 := n5_; have NB202_204 := n6_; have NB204_202 := n7_; have NB203_204 := n8_; have NB204_203 := n9_; clear n0_ n1_ n2_ n3_ n4_ n5_ n6_ n7_ n8_ n9_ hb hbox hg; have hnb35 := NB202_203.out; have hnc35 := NB203_202.out; have hnb36 := NB202_204.out; have hnc36 := NB204_202.out; have hcz37_0 : w34.cell? ⟨gb202, 0, none⟩ = some (.slice A0_0 l0_0.length c0_0) := (blk_cell BK202.out 0).trans rfl; have hcz37_1 : w34.cell? ⟨gb202, 1, none⟩ = some (.slice A0_1 l0_1.length c0_1) := (blk_cell BK202.out 1).trans rfl; have hcz37_2 : w34.cell? ⟨gb202, 2, none⟩ = some (.slice A0_2 l0_2.length c0_2) := (blk_cell BK202.out 2).trans rfl; have hfz37_0 := blk_frozen BK202.out 0; have hfz37_1 := blk_frozen BK202.out 1; have hfz37_2 := blk_frozen BK202.out 2) | ((with_reducible refine gate_callee (f := 29) rfl ?_); refine goesL_ (some 10) rfl rfl Try.func29 (by kernel_rfl) rfl #[.agg #[.slice A0_0 l0_0.length c0_0, .slice A0_1 l0_1.length c0_1, .slice A0_2 l0_2.length c0_2]] rfl (by (try simp only [List.map_toArray, List.map_cons, List.map_nil]); first | done | rfl | (simp only [List.length_drop, List.length_take]; rfl)) ?_; (with_reducible refine (spans_CheckTable.calls _ _ l0_0 _ _ l0_1 _ _ l0_2 t205 _ ?side1 ?side2 ?side3 ?side4 ?side5 ?side6 A4.out).mono ?_); (case side1 => exact cr_ (Kd.C_below HR0_0.out HB.out)); (case side2 => exact HC0_0.out); (case side3 => exact cr_ (Kd.C_below HR0_1.out HB.out)); (case side4 => exact HC0_1.out); (case side5 => exact cr_ (Kd.C_below HR0_2.out HB.out)); (case side6 => exact HC0_2.out); rintro e w38 ⟨rfl, hb⟩; refine ⟨_, rfl, ?_⟩; have n0_ := Aside0.mk (blk_below (bk_ BK202.out) hb); have n1_ := Aside0.mk (blk_below (bk_ BK203.out) hb); have n2_ := Aside0.mk (blk_below (bk_ BK204.out) hb); have n3_ := Aside0.mk (below_step (bl_ HB.out) hb); clear BK202 BK203 BK204 HB; have BK202 := n0_; have BK203 := n1_; have BK204 := n2_; have HB := n3_; clear n0_ n1_ n2_ n3_; (try clear hb); (try clear hb2); (try clear hk); (try clear hi); have hnb39 := NB203_204.out; have hnc39 := NB204_203.out; have hcz40_0 : w38.cell? ⟨gb203, 0, none⟩ = some (.int .i64 a1_0) := (blk_cell BK203.out 0).trans rfl; have hcz40_1 : w38.cell? ⟨gb203, 1, none⟩ = some (.int .i64 a1_1) := (blk_cell BK203.out 1).trans rfl; have hfz40_0 := blk_frozen BK203.out 0; have hfz40_1 := blk_frozen BK203.out 1; have hcz41_0 : w38.cell? ⟨gb204, 0, none⟩ = some (.int .i64 a2_0) := (blk_cell BK204.out 0).trans rfl; have hcz41_1 : w38.cell? ⟨gb204, 1, none⟩ = some (.int .i64 a2_1) := (blk_cell BK204.out 1).trans rfl; have hfz41_0 := blk_frozen BK204.out 0; have hfz41_1 := blk_frozen BK204.out 1) | ((with_reducible refine gate_dst (N := 16) rfl ?_); refine Kd.R_lit k27 _ 27 ?hg (N := 16) ?hd (xs := ([(⟨a1_0, a1_1⟩ : S27), (⟨a2_0, a2_1⟩ : S27)] : List (S27))) (inner := [.int .i64 a1_0, .int .i64 a1_1, .int .i64 a2_0, .int .i64 a2_1]) (ok := fun _ => True) (okp := fun _ => True) ?hr ?hp (fun _ hk => hk) trivial (Below.refl _ _) (Nat.le_refl _) (by simp) ?_; (case hd => rfl); (case hg => rfl); (case hr => first | (go_simp; done) | (go_simp; rfl)); (case hp => exact (Reps.c2 (show Kd.M k27 _ _ _ (⟨a1_0, a1_1⟩ : S27) [.int .i64 a1_0, .int .i64 a1_1] from (k27_mkM _ _ _ (⟨a1_0, a1_1⟩ : S27) )) (Reps.c2 (show Kd.M k27 _ _ _ (⟨a2_0, a2_1⟩ : S27) [.int .i64 a2_0, .int .i64 a2_1] from (k27_mkM _ _ _ (⟨a2_0, a2_1⟩ : S27) )) (Reps.none _ _)))); intro v207 w42 ho43 hb hg_ hnew_; clear hg_ hnew_; (first | rw [← Ny206.out] at ho43 | (simp only [Int.reduceToNat] at ho43; rw [← Ny206.out] at ho43)); have n0_ := Aside0.mk (Kd.R_lower (Kd.R_newB (Kd.R_newB ho43 (bk_ BK203.out)) (bk_ BK204.out)) (below_size (bl_ HB.out))); have n1_ := Aside0.mk (blk_below (bk_ BK202.out) hb); have n2_ := Aside0.mk (blk_below (bk_ BK203.out) hb); have n3_ := Aside0.mk (blk_below (bk_ BK204.out) hb); have n4_ := Aside0.mk (below_step (bl_ HB.out) hb); clear BK202 BK203 BK204 HB; have HO208 := n0_; have BK202 := n1_; have BK203 := n2_; have BK204 := n3_; have HB := n4_; clear n0_ n1_ n2_ n3_ n4_ hb ho43; obtain ⟨Ao44, co44, eo44⟩ := Kd.R_slice HO208.out; subst eo44) | ((with_reducible refine gate_callee (f := 94) rfl ?_); refine goesL_ (some 17) rfl rfl Try.func94 (by kernel_rfl) rfl #[.slice Ao44 y206.length co44] rfl (by (try simp only [List.map_toArray, List.map_cons, List.map_nil]); first | done | rfl | (simp only [List.length_drop, List.length_take]; rfl)) ?_; (with_reducible refine (spans_spanned.calls _ _ y206 t209 _ ?side1 ?side2 A6.out).mono ?_); (case side1 => exact cr_ (Kd.R_reads' HO208.out).2.2); (case side2 => exact (Kd.R_reads' HO208.out).2.1); rintro e w45 ⟨rfl, hb⟩; refine ⟨_, rfl, ?_⟩; have n0_ := Aside0.mk (Kd.R_below (by (with_reducible repeat (first | apply Kd.R_alloc | apply Kd.R_drewN | apply Kd.R_drew)); exact HO208.out) hb); have n1_ := Aside0.mk (blk_below (bk_ BK202.out) hb); have n2_ := Aside0.mk (blk_below (bk_ BK203.out) hb); have n3_ := Aside0.mk (blk_below (bk_ BK204.out) hb); have n4_ := Aside0.mk (below_step (bl_ HB.out) hb); clear HO208 BK202 BK203 BK204 HB; have HO208 := n0_; have BK202 := n1_; have BK203 := n2_; have BK204 := n3_; have HB := n4_; clear n0_ n1_ n2_ n3_ n4_; (try clear hb); (try clear hb2); (try clear hk); (try clear hi); have hcz46_0 : w45.cell? ⟨gb202, 0, none⟩ = some (.slice A0_0 l0_0.length c0_0) := (blk_cell BK202.out 0).trans rfl; have hcz46_1 : w45.cell? ⟨gb202, 1, none⟩ = some (.slice A0_1 l0_1.length c0_1) := (blk_cell BK202.out 1).trans rfl; have hcz46_2 : w45.cell? ⟨gb202, 2, none⟩ = some (.slice A0_2 l0_2.length c0_2) := (blk_cell BK202.out 2).trans rfl; have hfz46_0 := blk_frozen BK202.out 0; have hfz46_1 := blk_frozen BK202.out 1; have hfz46_2 := blk_frozen BK202.out 2; have hcz47_0 : w45.cell? ⟨gb203, 0, none⟩ = some (.int .i64 a1_0) := (blk_cell BK203.out 0).trans rfl; have hcz47_1 : w45.cell? ⟨gb203, 1, none⟩ = some (.int .i64 a1_1) := (blk_cell BK203.out 1).trans rfl; have hfz47_0 := blk_frozen BK203.out 0; have hfz47_1 := blk_frozen BK203.out 1) | ((with_reducible refine gate_callee (f := 104) rfl ?_); refine goesL_ (some 24) rfl rfl Try.func104 (by kernel_rfl) rfl #[.slice A0_0 l0_0.length c0_0, .agg #[.int .i64 a1_0, .int .i64 a1_1]] rfl (by (try simp only [List.map_toArray, List.map_cons, List.map_nil]); first | done | rfl | (simp only [List.length_drop, List.length_take]; rfl)) ?_; (with_reducible refine (spans_lies.calls _ _ l0_0 a1_0 a1_1 true _ ?side1 ?side2 A8.out).mono ?_); (case side1 => exact cr_ (Kd.C_below HR0_0.out HB.out)); (case side2 => exact HC0_0.out); rintro e w48 ⟨rfl, hb⟩; refine ⟨_, rfl, ?_⟩; have n0_ := Aside0.mk (Kd.R_below (by (with_reducible repeat (first | apply Kd.R_alloc | apply Kd.R_drewN | apply Kd.R_drew)); exact HO208.out) hb); have n1_ := Aside0.mk (blk_below (bk_ BK202.out) hb); have n2_ := Aside0.mk (blk_below (bk_ BK203.out) hb); have n3_ := Aside0.mk (blk_below (bk_ BK204.out) hb); have n4_ := Aside0.mk (below_step (bl_ HB.out) hb); clear HO208 BK202 BK203 BK204 HB; have HO208 := n0_; have BK202 := n1_; have BK203 := n2_; have BK204 := n3_; have HB := n4_; clear n0_ n1_ n2_ n3_ n4_; (try clear hb); (try clear hb2); (try clear hk); (try clear hi); have hcz49_0 : w48.cell? ⟨gb202, 0, none⟩ = some (.slice A0_0 l0_0.length c0_0) := (blk_cell BK202.out 0).trans rfl; have hcz49_1 : w48.cell? ⟨gb202, 1, none⟩ = some (.slice A0_1 l0_1.length c0_1) := (blk_cell BK202.out 1).trans rfl; have hcz49_2 : w48.cell? ⟨gb202, 2, none⟩ = some (.slice A0_2 l0_2.length c0_2) := (blk_cell BK202.out 2).trans rfl; have hfz49_0 := blk_frozen BK202.out 0; have hfz49_1 := blk_frozen BK202.out 1; have hfz49_2 := blk_frozen BK202.out 2; have hcz50_0 : w48.cell? ⟨gb204, 0, none⟩ = some (.int .i64 a2_0) := (blk_cell BK204.out 0).trans rfl; have hcz50_1 : w48.cell? ⟨gb204, 1, none⟩ = some (.int .i64 a2_1) := (blk_cell BK204.out 1).trans rfl; have hfz50_0 := blk_frozen BK204.out 0; have hfz50_1 := blk_frozen BK204.out 1) | (go_at_call 104; (with_reducible refine (spans_lies.calls _ _ l0_1 a2_0 a2_1 false _ ?side1 ?side2 A10.out).mono ?_); (case side1 => exact cr_ (Kd.C_below HR0_1.out HB.out)); (case side2 => exact HC0_1.out); rintro e w51 ⟨rfl, hb⟩; have n0_ := Aside0.mk (Kd.R_below (by (with_reducible repeat (first | apply Kd.R_alloc | apply Kd.R_drewN | apply Kd.R_drew)); exact HO208.out) hb); have n1_ := Aside0.mk (blk_below (bk_ BK202.out) hb); have n2_ := Aside0.mk (blk_below (bk_ BK203.out) hb); have n3_ := Aside0.mk (blk_below (bk_ BK204.out) hb); have n4_ := Aside0.mk (below_step (bl_ HB.out) hb); clear HO208 BK202 BK203 BK204 HB; have HO208 := n0_; have BK202 := n1_; have BK203 := n2_; have BK204 := n3_; have HB := n4_; clear n0_ n1_ n2_ n3_ n4_; (try clear hb); (try clear hb2); (try clear hk); (try clear hi)))
     go_ret
     exact ⟨by first | rfl | (simp [errW_none, errW_some] <;> rfl) | (simp [*, errW_none, errW_some] <;> rfl), bl_ HB.out⟩
   ·
    replace c9 := Bool.eq_false_iff.mpr c9
    subst c9
    have H1 : (some 1) = some r := by rw [if_neg (show ¬ (false = true) by decide)] at H; exact H
    clear H
    have H := H1
    clear H1
    obtain rfl := Option.some.inj H
    go_enter Try.func88, Try.ntmps88
    go_wp2_with (first | ((with_reducible refine gate_dst (N := 3) rfl ?_); refine box_event ?hg (N := 3) ?hd (cs := #[.slice A0_0 l0_0.length c0_0, .slice A0_1 l0_1.length c0_1, .slice A0_2 l0_2.length c0_2]) (t := 25) ?hr ?_; (case hd => rfl); (case hg => rfl); (case hr => first | (go_simp; done) | (go_simp; rfl)); intro gb202 hg w52 hbox hb; have n0_ := Aside0.mk (below_step (bl_ HB.out) hb); have n1_ := Aside0.mk (hbox); have n2_ := Aside0.mk (szl_ hg HB.out); have n3_ := Aside0.mk (szl_ hg HB.out); clear HB; have HB := n0_; have BK202 := n1_; have GW202 := n2_; have GE202 := n3_; clear n0_ n1_ n2_ n3_ hb hbox hg) | ((with_reducible refine gate_dst (N := 4) rfl ?_); refine box_event ?hg (N := 4) ?hd (cs := #[.int .i64 a1_0, .int .i64 a1_1]) (t := 27) ?hr ?_; (case hd => rfl); (case hg => rfl); (case hr => first | (go_simp; done) | (go_simp; rfl)); intro gb203 hg w53 hbox hb; have n0_ := Aside0.mk (blk_below (bk_ BK202.out) hb); have n1_ := Aside0.mk (below_step (bl_ HB.out) hb); have n2_ := Aside0.mk (hbox); have n3_ := Aside0.mk (szl_ hg HB.out); have n4_ := Aside0.mk (szl_ hg HB.out); have n5_ := Aside0.mk (nel_ hg BK202.out); have n6_ := Aside0.mk (ner_ hg BK202.out); clear BK202 HB; have BK202 := n0_; have HB := n1_; have BK203 := n2_; have GW203 := n3_; have GE203 := n4_; have NB202_203 := n5_; have NB203_202 := n6_; clear n0_ n1_ n2_ n3_ n4_ n5_ n6_ hb hbox hg) | ((with_reducible refine gate_dst (N := 5) rfl ?_); refine box_event ?hg (N := 5) ?hd (cs := #[.int .i64 a2_0, .int .i64 a2_1]) (t := 27) ?hr ?_; (case hd => rfl); (case hg => rfl); (case hr => first | (go_simp; done) | (go_simp; rfl)); intro gb204 hg w54 hbox hb; have n0_ := Aside0.mk (blk_below (bk_ BK202.out) hb); have n1_ := Aside0.mk (blk_below (bk_ BK203.out) hb); have n2_ := Aside0.mk (below_step (bl_ HB.out) hb); have n3_ := Aside0.mk (hbox); have n4_ := Aside0.mk (szl_ hg HB.out); have n5_ := Aside0.mk (szl_ hg HB.out); have n6_ := Aside0.mk (nel_ hg BK202.out); have n7_ := Aside0.mk (ner_ hg BK202.out); have n8_ := Aside0.mk (nel_ hg BK203.out); have n9_ := Aside0.mk (ner_ hg BK203.out); clear BK202 BK203 HB; have BK202 := n0_; have BK203 := n1_; have HB := n2_; have BK204 := n3_; have GW204 := n4_; have GE204 := n5_; have NB202_204 := n6_; have NB204_202 := n7_; have NB203_204 := n8_; have NB204_203 := n9_; clear n0_ n1_ n2_ n3_ n4_ n5_ n6_ n7_ n8_ n9_ hb hbox hg; have hnb55 := NB202_203.out; have hnc55 := NB203_202.out; have hnb56 := NB202_204.out; have hnc56 := NB204_202.out; have hcz57_0 : w54.cell? ⟨gb202, 0, none⟩ = some (.slice A0_0 l0_0.length c0_0) := (blk_cell BK202.out 0).trans rfl; have hcz57_1 : w54.cell? ⟨gb202, 1, none⟩ = some (.slice A0_1 l0_1.length c0_1) := (blk_cell BK202.out 1).trans rfl; have hcz57_2 : w54.cell? ⟨gb202, 2, none⟩ = some (.slice A0_2 l0_2.length c0_2) := (blk_cell BK202.out 2).trans rfl; have hfz57_0 := blk_frozen BK202.out 0; have hfz57_1 := blk_frozen BK202.out 1; have hfz57_2 := blk_frozen BK202.out 2) | ((with_reducible refine gate_callee (f := 29) rfl ?_); refine goesL_ (some 10) rfl rfl Try.func29 (by kernel_rfl) rfl #[.agg #[.slice A0_0 l0_0.length c0_0, .slice A0_1 l0_1.length c0_1, .slice A0_2 l0_2.length c0_2]] rfl (by (try simp only [List.map_toArray, List.map_cons, List.map_nil]); first | done | rfl | (simp only [List.length_drop, List.length_take]; rfl)) ?_; (with_reducible refine (spans_CheckTable.calls _ _ l0_0 _ _ l0_1 _ _ l0_2 t205 _ ?side1 ?side2 ?side3 ?side4 ?side5 ?side6 A4.out).mono ?_); (case side1 => exact cr_ (Kd.C_below HR0_0.out HB.out)); (case side2 => exact HC0_0.out); (case side3 => exact cr_ (Kd.C_below HR0_1.out HB.out)); (case side4 => exact HC0_1.out); (case side5 => exact cr_ (Kd.C_below HR0_2.out HB.out)); (case side6 => exact HC0_2.out); rintro e w58 ⟨rfl, hb⟩; refine ⟨_, rfl, ?_⟩; have n0_ := Aside0.mk (blk_below (bk_ BK202.out) hb); have n1_ := Aside0.mk (blk_below (bk_ BK203.out) hb); have n2_ := Aside0.mk (blk_below (bk_ BK204.out) hb); have n3_ := Aside0.mk (below_step (bl_ HB.out) hb); clear BK202 BK203 BK204 HB; have BK202 := n0_; have BK203 := n1_; have BK204 := n2_; have HB := n3_; clear n0_ n1_ n2_ n3_; (try clear hb); (try clear hb2); (try clear hk); (try clear hi); have hnb59 := NB203_204.out; have hnc59 := NB204_203.out; have hcz60_0 : w58.cell? ⟨gb203, 0, none⟩ = some (.int .i64 a1_0) := (blk_cell BK203.out 0).trans rfl; have hcz60_1 : w58.cell? ⟨gb203, 1, none⟩ = some (.int .i64 a1_1) := (blk_cell BK203.out 1).trans rfl; have hfz60_0 := blk_frozen BK203.out 0; have hfz60_1 := blk_frozen BK203.out 1; have hcz61_0 : w58.cell? ⟨gb204, 0, none⟩ = some (.int .i64 a2_0) := (blk_cell BK204.out 0).trans rfl; have hcz61_1 : w58.cell? ⟨gb204, 1, none⟩ = some (.int .i64 a2_1) := (blk_cell BK204.out 1).trans rfl; have hfz61_0 := blk_frozen BK204.out 0; have hfz61_1 := blk_frozen BK204.out 1) | ((with_reducible refine gate_dst (N := 16) rfl ?_); refine Kd.R_lit k27 _ 27 ?hg (N := 16) ?hd (xs := ([(⟨a1_0, a1_1⟩ : S27), (⟨a2_0, a2_1⟩ : S27)] : List (S27))) (inner := [.int .i64 a1_0, .int .i64 a1_1, .int .i64 a2_0, .int .i64 a2_1]) (ok := fun _ => True) (okp := fun _ => True) ?hr ?hp (fun _ hk => hk) trivial (Below.refl _ _) (Nat.le_refl _) (by simp) ?_; (case hd => rfl); (case hg => rfl); (case hr => first | (go_simp; done) | (go_simp; rfl)); (case hp => exact (Reps.c2 (show Kd.M k27 _ _ _ (⟨a1_0, a1_1⟩ : S27) [.int .i64 a1_0, .int .i64 a1_1] from (k27_mkM _ _ _ (⟨a1_0, a1_1⟩ : S27) )) (Reps.c2 (show Kd.M k27 _ _ _ (⟨a2_0, a2_1⟩ : S27) [.int .i64 a2_0, .int .i64 a2_1] from (k27_mkM _ _ _ (⟨a2_0, a2_1⟩ : S27) )) (Reps.none _ _)))); intro v207 w62 ho63 hb hg_ hnew_; clear hg_ hnew_; (first | rw [← Ny206.out] at ho63 | (simp only [Int.reduceToNat] at ho63; rw [← Ny206.out] at ho63)); have n0_ := Aside0.mk (Kd.R_lower (Kd.R_newB (Kd.R_newB ho63 (bk_ BK203.out)) (bk_ BK204.out)) (below_size (bl_ HB.out))); have n1_ := Aside0.mk (blk_below (bk_ BK202.out) hb); have n2_ := Aside0.mk (blk_below (bk_ BK203.out) hb); have n3_ := Aside0.mk (blk_below (bk_ BK204.out) hb); have n4_ := Aside0.mk (below_step (bl_ HB.out) hb); clear BK202 BK203 BK204 HB; have HO208 := n0_; have BK202 := n1_; have BK203 := n2_; have BK204 := n3_; have HB := n4_; clear n0_ n1_ n2_ n3_ n4_ hb ho63; obtain ⟨Ao64, co64, eo64⟩ := Kd.R_slice HO208.out; subst eo64) | ((with_reducible refine gate_callee (f := 94) rfl ?_); refine goesL_ (some 17) rfl rfl Try.func94 (by kernel_rfl) rfl #[.slice Ao64 y206.length co64] rfl (by (try simp only [List.map_toArray, List.map_cons, List.map_nil]); first | done | rfl | (simp only [List.length_drop, List.length_take]; rfl)) ?_; (with_reducible refine (spans_spanned.calls _ _ y206 t209 _ ?side1 ?side2 A6.out).mono ?_); (case side1 => exact cr_ (Kd.R_reads' HO208.out).2.2); (case side2 => exact (Kd.R_reads' HO208.out).2.1); rintro e w65 ⟨rfl, hb⟩; refine ⟨_, rfl, ?_⟩; have n0_ := Aside0.mk (Kd.R_below (by (with_reducible repeat (first | apply Kd.R_alloc | apply Kd.R_drewN | apply Kd.R_drew)); exact HO208.out) hb); have n1_ := Aside0.mk (blk_below (bk_ BK202.out) hb); have n2_ := Aside0.mk (blk_below (bk_ BK203.out) hb); have n3_ := Aside0.mk (blk_below (bk_ BK204.out) hb); have n4_ := Aside0.mk (below_step (bl_ HB.out) hb); clear HO208 BK202 BK203 BK204 HB; have HO208 := n0_; have BK202 := n1_; have BK203 := n2_; have BK204 := n3_; have HB := n4_; clear n0_ n1_ n2_ n3_ n4_; (try clear hb); (try clear hb2); (try clear hk); (try clear hi); have hcz66_0 : w65.cell? ⟨gb202, 0, none⟩ = some (.slice A0_0 l0_0.length c0_0) := (blk_cell BK202.out 0).trans rfl; have hcz66_1 : w65.cell? ⟨gb202, 1, none⟩ = some (.slice A0_1 l0_1.length c0_1) := (blk_cell BK202.out 1).trans rfl; have hcz66_2 : w65.cell? ⟨gb202, 2, none⟩ = some (.slice A0_2 l0_2.length c0_2) := (blk_cell BK202.out 2).trans rfl; have hfz66_0 := blk_frozen BK202.out 0; have hfz66_1 := blk_frozen BK202.out 1; have hfz66_2 := blk_frozen BK202.out 2; have hcz67_0 : w65.cell? ⟨gb203, 0, none⟩ = some (.int .i64 a1_0) := (blk_cell BK203.out 0).trans rfl; have hcz67_1 : w65.cell? ⟨gb203, 1, none⟩ = some (.int .i64 a1_1) := (blk_cell BK203.out 1).trans rfl; have hfz67_0 := blk_frozen BK203.out 0; have hfz67_1 := blk_frozen BK203.out 1) | ((with_reducible refine gate_callee (f := 104) rfl ?_); refine goesL_ (some 24) rfl rfl Try.func104 (by kernel_rfl) rfl #[.slice A0_0 l0_0.length c0_0, .agg #[.int .i64 a1_0, .int .i64 a1_1]] rfl (by (try simp only [List.map_toArray, List.map_cons, List.map_nil]); first | done | rfl | (simp only [List.length_drop, List.length_take]; rfl)) ?_; (with_reducible refine (spans_lies.calls _ _ l0_0 a1_0 a1_1 false _ ?side1 ?side2 A8.out).mono ?_); (case side1 => exact cr_ (Kd.C_below HR0_0.out HB.out)); (case side2 => exact HC0_0.out); rintro e w68 ⟨rfl, hb⟩; refine ⟨_, rfl, ?_⟩; have n0_ := Aside0.mk (Kd.R_below (by (with_reducible repeat (first | apply Kd.R_alloc | apply Kd.R_drewN | apply Kd.R_drew)); exact HO208.out) hb); have n1_ := Aside0.mk (blk_below (bk_ BK202.out) hb); have n2_ := Aside0.mk (blk_below (bk_ BK203.out) hb); have n3_ := Aside0.mk (blk_below (bk_ BK204.out) hb); have n4_ := Aside0.mk (below_step (bl_ HB.out) hb); clear HO208 BK202 BK203 BK204 HB; have HO208 := n0_; have BK202 := n1_; have BK203 := n2_; have BK204 := n3_; have HB := n4_; clear n0_ n1_ n2_ n3_ n4_; (try clear hb); (try clear hb2); (try clear hk); (try clear hi)))
    go_ret
    exact ⟨by first | rfl | (simp [errW_none, errW_some] <;> rfl) | (simp [*, errW_none, errW_some] <;> rfl), bl_ HB.out⟩
  ·
   rw [if_neg c7] at H
   have c7b0 : (t209 == 0) = false := beq_eq_false_iff_ne.mpr c7
   have c7b1 : (t209 != 0) = true := bne_iff_ne.mpr c7
   obtain rfl := Option.some.inj H
   go_enter Try.func88, Try.ntmps88
   go_wp2_with (first | ((with_reducible refine gate_dst (N := 3) rfl ?_); refine box_event ?hg (N := 3) ?hd (cs := #[.slice A0_0 l0_0.length c0_0, .slice A0_1 l0_1.length c0_1, .slice A0_2 l0_2.length c0_2]) (t := 25) ?hr ?_; (case hd => rfl); (case hg => rfl); (case hr => first | (go_simp; done) | (go_simp; rfl)); intro gb202 hg w69 hbox hb; have n0_ := Aside0.mk (below_step (bl_ HB.out) hb); have n1_ := Aside0.mk (hbox); have n2_ := Aside0.mk (szl_ hg HB.out); have n3_ := Aside0.mk (szl_ hg HB.out); clear HB; have HB := n0_; have BK202 := n1_; have GW202 := n2_; have GE202 := n3_; clear n0_ n1_ n2_ n3_ hb hbox hg) | ((with_reducible refine gate_dst (N := 4) rfl ?_); refine box_event ?hg (N := 4) ?hd (cs := #[.int .i64 a1_0, .int .i64 a1_1]) (t := 27) ?hr ?_; (case hd => rfl); (case hg => rfl); (case hr => first | (go_simp; done) | (go_simp; rfl)); intro gb203 hg w70 hbox hb; have n0_ := Aside0.mk (blk_below (bk_ BK202.out) hb); have n1_ := Aside0.mk (below_step (bl_ HB.out) hb); have n2_ := Aside0.mk (hbox); have n3_ := Aside0.mk (szl_ hg HB.out); have n4_ := Aside0.mk (szl_ hg HB.out); have n5_ := Aside0.mk (nel_ hg BK202.out); have n6_ := Aside0.mk (ner_ hg BK202.out); clear BK202 HB; have BK202 := n0_; have HB := n1_; have BK203 := n2_; have GW203 := n3_; have GE203 := n4_; have NB202_203 := n5_; have NB203_202 := n6_; clear n0_ n1_ n2_ n3_ n4_ n5_ n6_ hb hbox hg) | ((with_reducible refine gate_dst (N := 5) rfl ?_); refine box_event ?hg (N := 5) ?hd (cs := #[.int .i64 a2_0, .int .i64 a2_1]) (t := 27) ?hr ?_; (case hd => rfl); (case hg => rfl); (case hr => first | (go_simp; done) | (go_simp; rfl)); intro gb204 hg w71 hbox hb; have n0_ := Aside0.mk (blk_below (bk_ BK202.out) hb); have n1_ := Aside0.mk (blk_below (bk_ BK203.out) hb); have n2_ := Aside0.mk (below_step (bl_ HB.out) hb); have n3_ := Aside0.mk (hbox); have n4_ := Aside0.mk (szl_ hg HB.out); have n5_ := Aside0.mk (szl_ hg HB.out); have n6_ := Aside0.mk (nel_ hg BK202.out); have n7_ := Aside0.mk (ner_ hg BK202.out); have n8_ := Aside0.mk (nel_ hg BK203.out); have n9_ := Aside0.mk (ner_ hg BK203.out); clear BK202 BK203 HB; have BK202 := n0_; have BK203 := n1_; have HB := n2_; have BK204 := n3_; have GW204 := n4_; have GE204 := n5_; have NB202_204 := n6_; have NB204_202 := n7_; have NB203_204 := n8_; have NB204_203 := n9_; clear n0_ n1_ n2_ n3_ n4_ n5_ n6_ n7_ n8_ n9_ hb hbox hg; have hnb72 := NB202_203.out; have hnc72 := NB203_202.out; have hnb73 := NB202_204.out; have hnc73 := NB204_202.out; have hcz74_0 : w71.cell? ⟨gb202, 0, none⟩ = some (.slice A0_0 l0_0.length c0_0) := (blk_cell BK202.out 0).trans rfl; have hcz74_1 : w71.cell? ⟨gb202, 1, none⟩ = some (.slice A0_1 l0_1.length c0_1) := (blk_cell BK202.out 1).trans rfl; have hcz74_2 : w71.cell? ⟨gb202, 2, none⟩ = some (.slice A0_2 l0_2.length c0_2) := (blk_cell BK202.out 2).trans rfl; have hfz74_0 := blk_frozen BK202.out 0; have hfz74_1 := blk_frozen BK202.out 1; have hfz74_2 := blk_frozen BK202.out 2) | ((with_reducible refine gate_callee (f := 29) rfl ?_); refine goesL_ (some 10) rfl rfl Try.func29 (by kernel_rfl) rfl #[.agg #[.slice A0_0 l0_0.length c0_0, .slice A0_1 l0_1.length c0_1, .slice A0_2 l0_2.length c0_2]] rfl (by (try simp only [List.map_toArray, List.map_cons, List.map_nil]); first | done | rfl | (simp only [List.length_drop, List.length_take]; rfl)) ?_; (with_reducible refine (spans_CheckTable.calls _ _ l0_0 _ _ l0_1 _ _ l0_2 t205 _ ?side1 ?side2 ?side3 ?side4 ?side5 ?side6 A4.out).mono ?_); (case side1 => exact cr_ (Kd.C_below HR0_0.out HB.out)); (case side2 => exact HC0_0.out); (case side3 => exact cr_ (Kd.C_below HR0_1.out HB.out)); (case side4 => exact HC0_1.out); (case side5 => exact cr_ (Kd.C_below HR0_2.out HB.out)); (case side6 => exact HC0_2.out); rintro e w75 ⟨rfl, hb⟩; refine ⟨_, rfl, ?_⟩; have n0_ := Aside0.mk (blk_below (bk_ BK202.out) hb); have n1_ := Aside0.mk (blk_below (bk_ BK203.out) hb); have n2_ := Aside0.mk (blk_below (bk_ BK204.out) hb); have n3_ := Aside0.mk (below_step (bl_ HB.out) hb); clear BK202 BK203 BK204 HB; have BK202 := n0_; have BK203 := n1_; have BK204 := n2_; have HB := n3_; clear n0_ n1_ n2_ n3_; (try clear hb); (try clear hb2); (try clear hk); (try clear hi); have hnb76 := NB203_204.out; have hnc76 := NB204_203.out; have hcz77_0 : w75.cell? ⟨gb203, 0, none⟩ = some (.int .i64 a1_0) := (blk_cell BK203.out 0).trans rfl; have hcz77_1 : w75.cell? ⟨gb203, 1, none⟩ = some (.int .i64 a1_1) := (blk_cell BK203.out 1).trans rfl; have hfz77_0 := blk_frozen BK203.out 0; have hfz77_1 := blk_frozen BK203.out 1; have hcz78_0 : w75.cell? ⟨gb204, 0, none⟩ = some (.int .i64 a2_0) := (blk_cell BK204.out 0).trans rfl; have hcz78_1 : w75.cell? ⟨gb204, 1, none⟩ = some (.int .i64 a2_1) := (blk_cell BK204.out 1).trans rfl; have hfz78_0 := blk_frozen BK204.out 0; have hfz78_1 := blk_frozen BK204.out 1) | ((with_reducible refine gate_dst (N := 16) rfl ?_); refine Kd.R_lit k27 _ 27 ?hg (N := 16) ?hd (xs := ([(⟨a1_0, a1_1⟩ : S27), (⟨a2_0, a2_1⟩ : S27)] : List (S27))) (inner := [.int .i64 a1_0, .int .i64 a1_1, .int .i64 a2_0, .int .i64 a2_1]) (ok := fun _ => True) (okp := fun _ => True) ?hr ?hp (fun _ hk => hk) trivial (Below.refl _ _) (Nat.le_refl _) (by simp) ?_; (case hd => rfl); (case hg => rfl); (case hr => first | (go_simp; done) | (go_simp; rfl)); (case hp => exact (Reps.c2 (show Kd.M k27 _ _ _ (⟨a1_0, a1_1⟩ : S27) [.int .i64 a1_0, .int .i64 a1_1] from (k27_mkM _ _ _ (⟨a1_0, a1_1⟩ : S27) )) (Reps.c2 (show Kd.M k27 _ _ _ (⟨a2_0, a2_1⟩ : S27) [.int .i64 a2_0, .int .i64 a2_1] from (k27_mkM _ _ _ (⟨a2_0, a2_1⟩ : S27) )) (Reps.none _ _)))); intro v207 w79 ho80 hb hg_ hnew_; clear hg_ hnew_; (first | rw [← Ny206.out] at ho80 | (simp only [Int.reduceToNat] at ho80; rw [← Ny206.out] at ho80)); have n0_ := Aside0.mk (Kd.R_lower (Kd.R_newB (Kd.R_newB ho80 (bk_ BK203.out)) (bk_ BK204.out)) (below_size (bl_ HB.out))); have n1_ := Aside0.mk (blk_below (bk_ BK202.out) hb); have n2_ := Aside0.mk (blk_below (bk_ BK203.out) hb); have n3_ := Aside0.mk (blk_below (bk_ BK204.out) hb); have n4_ := Aside0.mk (below_step (bl_ HB.out) hb); clear BK202 BK203 BK204 HB; have HO208 := n0_; have BK202 := n1_; have BK203 := n2_; have BK204 := n3_; have HB := n4_; clear n0_ n1_ n2_ n3_ n4_ hb ho80; obtain ⟨Ao81, co81, eo81⟩ := Kd.R_slice HO208.out; subst eo81) | ((with_reducible refine gate_callee (f := 94) rfl ?_); refine goesL_ (some 17) rfl rfl Try.func94 (by kernel_rfl) rfl #[.slice Ao81 y206.length co81] rfl (by (try simp only [List.map_toArray, List.map_cons, List.map_nil]); first | done | rfl | (simp only [List.length_drop, List.length_take]; rfl)) ?_; (with_reducible refine (spans_spanned.calls _ _ y206 t209 _ ?side1 ?side2 A6.out).mono ?_); (case side1 => exact cr_ (Kd.R_reads' HO208.out).2.2); (case side2 => exact (Kd.R_reads' HO208.out).2.1); rintro e w82 ⟨rfl, hb⟩; refine ⟨_, rfl, ?_⟩; have n0_ := Aside0.mk (Kd.R_below (by (with_reducible repeat (first | apply Kd.R_alloc | apply Kd.R_drewN | apply Kd.R_drew)); exact HO208.out) hb); have n1_ := Aside0.mk (blk_below (bk_ BK202.out) hb); have n2_ := Aside0.mk (blk_below (bk_ BK203.out) hb); have n3_ := Aside0.mk (blk_below (bk_ BK204.out) hb); have n4_ := Aside0.mk (below_step (bl_ HB.out) hb); clear HO208 BK202 BK203 BK204 HB; have HO208 := n0_; have BK202 := n1_; have BK203 := n2_; have BK204 := n3_; have HB := n4_; clear n0_ n1_ n2_ n3_ n4_; (try clear hb); (try clear hb2); (try clear hk); (try clear hi)))
   go_ret
   exact ⟨by first | rfl | (simp [errW_none, errW_some] <;> rfl) | (simp [*, errW_none, errW_some] <;> rfl), bl_ HB.out⟩
 ·
  rw [if_neg c5] at H
  have c5b0 : (t205 == 0) = false := beq_eq_false_iff_ne.mpr c5
  have c5b1 : (t205 != 0) = true := bne_iff_ne.mpr c5
  obtain rfl := Option.some.inj H
  go_enter Try.func88, Try.ntmps88
  go_wp2_with (first | ((with_reducible refine gate_dst (N := 3) rfl ?_); refine box_event ?hg (N := 3) ?hd (cs := #[.slice A0_0 l0_0.length c0_0, .slice A0_1 l0_1.length c0_1, .slice A0_2 l0_2.length c0_2]) (t := 25) ?hr ?_; (case hd => rfl); (case hg => rfl); (case hr => first | (go_simp; done) | (go_simp; rfl)); intro gb202 hg w83 hbox hb; have n0_ := Aside0.mk (below_step (bl_ HB.out) hb); have n1_ := Aside0.mk (hbox); have n2_ := Aside0.mk (szl_ hg HB.out); have n3_ := Aside0.mk (szl_ hg HB.out); clear HB; have HB := n0_; have BK202 := n1_; have GW202 := n2_; have GE202 := n3_; clear n0_ n1_ n2_ n3_ hb hbox hg) | ((with_reducible refine gate_dst (N := 4) rfl ?_); refine box_event ?hg (N := 4) ?hd (cs := #[.int .i64 a1_0, .int .i64 a1_1]) (t := 27) ?hr ?_; (case hd => rfl); (case hg => rfl); (case hr => first | (go_simp; done) | (go_simp; rfl)); intro gb203 hg w84 hbox hb; have n0_ := Aside0.mk (blk_below (bk_ BK202.out) hb); have n1_ := Aside0.mk (below_step (bl_ HB.out) hb); have n2_ := Aside0.mk (hbox); have n3_ := Aside0.mk (szl_ hg HB.out); have n4_ := Aside0.mk (szl_ hg HB.out); have n5_ := Aside0.mk (nel_ hg BK202.out); have n6_ := Aside0.mk (ner_ hg BK202.out); clear BK202 HB; have BK202 := n0_; have HB := n1_; have BK203 := n2_; have GW203 := n3_; have GE203 := n4_; have NB202_203 := n5_; have NB203_202 := n6_; clear n0_ n1_ n2_ n3_ n4_ n5_ n6_ hb hbox hg) | ((with_reducible refine gate_dst (N := 5) rfl ?_); refine box_event ?hg (N := 5) ?hd (cs := #[.int .i64 a2_0, .int .i64 a2_1]) (t := 27) ?hr ?_; (case hd => rfl); (case hg => rfl); (case hr => first | (go_simp; done) | (go_simp; rfl)); intro gb204 hg w85 hbox hb; have n0_ := Aside0.mk (blk_below (bk_ BK202.out) hb); have n1_ := Aside0.mk (blk_below (bk_ BK203.out) hb); have n2_ := Aside0.mk (below_step (bl_ HB.out) hb); have n3_ := Aside0.mk (hbox); have n4_ := Aside0.mk (szl_ hg HB.out); have n5_ := Aside0.mk (szl_ hg HB.out); have n6_ := Aside0.mk (nel_ hg BK202.out); have n7_ := Aside0.mk (ner_ hg BK202.out); have n8_ := Aside0.mk (nel_ hg BK203.out); have n9_ := Aside0.mk (ner_ hg BK203.out); clear BK202 BK203 HB; have BK202 := n0_; have BK203 := n1_; have HB := n2_; have BK204 := n3_; have GW204 := n4_; have GE204 := n5_; have NB202_204 := n6_; have NB204_202 := n7_; have NB203_204 := n8_; have NB204_203 := n9_; clear n0_ n1_ n2_ n3_ n4_ n5_ n6_ n7_ n8_ n9_ hb hbox hg; have hnb86 := NB202_203.out; have hnc86 := NB203_202.out; have hnb87 := NB202_204.out; have hnc87 := NB204_202.out; have hcz88_0 : w85.cell? ⟨gb202, 0, none⟩ = some (.slice A0_0 l0_0.length c0_0) := (blk_cell BK202.out 0).trans rfl; have hcz88_1 : w85.cell? ⟨gb202, 1, none⟩ = some (.slice A0_1 l0_1.length c0_1) := (blk_cell BK202.out 1).trans rfl; have hcz88_2 : w85.cell? ⟨gb202, 2, none⟩ = some (.slice A0_2 l0_2.length c0_2) := (blk_cell BK202.out 2).trans rfl; have hfz88_0 := blk_frozen BK202.out 0; have hfz88_1 := blk_frozen BK202.out 1; have hfz88_2 := blk_frozen BK202.out 2) | ((with_reducible refine gate_callee (f := 29) rfl ?_); refine goesL_ (some 10) rfl rfl Try.func29 (by kernel_rfl) rfl #[.agg #[.slice A0_0 l0_0.length c0_0, .slice A0_1 l0_1.length c0_1, .slice A0_2 l0_2.length c0_2]] rfl (by (try simp only [List.map_toArray, List.map_cons, List.map_nil]); first | done | rfl | (simp only [List.length_drop, List.length_take]; rfl)) ?_; (with_reducible refine (spans_CheckTable.calls _ _ l0_0 _ _ l0_1 _ _ l0_2 t205 _ ?side1 ?side2 ?side3 ?side4 ?side5 ?side6 A4.out).mono ?_); (case side1 => exact cr_ (Kd.C_below HR0_0.out HB.out)); (case side2 => exact HC0_0.out); (case side3 => exact cr_ (Kd.C_below HR0_1.out HB.out)); (case side4 => exact HC0_1.out); (case side5 => exact cr_ (Kd.C_below HR0_2.out HB.out)); (case side6 => exact HC0_2.out); rintro e w89 ⟨rfl, hb⟩; refine ⟨_, rfl, ?_⟩; have n0_ := Aside0.mk (blk_below (bk_ BK202.out) hb); have n1_ := Aside0.mk (blk_below (bk_ BK203.out) hb); have n2_ := Aside0.mk (blk_below (bk_ BK204.out) hb); have n3_ := Aside0.mk (below_step (bl_ HB.out) hb); clear BK202 BK203 BK204 HB; have BK202 := n0_; have BK203 := n1_; have BK204 := n2_; have HB := n3_; clear n0_ n1_ n2_ n3_; (try clear hb); (try clear hb2); (try clear hk); (try clear hi)))
  go_ret
  exact ⟨by first | rfl | (simp [errW_none, errW_some] <;> rfl) | (simp [*, errW_none, errW_some] <;> rfl), bl_ HB.out⟩
end Go.Proofs.Yteodlmgmmpkpoaa.PS
end
section
namespace Go.Proofs.Yteodlmgmmpkpoaa.PS
open Go.RowKit Go.Proofs.YteodlmgmmpkpoaaW.PrintWords Go.Proofs.YteodlmgmmpkpoaaW.PrintLast Go.Proofs.YteodlmgmmpkpoaaW.PrintMore
attribute [local go_sem] max2_int min2_int max_two min_two max_three min_three max_four min_four   -- for this text's walks alone
set_option linter.unusedVariables false
set_option linter.unusedSimpArgs false
def cmp_isNaN_int.f (a0 : Int) : Option (Bool) := some (a0 != a0)
set_option maxHeartbeats 8000000 in
set_option maxRecDepth 100000 in
theorem cmp_isNaN_int.calls (a0 : Int) (r : Bool) (w : World) (h : cmp_isNaN_int.f a0 = some r) :
  Calls Try.prog 188 #[.int .i64 a0] w fun e w' => e = .returned (.bool r) ∧ Drawn0 w w' := by
 have H : (some (a0 != a0)) = some r := h
 clear h
 obtain rfl := Option.some.inj H
 go_enter Try.func188, Try.ntmps188
 go_wp2
 go_ret
 exact ⟨by first | rfl | (simp; done) | (simp [*]; done), by repeat (first | exact Drawn0.refl _ | apply Drawn0.step)⟩
end Go.Proofs.Yteodlmgmmpkpoaa.PS
end
section
namespace Go.Proofs.Yteodlmgmmpkpoaa.PS
open Go.RowKit Go.Proofs.YteodlmgmmpkpoaaW.PrintWords Go.Proofs.YteodlmgmmpkpoaaW.PrintLast Go.Proofs.YteodlmgmmpkpoaaW.PrintMore
attribute [local go_sem] max2_int min2_int max_two min_two max_three min_three max_four min_four   -- for this text's walks alone
set_option linter.unusedVariables false
set_option linter.unusedSimpArgs false
def cmp_Less_int.f (a0 : Int) (a1 : Int) : Option (Bool) := (cmp_isNaN_int.f a0).bind fun t119 => (if t119 = true then ((cmp_isNaN_int.f a1).bind fun t120 => (if t120 = true then (some (decide (a0 < a1))) else (some true))) else (some (decide (a0 < a1))))
set_option maxHeartbeats 8000000 in
set_option maxRecDepth 100000 in
theorem cmp_Less_int.calls (a0 : Int) (a1 : Int) (r : Bool) (w : World) (h : cmp_Less_int.f a0 a1 = some r) :
  Calls Try.prog 190 #[.int .i64 a0, .int .i64 a1] w fun e w' => e = .returned (.bool r) ∧ Drawn0 w w' := by
 have H : ((cmp_isNaN_int.f a0).bind fun t119 => (if t119 = true then ((cmp_isNaN_int.f a1).bind fun t120 => (if t120 = true then (some (decide (a0 < a1))) else (some true))) else (some (decide (a0 < a1))))) = some r := h
 clear h
 replace H := Option.bind_eq_some_iff.mp H
 obtain ⟨t119, A30, H⟩ := H
 replace H : (if t119 = true then ((cmp_isNaN_int.f a1).bind fun t120 => (if t120 = true then (some (decide (a0 < a1))) else (some true))) else (some (decide (a0 < a1)))) = some r := H
 have A3 := Aside0.mk A30
 clear A30
 by_cases c4 : t119 = true
 ·
  subst c4
  have H1 : ((cmp_isNaN_int.f a1).bind fun t120 => (if t120 = true then (some (decide (a0 < a1))) else (some true))) = some r := by rw [if_pos rfl] at H; exact H
  clear H
  have H := H1
  clear H1
  replace H := Option.bind_eq_some_iff.mp H
  obtain ⟨t120, A50, H⟩ := H
  replace H : (if t120 = true then (some (decide (a0 < a1))) else (some true)) = some r := H
  have A5 := Aside0.mk A50
  clear A50
  by_cases c6 : t120 = true
  ·
   subst c6
   have H1 : (some (decide (a0 < a1))) = some r := by rw [if_pos rfl] at H; exact H
   clear H
   have H := H1
   clear H1
   obtain rfl := Option.some.inj H
   go_enter Try.func190, Try.ntmps190
   go_wp2_with (first | ((with_reducible refine gate_callee (f := 188) rfl ?_); refine goesL_ (some 6) rfl rfl Try.func188 (by kernel_rfl) rfl #[.int .i64 a0] rfl (by (try simp only [List.map_toArray, List.map_cons, List.map_nil]); first | done | rfl | (simp only [List.length_drop, List.length_take]; rfl)) ?_; (with_reducible refine (cmp_isNaN_int.calls a0 true _ A3.out).mono ?_); rintro e w' ⟨rfl, ⟨nd, rfl⟩⟩; refine ⟨_, rfl, ?_⟩) | (go_at_call 188; (with_reducible refine (cmp_isNaN_int.calls a1 true _ A5.out).mono ?_); rintro e w' ⟨rfl, ⟨nd, rfl⟩⟩))
   go_ret
   exact ⟨by first | rfl | (simp; done) | (simp [*]; done), by repeat (first | exact Drawn0.refl _ | apply Drawn0.step)⟩
  ·
   replace c6 := Bool.eq_false_iff.mpr c6
   subst c6
   have H1 : (some true) = some r := by rw [if_neg (show ¬ (false = true) by decide)] at H; exact H
   clear H
   have H := H1
   clear H1
   obtain rfl := Option.some.inj H
   go_enter Try.func190, Try.ntmps190
   go_wp2_with (first | ((with_reducible refine gate_callee (f := 188) rfl ?_); refine goesL_ (some 6) rfl rfl Try.func188 (by kernel_rfl) rfl #[.int .i64 a0] rfl (by (try simp only [List.map_toArray, List.map_cons, List.map_nil]); first | done | rfl | (simp only [List.length_drop, List.length_take]; rfl)) ?_; (with_reducible refine (cmp_isNaN_int.calls a0 true _ A3.out).mono ?_); rintro e w' ⟨rfl, ⟨nd, rfl⟩⟩; refine ⟨_, rfl, ?_⟩) | (go_at_call 188; (with_reducible refine (cmp_isNaN_int.calls a1 false _ A5.out).mono ?_); rintro e w' ⟨rfl, ⟨nd, rfl⟩⟩))
   go_ret
   exact ⟨by first | rfl | (simp; done) | (simp [*]; done), by repeat (first | exact Drawn0.refl _ | apply Drawn0.step)⟩
 ·
  replace c4 := Bool.eq_false_iff.mpr c4
  subst c4
  have H1 : (some (decide (a0 < a1))) = some r := by rw [if_neg (show ¬ (false = true) by decide)] at H; exact H
  clear H
  have H := H1
  clear H1
  obtain rfl := Option.some.inj H
  go_enter Try.func190, Try.ntmps190
  go_wp2_with (first | ((with_reducible refine gate_callee (f := 188) rfl ?_); refine goesL_ (some 6) rfl rfl Try.func188 (by kernel_rfl) rfl #[.int .i64 a0] rfl (by (try simp only [List.map_toArray, List.map_cons, List.map_nil]); first | done | rfl | (simp only [List.length_drop, List.length_take]; rfl)) ?_; (with_reducible refine (cmp_isNaN_int.calls a0 false _ A3.out).mono ?_); rintro e w' ⟨rfl, ⟨nd, rfl⟩⟩; refine ⟨_, rfl, ?_⟩))
  go_ret
  exact ⟨by first | rfl | (simp; done) | (simp [*]; done), by repeat (first | exact Drawn0.refl _ | apply Drawn0.step)⟩
end Go.Proofs.Yteodlmgmmpkpoaa.PS
end
section
namespace Go.Proofs.Yteodlmgmmpkpoaa.PS
open Go.RowKit Go.Proofs.YteodlmgmmpkpoaaW.PrintWords Go.Proofs.YteodlmgmmpkpoaaW.PrintLast Go.Proofs.YteodlmgmmpkpoaaW.PrintMore
attribute [local go_sem] max2_int min2_int max_two min_two max_three min_three max_four min_four   -- for this text's walks alone
set_option linter.unusedVariables false
set_option linter.unusedSimpArgs false
def slices_isNaN_int.f (a0 : Int) : Option (Bool) := some (a0 != a0)
set_option maxHeartbeats 8000000 in
set_option maxRecDepth 100000 in
theorem slices_isNaN_int.calls (a0 : Int) (r : Bool) (w : World) (h : slices_isNaN_int.f a0 = some r) :
  Calls Try.prog 191 #[.int .i64 a0] w fun e w' => e = .returned (.bool r) ∧ Drawn0 w w' := by
 have H : (some (a0 != a0)) = some r := h
 clear h
 obtain rfl := Option.some.inj H
 go_enter Try.func191, Try.ntmps191
 go_wp2
 go_ret
 exact ⟨by first | rfl | (simp; done) | (simp [*]; done), by repeat (first | exact Drawn0.refl _ | apply Drawn0.step)⟩
end Go.Proofs.Yteodlmgmmpkpoaa.PS
end
section
namespace Go.Proofs.Yteodlmgmmpkpoaa.PS
open Go.RowKit Go.Proofs.YteodlmgmmpkpoaaW.PrintWords Go.Proofs.YteodlmgmmpkpoaaW.PrintLast Go.Proofs.YteodlmgmmpkpoaaW.PrintMore
attribute [local go_sem] max2_int min2_int max_two min_two max_three min_three max_four min_four   -- for this text's walks alone
set_option linter.unusedVariables false
set_option linter.unusedSimpArgs false
def slices_BinarySearch_int_int.l0 : Nat → List Int → Int → Int → Int → Int → Option (Int × Bool)
 | 0, _, _, _, _, _ => none
 | k + 1, x0, x1, x6, x7, x8 => if x7 < x8 then (if 0 ≤ (wrap64 ((IntKind.u64.wrap (wrap64 (x7 + x8))) / 2)) then (if (wrap64 ((IntKind.u64.wrap (wrap64 (x7 + x8))) / 2)) < (x0.length : Int) then ((cmp_Less_int.f (rd x0 (wrap64 ((IntKind.u64.wrap (wrap64 (x7 + x8))) / 2))) x1).bind fun t122 => (if t122 = true then (slices_BinarySearch_int_int.l0 k x0 x1 x6 (wrap64 ((wrap64 ((IntKind.u64.wrap (wrap64 (x7 + x8))) / 2)) + 1)) x8) else (slices_BinarySearch_int_int.l0 k x0 x1 x6 x7 (wrap64 ((IntKind.u64.wrap (wrap64 (x7 + x8))) / 2))))) else (none)) else (none)) else (if x7 < x6 then (if 0 ≤ x7 then (if x7 < (x0.length : Int) then (if (rd x0 x7) = x1 then (some (x7, true)) else ((slices_isNaN_int.f (rd x0 x7)).bind fun t125 => (if t125 = true then ((slices_isNaN_int.f x1).bind fun t126 => (some (x7, t126))) else (some (x7, false))))) else (none)) else (none)) else (some (x7, false)))
def slices_BinarySearch_int_int.f (k : Nat) (l0 : List Int) (a1 : Int) : Option (Int × Bool) := slices_BinarySearch_int_int.l0 k l0 a1 (l0.length : Int) 0 (l0.length : Int)
set_option maxHeartbeats 8000000 in
set_option maxRecDepth 100000 in
theorem slices_BinarySearch_int_int.calls (k : Nat) (A0 : Option Addr) (c0 : Nat) (l0 : List Int) (a1 : Int) (r1 : Int) (r2 : Bool) (w : World) (hr0 : Kd.C (Kd.int .i64) w A0 l0.length l0) (hc0 : l0.length ≤ c0) (h : slices_BinarySearch_int_int.f k l0 a1 = some (r1, r2)) :
  Calls Try.prog 179 #[.slice A0 l0.length c0, .int .i64 a1] w fun e w' => e = .returned (.tuple #[.int .i64 r1, .bool r2]) ∧ Drawn0 w w' := by
 have HR0 := Aside0.mk hr0
 have HC0 := Aside0.mk hc0
 clear hr0 hc0
 have H : (slices_BinarySearch_int_int.l0 k l0 a1 (l0.length : Int) 0 (l0.length : Int)) = some (r1, r2) := h
 clear h
 have H' := Aside0.mk H
 clear H
 go_enter Try.func179, Try.ntmps179
 go_wp2
 go_loopg [7, 8] k (fun kq v7 v8 w' => ∃ (x7_1 : Int) (x8_1 : Int), v7 = .int .i64 x7_1 ∧ v8 = .int .i64 x8_1 ∧ Aside0 (slices_BinarySearch_int_int.l0 kq l0 a1 (l0.length : Int) x7_1 x8_1 = some (r1, r2)) ∧ Aside0 (kq ≤ k) ∧ Drawn0 w w')
 case atStart => exact ⟨(0), ((l0.length : Int)), (by first | rfl | (simp; done) | (simp [*]; done)), (by first | rfl | (simp; done) | (simp [*]; done)), H', ⟨Nat.le_refl _⟩, by repeat (first | exact Drawn0.refl _ | apply Drawn0.step)⟩
 case round =>
  clear H'
  try clear c1
  try clear p2
  obtain ⟨x7_1, x8_1, rfl, rfl, HA, HK1, ⟨m1, rfl⟩⟩ := hrel
  cases gk with
  | zero => exact absurd HA.out (by simp [slices_BinarySearch_int_int.l0])
  | succ k1 =>
   have H := HA.out
   clear HA
   simp only [slices_BinarySearch_int_int.l0] at H
   by_cases c3 : x7_1 < x8_1
   ·
    rw [if_pos c3] at H
    have c3b0 : decide (x7_1 < x8_1) = true := decide_eq_true c3
    clear c3
    obtain ⟨ji4, hji4⟩ : ∃ j_ : Int, (wrap64 ((IntKind.u64.wrap (wrap64 (x7_1 + x8_1))) / 2)) = j_ := ⟨_, rfl⟩
    replace H : (if 0 ≤ (ji4) then (if (ji4) < (l0.length : Int) then ((cmp_Less_int.f (rd l0 (ji4)) a1).bind fun t122 => (if t122 = true then (slices_BinarySearch_int_int.l0 k1 l0 a1 (l0.length : Int) (wrap64 ((ji4) + 1)) x8_1) else (slices_BinarySearch_int_int.l0 k1 l0 a1 (l0.length : Int) x7_1 ji4))) else (none)) else (none)) = some (r1, r2) := by first | (rw [hji4] at H; exact H) | (simp only [hji4] at H ⊢; exact H)
    have hji4w : (IntKind.i64.wrap ((IntKind.u64.wrap (wrap64 (x7_1 + x8_1))) / 2)) = ji4 := (i64_w _).trans hji4
    by_cases c5 : 0 ≤ (ji4)
    ·
     rw [if_pos c5] at H
     have c5b0 : decide (0 ≤ (ji4)) = true := decide_eq_true c5
     clear c5
     by_cases c6 : (ji4) < (l0.length : Int)
     ·
      rw [if_pos c6] at H
      have c6b0 : decide ((ji4) < (l0.length : Int)) = true := decide_eq_true c6
      clear c6
      replace H := Option.bind_eq_some_iff.mp H
      obtain ⟨t122, A70, H⟩ := H
      replace H : (if t122 = true then (slices_BinarySearch_int_int.l0 k1 l0 a1 (l0.length : Int) (wrap64 ((ji4) + 1)) x8_1) else (slices_BinarySearch_int_int.l0 k1 l0 a1 (l0.length : Int) x7_1 ji4)) = some (r1, r2) := H
      have A7 := Aside0.mk A70
      clear A70
      by_cases c8 : t122 = true
      ·
       subst c8
       have H1 : (slices_BinarySearch_int_int.l0 k1 l0 a1 (l0.length : Int) (wrap64 ((ji4) + 1)) x8_1) = some (r1, r2) := by rw [if_pos rfl] at H; exact H
       clear H
       have H := H1
       clear H1
       have H' := Aside0.mk H
       clear H
       have p121 : 0 ≤ ((ji4) : Int) := of_decide_eq_true (by first | (with_reducible assumption) | assumption)
       have q121 : (ji4) < (l0.length : Int) := of_decide_eq_true (by first | (with_reducible assumption) | assumption)
       obtain ⟨ad121, e121, hx121_0⟩ := Kd.at_int HR0.out (ji4) p121 q121
       cases e121
       replace p121 := eq_true p121
       replace q121 := eq_true q121
       go_wp2_with (first | ((with_reducible refine gate_callee (f := 190) rfl ?_); refine goesL_ (some 27) rfl rfl Try.func190 (by kernel_rfl) rfl #[.int .i64 (rd l0 (ji4)), .int .i64 a1] rfl (by (try simp only [List.map_toArray, List.map_cons, List.map_nil]); first | done | (simp only [hji4]; rfl) | rfl | (simp only [List.length_drop, List.length_take]; rfl)) ?_; (with_reducible refine (cmp_Less_int.calls (rd l0 (ji4)) a1 true _ A7.out).mono ?_); rintro e w' ⟨rfl, ⟨nd, rfl⟩⟩; refine ⟨_, rfl, ?_⟩))
       go_roundg k1
       case measure => have := HK1.out; omega
       case rel => exact ⟨(wrap64 ((ji4) + 1)), (x8_1), (by first | rfl | (simp; done) | (simp only [← hji4] <;> (first | rfl | simp)) | (simp [*]; done)), (by first | rfl | (simp; done) | (simp [*]; done)), H', ⟨by have := HK1.out; omega⟩, by repeat (first | exact Drawn0.refl _ | apply Drawn0.step)⟩
      ·
       replace c8 := Bool.eq_false_iff.mpr c8
       subst c8
       have H1 : (slices_BinarySearch_int_int.l0 k1 l0 a1 (l0.length : Int) x7_1 ji4) = some (r1, r2) := by rw [if_neg (show ¬ (false = true) by decide)] at H; exact H
       clear H
       have H := H1
       clear H1
       have H' := Aside0.mk H
       clear H
       have p121 : 0 ≤ ((ji4) : Int) := of_decide_eq_true (by first | (with_reducible assumption) | assumption)
       have q121 : (ji4) < (l0.length : Int) := of_decide_eq_true (by first | (with_reducible assumption) | assumption)
       obtain ⟨ad121, e121, hx121_0⟩ := Kd.at_int HR0.out (ji4) p121 q121
       cases e121
       replace p121 := eq_true p121
       replace q121 := eq_true q121
       go_wp2_with (first | ((with_reducible refine gate_callee (f := 190) rfl ?_); refine goesL_ (some 27) rfl rfl Try.func190 (by kernel_rfl) rfl #[.int .i64 (rd l0 (ji4)), .int .i64 a1] rfl (by (try simp only [List.map_toArray, List.map_cons, List.map_nil]); first | done | (simp only [hji4]; rfl) | rfl | (simp only [List.length_drop, List.length_take]; rfl)) ?_; (with_reducible refine (cmp_Less_int.calls (rd l0 (ji4)) a1 false _ A7.out).mono ?_); rintro e w' ⟨rfl, ⟨nd, rfl⟩⟩; refine ⟨_, rfl, ?_⟩))
       go_roundg k1
       case measure => have := HK1.out; omega
       case rel => exact ⟨(x7_1), (ji4), (by first | rfl | (simp; done) | (simp [*]; done)), (by first | rfl | (simp; done) | (simp only [← hji4] <;> (first | rfl | simp)) | (simp [*]; done)), H', ⟨by have := HK1.out; omega⟩, by repeat (first | exact Drawn0.refl _ | apply Drawn0.step)⟩
     ·
      rw [if_neg c6] at H
      exact absurd H (by simp)
    ·
     rw [if_neg c5] at H
     exact absurd H (by simp)
   ·
    rw [if_neg c3] at H
    have c3b0 : decide (x7_1 < x8_1) = false := decide_eq_false c3
    clear c3
    by_cases c9 : x7_1 < (l0.length : Int)
    ·
     rw [if_pos c9] at H
     have c9b0 : decide (x7_1 < (l0.length : Int)) = true := decide_eq_true c9
     clear c9
     by_cases c10 : 0 ≤ x7_1
     ·
      rw [if_pos c10] at H
      have c10b0 : decide (0 ≤ x7_1) = true := decide_eq_true c10
      clear c10
      by_cases c11 : x7_1 < (l0.length : Int)
      ·
       rw [if_pos c11] at H
       have c11b0 : decide (x7_1 < (l0.length : Int)) = true := decide_eq_true c11
       clear c11
       by_cases c12 : (rd l0 x7_1) = a1
       ·
        rw [if_pos c12] at H
        have c12b0 : ((rd l0 x7_1) == a1) = true := beq_iff_eq.mpr c12
        have c12b1 : ((rd l0 x7_1) != a1) = false := bne_eq_false_iff_eq.mpr c12
        clear c12
        simp only [Option.some.injEq, Prod.mk.injEq] at H
        obtain ⟨rfl, rfl⟩ := H
        have p123 : 0 ≤ (x7_1 : Int) := of_decide_eq_true (by first | (with_reducible assumption) | assumption)
        have q123 : x7_1 < (l0.length : Int) := of_decide_eq_true (by first | (with_reducible assumption) | assumption)
        obtain ⟨ad123, e123, hx123_0⟩ := Kd.at_int HR0.out x7_1 p123 q123
        cases e123
        replace p123 := eq_true p123
        replace q123 := eq_true q123
        go_wp2
        go_ret2
        exact ⟨by first | rfl | (simp; done) | (simp [*]; done), by repeat (first | exact Drawn0.refl _ | apply Drawn0.step)⟩
       ·
        rw [if_neg c12] at H
        have c12b0 : ((rd l0 x7_1) == a1) = false := beq_eq_false_iff_ne.mpr c12
        have c12b1 : ((rd l0 x7_1) != a1) = true := bne_iff_ne.mpr c12
        replace H := Option.bind_eq_some_iff.mp H
        obtain ⟨t125, A130, H⟩ := H
        replace H : (if t125 = true then ((slices_isNaN_int.f a1).bind fun t126 => (some (x7_1, t126))) else (some (x7_1, false))) = some (r1, r2) := H
        have A13 := Aside0.mk A130
        clear A130
        by_cases c14 : t125 = true
        ·
         subst c14
         have H1 : ((slices_isNaN_int.f a1).bind fun t126 => (some (x7_1, t126))) = some (r1, r2) := by rw [if_pos rfl] at H; exact H
         clear H
         have H := H1
         clear H1
         replace H := Option.bind_eq_some_iff.mp H
         obtain ⟨t126, A150, H⟩ := H
         replace H : (some (x7_1, t126)) = some (r1, r2) := H
         have A15 := Aside0.mk A150
         clear A150
         simp only [Option.some.injEq, Prod.mk.injEq] at H
         obtain ⟨rfl, rfl⟩ := H
         have p123 : 0 ≤ (x7_1 : Int) := of_decide_eq_true (by first | (with_reducible assumption) | assumption)
         have q123 : x7_1 < (l0.length : Int) := of_decide_eq_true (by first | (with_reducible assumption) | assumption)
         obtain ⟨ad123, e123, hx123_0⟩ := Kd.at_int HR0.out x7_1 p123 q123
         cases e123
         replace p123 := eq_true p123
         replace q123 := eq_true q123
         have p124 : 0 ≤ (x7_1 : Int) := of_decide_eq_true (by first | (with_reducible assumption) | assumption)
         have q124 : x7_1 < (l0.length : Int) := of_decide_eq_true (by first | (with_reducible assumption) | assumption)
         obtain ⟨ad124, e124, hx124_0⟩ := Kd.at_int HR0.out x7_1 p124 q124
         obtain rfl : ad123 = ad124 := (by injection e124)
         replace p124 := eq_true p124
         replace q124 := eq_true q124
         go_wp2_with (first | (go_at_call 191; (with_reducible refine (slices_isNaN_int.calls (rd l0 x7_1) true _ A13.out).mono ?_); rintro e w' ⟨rfl, ⟨nd, rfl⟩⟩) | (go_at_call 191; (with_reducible refine (slices_isNaN_int.calls a1 t126 _ A15.out).mono ?_); rintro e w' ⟨rfl, ⟨nd, rfl⟩⟩))
         go_ret2
         exact ⟨by first | rfl | (simp; done) | (simp [*]; done), by repeat (first | exact Drawn0.refl _ | apply Drawn0.step)⟩
        ·
         replace c14 := Bool.eq_false_iff.mpr c14
         subst c14
         have H1 : (some (x7_1, false)) = some (r1, r2) := by rw [if_neg (show ¬ (false = true) by decide)] at H; exact H
         clear H
         have H := H1
         clear H1
         simp only [Option.some.injEq, Prod.mk.injEq] at H
         obtain ⟨rfl, rfl⟩ := H
         have p123 : 0 ≤ (x7_1 : Int) := of_decide_eq_true (by first | (with_reducible assumption) | assumption)
         have q123 : x7_1 < (l0.length : Int) := of_decide_eq_true (by first | (with_reducible assumption) | assumption)
         obtain ⟨ad123, e123, hx123_0⟩ := Kd.at_int HR0.out x7_1 p123 q123
         cases e123
         replace p123 := eq_true p123
         replace q123 := eq_true q123
         have p124 : 0 ≤ (x7_1 : Int) := of_decide_eq_true (by first | (with_reducible assumption) | assumption)
         have q124 : x7_1 < (l0.length : Int) := of_decide_eq_true (by first | (with_reducible assumption) | assumption)
         obtain ⟨ad124, e124, hx124_0⟩ := Kd.at_int HR0.out x7_1 p124 q124
         obtain rfl : ad123 = ad124 := (by injection e124)
         replace p124 := eq_true p124
         replace q124 := eq_true q124
         go_wp2_with (first | (go_at_call 191; (with_reducible refine (slices_isNaN_int.calls (rd l0 x7_1) false _ A13.out).mono ?_); rintro e w' ⟨rfl, ⟨nd, rfl⟩⟩))
         go_ret2
         exact ⟨by first | rfl | (simp; done) | (simp [*]; done), by repeat (first | exact Drawn0.refl _ | apply Drawn0.step)⟩
      ·
       rw [if_neg c11] at H
       exact absurd H (by simp)
     ·
      rw [if_neg c10] at H
      exact absurd H (by simp)
    ·
     rw [if_neg c9] at H
     have c9b0 : decide (x7_1 < (l0.length : Int)) = false := decide_eq_false c9
     clear c9
     simp only [Option.some.injEq, Prod.mk.injEq] at H
     obtain ⟨rfl, rfl⟩ := H
     go_wp2
     go_ret2
     exact ⟨by first | rfl | (simp; done) | (simp [*]; done), by repeat (first | exact Drawn0.refl _ | apply Drawn0.step)⟩
end Go.Proofs.Yteodlmgmmpkpoaa.PS
end
section
namespace Go.Proofs.Yteodlmgmmpkpoaa.PS
open Go.RowKit Go.Proofs.YteodlmgmmpkpoaaW.PrintWords Go.Proofs.YteodlmgmmpkpoaaW.PrintLast Go.Proofs.YteodlmgmmpkpoaaW.PrintMore
attribute [local go_sem] max2_int min2_int max_two min_two max_three min_three max_four min_four   -- for this text's walks alone
set_option linter.unusedVariables false
set_option linter.unusedSimpArgs false
def spans_cell.f (k : Nat) (l0 : List Int) (a1 : Int) : Option (Int) := if 1 ≤ (wrap64 ((l0.length : Int) - 1)) then (if (wrap64 ((l0.length : Int) - 1)) ≤ (l0.length : Int) then ((slices_BinarySearch_int_int.f k ((l0.take ((wrap64 ((l0.length : Int) - 1)) : Int).toNat).drop 1) a1).bind fun bt128 => (some bt128.1)) else (none)) else (none)
set_option maxHeartbeats 8000000 in
set_option maxRecDepth 100000 in
theorem spans_cell.calls (k : Nat) (A0 : Option Addr) (c0 : Nat) (l0 : List Int) (a1 : Int) (r : Int) (w : World) (hr0 : Kd.C (Kd.int .i64) w A0 l0.length l0) (hc0 : l0.length ≤ c0) (h : spans_cell.f k l0 a1 = some r) :
  Calls Try.prog 157 #[.slice A0 l0.length c0, .int .i64 a1] w fun e w' => e = .returned (.int .i64 r) ∧ Drawn0 w w' := by
 have HR0 := Aside0.mk hr0
 have HC0 := Aside0.mk hc0
 clear hr0 hc0
 have H : (if 1 ≤ (wrap64 ((l0.length : Int) - 1)) then (if (wrap64 ((l0.length : Int) - 1)) ≤ (l0.length : Int) then ((slices_BinarySearch_int_int.f k ((l0.take ((wrap64 ((l0.length : Int) - 1)) : Int).toNat).drop 1) a1).bind fun bt128 => (some bt128.1)) else (none)) else (none)) = some r := h
 clear h
 by_cases c3 : 1 ≤ (wrap64 ((l0.length : Int) - 1))
 ·
  rw [if_pos c3] at H
  have c3b0 := eq_true c3
  have c3b1 : decide (1 ≤ (wrap64 ((l0.length : Int) - 1))) = true := decide_eq_true c3
  clear c3
  by_cases c4 : (wrap64 ((l0.length : Int) - 1)) ≤ (l0.length : Int)
  ·
   rw [if_pos c4] at H
   have c4b0 := eq_true c4
   have c4b1 : decide ((wrap64 ((l0.length : Int) - 1)) ≤ (l0.length : Int)) = true := decide_eq_true c4
   clear c4
   replace H := Option.bind_eq_some_iff.mp H
   obtain ⟨⟨t128, t129⟩, A50, H⟩ := H
   replace H : (some t128) = some r := H
   have A5 := Aside0.mk A50
   clear A50
   obtain rfl := Option.some.inj H
   obtain ⟨i06, hi06, _, hsz6, _⟩ := info_parts info3
   obtain ⟨A6, hcut6, hA6, hC6⟩ := print_mid_of (P := Try.prog) (Value.int .i64) 0 22 3 .i64 .i64 Try.underlying22 hi06 hsz6 A0 c0 l0 1 (wrap64 ((l0.length : Int) - 1)) (by omega) (by first | omega | exact of_decide_eq_true (by first | (with_reducible assumption) | assumption)) (of_decide_eq_true (by first | (with_reducible assumption) | assumption)) HC0.out
   have HR127 := Aside0.mk (Kd.C_of_reads (h1 := fun _ => rfl) (hA6 _ (Kd.reads_of_C HR0.out)))
   have HC127 := Aside0.mk hC6
   clear hA6 hC6 hi06 hsz6
   go_enter Try.func157, Try.ntmps157
   go_wp2_with (first | ((with_reducible refine gate_callee (f := 179) rfl ?_); refine goesL_ (some 14) rfl rfl Try.func179 (by kernel_rfl) rfl #[.slice A6 ((l0.take ((wrap64 ((l0.length : Int) - 1)) : Int).toNat).drop 1).length (c0 - 1), .int .i64 a1] rfl (by (try simp only [List.map_toArray, List.map_cons, List.map_nil]); first | done | (rw [show ((l0.take ((wrap64 ((l0.length : Int) - 1)) : Int).toNat).drop 1).length = ((wrap64 ((l0.length : Int) - 1)).toNat - 1) from (by rw [List.length_drop, List.length_take]; have h_ : ((wrap64 ((l0.length : Int) - 1)) : Int) ≤ (l0.length : Int) := of_decide_eq_true (by first | (with_reducible assumption) | assumption); omega)] <;> rfl) | rfl | (simp only [List.length_drop, List.length_take]; rfl)) ?_; (with_reducible refine (slices_BinarySearch_int_int.calls k _ _ ((l0.take ((wrap64 ((l0.length : Int) - 1)) : Int).toNat).drop 1) a1 t128 t129 _ ?side1 ?side2 A5.out).mono ?_); (case side1 => exact cr_ HR127.out); (case side2 => exact HC127.out); rintro e w' ⟨rfl, ⟨nd, rfl⟩⟩; refine ⟨_, rfl, ?_⟩))
   go_ret
   exact ⟨by first | rfl | (simp; done) | (simp [*]; done), by repeat (first | exact Drawn0.refl _ | apply Drawn0.step)⟩
  ·
   rw [if_neg c4] at H
   exact absurd H (by simp)
 ·
  rw [if_neg c3] at H
  exact absurd H (by simp)
end Go.Proofs.Yteodlmgmmpkpoaa.PS
end
section
namespace Go.Proofs.Yteodlmgmmpkpoaa.PS
open Go.RowKit Go.Proofs.YteodlmgmmpkpoaaW.PrintWords Go.Proofs.YteodlmgmmpkpoaaW.PrintLast Go.Proofs.YteodlmgmmpkpoaaW.PrintMore
attribute [local go_sem] max2_int min2_int max_two min_two max_three min_three max_four min_four   -- for this text's walks alone
set_option linter.unusedVariables false
set_option linter.unusedSimpArgs false
def spans_floor.f (a0 : Int) (a1 : Int) : Option (Int) := if a1 = 0 then (none) else (if (Int.tmod a0 a1) < 0 then (some (wrap64 ((wrap64 (Int.tdiv a0 a1)) - 1))) else (some (wrap64 (Int.tdiv a0 a1))))
set_option maxHeartbeats 8000000 in
set_option maxRecDepth 100000 in
theorem spans_floor.calls (a0 : Int) (a1 : Int) (r : Int) (w : World) (h : spans_floor.f a0 a1 = some r) :
  Calls Try.prog 100 #[.int .i64 a0, .int .i64 a1] w fun e w' => e = .returned (.int .i64 r) ∧ Drawn0 w w' := by
 have H : (if a1 = 0 then (none) else (if (Int.tmod a0 a1) < 0 then (some (wrap64 ((wrap64 (Int.tdiv a0 a1)) - 1))) else (some (wrap64 (Int.tdiv a0 a1))))) = some r := h
 clear h
 by_cases c3 : a1 = 0
 ·
  rw [if_pos c3] at H
  exact absurd H (by simp)
 ·
  rw [if_neg c3] at H
  have c3b0 : (a1 == 0) = false := beq_eq_false_iff_ne.mpr c3
  have c3b1 : (a1 != 0) = true := bne_iff_ne.mpr c3
  by_cases c4 : (Int.tmod a0 a1) < 0
  ·
   rw [if_pos c4] at H
   have c4b0 : decide ((Int.tmod a0 a1) < 0) = true := decide_eq_true c4
   clear c4
   obtain rfl := Option.some.inj H
   go_enter Try.func100, Try.ntmps100
   go_wp2
   go_ret
   exact ⟨by first | rfl | (simp; done) | (simp [*]; done), by repeat (first | exact Drawn0.refl _ | apply Drawn0.step)⟩
  ·
   rw [if_neg c4] at H
   have c4b0 : decide ((Int.tmod a0 a1) < 0) = false := decide_eq_false c4
   clear c4
   obtain rfl := Option.some.inj H
   go_enter Try.func100, Try.ntmps100
   go_wp2
   go_ret
   exact ⟨by first | rfl | (simp; done) | (simp [*]; done), by repeat (first | exact Drawn0.refl _ | apply Drawn0.step)⟩
end Go.Proofs.Yteodlmgmmpkpoaa.PS
end
section
namespace Go.Proofs.Yteodlmgmmpkpoaa.PS
open Go.RowKit Go.Proofs.YteodlmgmmpkpoaaW.PrintWords Go.Proofs.YteodlmgmmpkpoaaW.PrintLast Go.Proofs.YteodlmgmmpkpoaaW.PrintMore
attribute [local go_sem] max2_int min2_int max_two min_two max_three min_three max_four min_four   -- for this text's walks alone
set_option linter.unusedVariables false
set_option linter.unusedSimpArgs false
def spans_ceil.f (a0 : Int) (a1 : Int) : Option (Int) := (spans_floor.f (wrap64 (-a0)) a1).bind fun t139 => (some (wrap64 (-t139)))
set_option maxHeartbeats 8000000 in
set_option maxRecDepth 100000 in
theorem spans_ceil.calls (a0 : Int) (a1 : Int) (r : Int) (w : World) (h : spans_ceil.f a0 a1 = some r) :
  Calls Try.prog 106 #[.int .i64 a0, .int .i64 a1] w fun e w' => e = .returned (.int .i64 r) ∧ Drawn0 w w' := by
 have H : ((spans_floor.f (wrap64 (-a0)) a1).bind fun t139 => (some (wrap64 (-t139)))) = some r := h
 clear h
 replace H := Option.bind_eq_some_iff.mp H
 obtain ⟨t139, A30, H⟩ := H
 replace H : (some (wrap64 (-t139))) = some r := H
 have A3 := Aside0.mk A30
 clear A30
 obtain rfl := Option.some.inj H
 go_enter Try.func106, Try.ntmps106
 go_wp2_with (first | ((with_reducible refine gate_callee (f := 100) rfl ?_); refine goesL_ (some 8) rfl rfl Try.func100 (by kernel_rfl) rfl #[.int .i64 (wrap64 (-a0)), .int .i64 a1] rfl (by (try simp only [List.map_toArray, List.map_cons, List.map_nil]); first | done | rfl | (simp only [List.length_drop, List.length_take]; rfl)) ?_; (with_reducible refine (spans_floor.calls (wrap64 (-a0)) a1 t139 _ A3.out).mono ?_); rintro e w' ⟨rfl, ⟨nd, rfl⟩⟩; refine ⟨_, rfl, ?_⟩))
 go_ret
 exact ⟨by first | rfl | (simp; done) | (simp [*]; done), by repeat (first | exact Drawn0.refl _ | apply Drawn0.step)⟩
end Go.Proofs.Yteodlmgmmpkpoaa.PS
end
section
namespace Go.Proofs.Yteodlmgmmpkpoaa.PS
open Go.RowKit Go.Proofs.YteodlmgmmpkpoaaW.PrintWords Go.Proofs.YteodlmgmmpkpoaaW.PrintLast Go.Proofs.YteodlmgmmpkpoaaW.PrintMore
set_option linter.unusedVariables false
theorem gI_cons_zero (a : Int) (l : List Int) : gI (a :: l) 0 = a := rfl
theorem gI_cons_succ (a : Int) (l : List Int) (i : Nat) : gI (a :: l) (i + 1) = gI l i := by unfold gI; simp [List.getD_eq_getElem?_getD]
theorem gI_drop (l : List Int) (n i : Nat) : gI (l.drop n) i = gI l (n + i) := by unfold gI; simp [List.getD_eq_getElem?_getD, List.getElem?_drop]
theorem gI_take (l : List Int) (n i : Nat) (h : i < n) : gI (l.take n) i = gI l i := by unfold gI; simp [List.getD_eq_getElem?_getD, h]
theorem gaps_asc : ∀ (l : List Int), gapsB l = true → ∀ i j : Nat, i < j → j < l.length → gI l i < gI l j
  | [], _, i, j, _, hj => by simp at hj
  | [a], _, i, j, hij, hj => by simp at hj; omega
  | a :: b :: l, h, i, j, hij, hj => by
    rw [gaps_cons] at h
    simp only [Bool.and_eq_true, decide_eq_true_eq] at h
    obtain ⟨⟨h1, h2⟩, h3⟩ := h
    have ih := gaps_asc (b :: l) h3
    obtain ⟨j, rfl⟩ : ∃ m, j = m + 1 := ⟨j - 1, by omega⟩
    rw [gI_cons_succ]
    simp only [List.length_cons] at hj
    cases i with
    | succ i => rw [gI_cons_succ]; exact ih i j (by omega) (by simpa using hj)
    | zero =>
      rw [gI_cons_zero]
      cases j with
      | zero => rw [gI_cons_zero]; omega
      | succ j =>
        have := ih 0 (j + 1) (by omega) (by simpa using hj)
        rw [gI_cons_zero] at this
        omega
theorem gaps_step : ∀ (l : List Int), gapsB l = true → ∀ i : Nat, i + 1 < l.length → gI l (i + 1) - gI l i ≤ 10000
  | [], _, i, hi => by simp at hi
  | [a], _, i, hi => by simp at hi
  | a :: b :: l, h, i, hi => by
    rw [gaps_cons] at h
    simp only [Bool.and_eq_true, decide_eq_true_eq] at h
    obtain ⟨⟨h1, h2⟩, h3⟩ := h
    cases i with
    | zero => rw [gI_cons_succ, gI_cons_zero, gI_cons_zero]; exact h2
    | succ i =>
      rw [gI_cons_succ, gI_cons_succ]
      exact gaps_step (b :: l) h3 i (by simpa using hi)
structure Ax (l : List Int) : Prop where
  two : 2 ≤ l.length
  most : l.length ≤ 12
  inn : ∀ i, i < l.length → -1000000 ≤ gI l i ∧ gI l i ≤ 1000000
  asc : ∀ i j : Nat, i < j → j < l.length → gI l i < gI l j
  step : ∀ i : Nat, i + 1 < l.length → gI l (i + 1) - gI l i ≤ 10000
theorem all_inM (l : List Int) (h : l.all inM = true) (i : Nat) (hi : i < l.length) : -1000000 ≤ gI l i ∧ gI l i ≤ 1000000 := by
  rw [List.all_eq_true] at h
  exact (inM_iff _).1 (h _ (getD_mem l 0 i hi))
theorem ax_of {l : List Int} (h : axisB l = true) : Ax l := by
  unfold axisB at h
  simp only [Bool.and_eq_true, decide_eq_true_eq] at h
  exact ⟨h.1.1, h.1.2, all_inM l h.2.1, gaps_asc l h.2.2, gaps_step l h.2.2⟩
def innerL (l : List Int) : List Int := (l.drop 1).dropLast
theorem inner_len (l : List Int) : (innerL l).length = l.length - 2 := by unfold innerL; simp; omega
theorem inner_get (l : List Int) (i : Nat) (h : i < l.length - 2) : gI (innerL l) i = gI l (i + 1) := by
  unfold innerL
  rw [List.dropLast_eq_take, gI_take _ _ _ (by simp; omega), gI_drop, Nat.add_comm]
theorem count_spot : ∀ (l : List Int), (∀ i j : Nat, i < j → j < l.length → gI l i < gI l j) → ∀ (p : Int → Bool), (∀ a b, a < b → p b = true → p a = true) →
    ∀ i, i < l.length → (p (gI l i) = true ↔ i < l.countP p)
  | [], _, _, _, i, hi => by simp at hi
  | a :: l, h, p, hp, i, hi => by
    have ih := count_spot l (fun i j hij hj => by have := h (i + 1) (j + 1) (by omega) (by simpa using hj); rwa [gI_cons_succ, gI_cons_succ] at this) p hp
    rw [List.countP_cons]
    cases i with
    | zero =>
      rw [gI_cons_zero]
      by_cases ha : p a = true
      · rw [if_pos ha]; simp [ha]
      · rw [if_neg ha]
        have : l.countP p = 0 := by
          rw [List.countP_eq_zero]
          intro b hb hpb
          obtain ⟨j, hj, rfl⟩ := List.getElem_of_mem hb
          have := h 0 (j + 1) (by omega) (by simpa using hj)
          rw [gI_cons_zero, gI_cons_succ] at this
          unfold gI at this
          rw [List.getD_eq_getElem?_getD, List.getElem?_eq_getElem hj] at this
          exact ha (hp _ _ this hpb)
        simp [ha, this]
    | succ i =>
      rw [gI_cons_succ]
      have hi' : i < l.length := by simpa using hi
      rw [ih i hi']
      by_cases ha : p a = true
      · rw [if_pos ha]; omega
      · rw [if_neg ha]
        have : l.countP p = 0 := by
          rw [List.countP_eq_zero]
          intro b hb hpb
          obtain ⟨j, hj, rfl⟩ := List.getElem_of_mem hb
          have := h 0 (j + 1) (by omega) (by simpa using hj)
          rw [gI_cons_zero, gI_cons_succ] at this
          unfold gI at this
          rw [List.getD_eq_getElem?_getD, List.getElem?_eq_getElem hj] at this
          exact ha (hp _ _ this hpb)
        omega
theorem lt_closed (x : Int) : ∀ a b : Int, a < b → decide (b < x) = true → decide (a < x) = true := by intro a b h; simp; omega
theorem inner_asc {l : List Int} (h : Ax l) : ∀ i j : Nat, i < j → j < (innerL l).length → gI (innerL l) i < gI (innerL l) j := by
  intro i j hij hj
  rw [inner_len] at hj
  rw [inner_get _ _ (by omega), inner_get _ _ hj]
  exact h.asc _ _ (by omega) (by omega)
structure Spot (l : List Int) (x : Int) (i : Nat) : Prop where
  lt : i + 1 < l.length
  lo : gI l i ≤ x
  hi : x ≤ gI l (i + 1)
theorem onB_iff (l : List Int) (a b : Int) : onB l a b = true ↔ gI l 0 ≤ a ∧ b ≤ gI l (l.length - 1) := by unfold onB; simp
theorem cell_spot {l : List Int} (h : Ax l) {x : Int} (hx : onB l x x = true) : Spot l x (cellOf l x) := by
  have h2 := h.two
  have hc := count_spot (innerL l) (inner_asc h) (fun y => decide (y < x)) (lt_closed x)
  have hle : cellOf l x ≤ l.length - 2 := by rw [← inner_len]; exact List.countP_le_length
  have hon := (onB_iff _ _ _).1 hx
  refine ⟨by omega, ?_, ?_⟩
  · cases hi : cellOf l x with
    | zero => exact hon.1
    | succ i =>
      have := (hc i (by rw [inner_len]; omega)).2 (by show i < cellOf l x; omega)
      rw [inner_get _ _ (by omega)] at this
      simp at this
      omega
  · by_cases he : cellOf l x = l.length - 2
    · rw [he, show l.length - 2 + 1 = l.length - 1 from by omega]; exact hon.2
    · have := hc (cellOf l x) (by rw [inner_len]; omega)
      rw [inner_get _ _ (by omega)] at this
      have h3 : ¬ cellOf l x < cellOf l x := by omega
      have h4 : ¬ (decide (gI l (cellOf l x + 1) < x) = true) := fun hq => h3 (this.1 hq)
      simp at h4
      exact h4
theorem gI_inner (l : List Int) (h : 2 ≤ l.length) : (l.take (l.length - 1)).drop 1 = innerL l := by
  unfold innerL
  rw [List.dropLast_eq_take, List.drop_take, List.length_drop]
theorem isNaN_total (a : Int) : slices_isNaN_int.f a = some false := by unfold slices_isNaN_int.f; simp
theorem less_total (a b : Int) : cmp_Less_int.f a b = some (decide (a < b)) := by unfold cmp_Less_int.f cmp_isNaN_int.f; simp
theorem search_loop (l : List Int) (hl : l.length ≤ 1000) (ha : ∀ i j : Nat, i < j → j < l.length → gI l i < gI l j) (x : Int) : ∀ (d k i j : Nat), j - i ≤ d → d < k → i ≤ j → j ≤ l.length →
    i ≤ l.countP (fun y => decide (y < x)) → l.countP (fun y => decide (y < x)) ≤ j →
    ∃ b, slices_BinarySearch_int_int.l0 k l x l.length i j = some (((l.countP (fun y => decide (y < x)) : Nat) : Int), b)
  | d, k, i, j, hd, hk, hij, hj, h1, h2 => by
    obtain ⟨k, rfl⟩ : ∃ m, k = m + 1 := ⟨k - 1, by omega⟩
    simp only [slices_BinarySearch_int_int.l0]
    by_cases hlt : i < j
    · obtain ⟨d, rfl⟩ : ∃ m, d = m + 1 := ⟨d - 1, by omega⟩
      have e1 : wrap64 ((IntKind.u64.wrap (wrap64 ((i : Int) + j))) / 2) = (((i + j) / 2 : Nat) : Int) := by
        rw [show wrap64 ((i : Int) + j) = (i : Int) + j from wr64 (by omega) (by omega)]
        have : IntKind.u64.wrap ((i : Int) + j) = (i : Int) + j := by
          rw [show IntKind.u64.wrap ((i : Int) + j) = ((i : Int) + j) % 18446744073709551616 from rfl]; omega
        rw [this, wr64 (by omega) (by omega)]
        omega
      rw [if_pos (by omega), e1, if_pos (by omega), if_pos (by omega), rd_nat, less_total, Option.bind_some]
      have hs := count_spot l ha (fun y => decide (y < x)) (lt_closed x) ((i + j) / 2) (by omega)
      by_cases hv : gI l ((i + j) / 2) < x
      · rw [if_pos (by simpa using hv)]
        have h3 := hs.1 (by simpa using hv)
        rw [show wrap64 ((((i + j) / 2 : Nat) : Int) + 1) = (((i + j) / 2 + 1 : Nat) : Int) by rw [wr64 (by omega) (by omega)]; rfl]
        exact search_loop l hl ha x d k _ j (by omega) (by omega) (by omega) hj (by omega) h2
      · rw [if_neg (by simpa using hv)]
        have h3 : ¬ (i + j) / 2 < l.countP (fun y => decide (y < x)) := fun h => hv (by simpa using hs.2 h)
        exact search_loop l hl ha x d k i _ (by omega) (by omega) (by omega) (by omega) h1 (by omega)
    · rw [if_neg (by omega)]
      have he : l.countP (fun y => decide (y < x)) = i := by omega
      rw [he]
      by_cases hn : i < l.length
      · rw [if_pos (by omega), if_pos (by omega), if_pos (by omega)]
        by_cases hx : rd l (i : Int) = x
        · rw [if_pos hx]; exact ⟨_, rfl⟩
        · rw [if_neg hx, isNaN_total, Option.bind_some, if_neg (by simp)]; exact ⟨_, rfl⟩
      · rw [if_neg (by omega)]; exact ⟨_, rfl⟩
theorem cell_total {l : List Int} (h : Ax l) (x : Int) (k : Nat) (hk : 12 < k) : spans_cell.f k l x = some (cellOf l x : Int) := by
  have h2 := h.two
  have hm := h.most
  unfold spans_cell.f
  rw [wr64 (by omega) (by omega), if_pos (by omega), if_pos (by omega), show ((l.length : Int) - 1).toNat = l.length - 1 from by omega, gI_inner l h2]
  unfold slices_BinarySearch_int_int.f
  obtain ⟨b, hb⟩ := search_loop (innerL l) (by rw [inner_len]; omega) (inner_asc h) x 12 k 0 (innerL l).length (by rw [inner_len]; omega) hk (Nat.zero_le _) (Nat.le_refl _) (Nat.zero_le _) List.countP_le_length
  rw [show ((0 : Nat) : Int) = 0 from rfl] at hb
  rw [hb]
  rfl
end Go.Proofs.Yteodlmgmmpkpoaa.PS
end
section
namespace Go.Proofs.Yteodlmgmmpkpoaa.PS
open Go.RowKit Go.Proofs.YteodlmgmmpkpoaaW.PrintWords Go.Proofs.YteodlmgmmpkpoaaW.PrintLast Go.Proofs.YteodlmgmmpkpoaaW.PrintMore
set_option linter.unusedVariables false
set_option linter.unusedSimpArgs false
set_option maxHeartbeats 4000000 in
set_option maxRecDepth 100000 in
theorem at_core (kf : Nat) (adX adY adV ad0 ad1 : Addr) (X Y : List Int) (cX cY nV cV n0 c0 n1 c1 : Nat) (x y i k i1 k1 x0 x1 y0 y1 v00 v10 v01 v11 a b c d ac bc ae be p00 p10 p01 p11 s1 s2 s3 ab cd den : Int) (w : World)
    (hrX : Kd.C (Kd.int .i64) w (some adX) X.length X) (hcX : X.length ≤ cX) (hrY : Kd.C (Kd.int .i64) w (some adY) Y.length Y) (hcY : Y.length ≤ cY)
    (hi : spans_cell.f kf X x = some i) (hk : spans_cell.f kf Y y = some k)
    (ei1 : IntKind.i64.wrap (i + 1) = i1) (ek1 : IntKind.i64.wrap (k + 1) = k1)
    (bi : decide (0 ≤ i) = true) (bk : decide (0 ≤ k) = true) (bi1 : decide (0 ≤ i1) = true) (bk1 : decide (0 ≤ k1) = true)
    (li : decide (i < (X.length : Int)) = true) (lk : decide (k < (Y.length : Int)) = true) (li1 : decide (i1 < (X.length : Int)) = true) (lk1 : decide (k1 < (Y.length : Int)) = true)
    (vi : decide (i < (nV : Int)) = true) (vi1 : decide (i1 < (nV : Int)) = true)
    (r0 : decide (k < (n0 : Int)) = true) (r01 : decide (k1 < (n0 : Int)) = true) (r1 : decide (k < (n1 : Int)) = true) (r11 : decide (k1 < (n1 : Int)) = true)
    (cx0 : w.cell? (adX.add i.toNat) = some (.int .i64 x0)) (cx1 : w.cell? (adX.add i1.toNat) = some (.int .i64 x1))
    (cy0 : w.cell? (adY.add k.toNat) = some (.int .i64 y0)) (cy1 : w.cell? (adY.add k1.toNat) = some (.int .i64 y1))
    (cv0 : w.cell? (adV.add i.toNat) = some (.slice (some ad0) n0 c0)) (cv1 : w.cell? (adV.add i1.toNat) = some (.slice (some ad1) n1 c1))
    (c00 : w.cell? (ad0.add k.toNat) = some (.int .i64 v00)) (c01 : w.cell? (ad0.add k1.toNat) = some (.int .i64 v01))
    (c10 : w.cell? (ad1.add k.toNat) = some (.int .i64 v10)) (c11 : w.cell? (ad1.add k1.toNat) = some (.int .i64 v11))
    (ea : IntKind.i64.wrap (x1 - x) = a) (eb : IntKind.i64.wrap (x - x0) = b) (ec : IntKind.i64.wrap (y1 - y) = c) (ed : IntKind.i64.wrap (y - y0) = d)
    (eac : IntKind.i64.wrap (a * c) = ac) (ebc : IntKind.i64.wrap (b * c) = bc) (eae : IntKind.i64.wrap (a * d) = ae) (ebe : IntKind.i64.wrap (b * d) = be)
    (e00 : IntKind.i64.wrap (ac * v00) = p00) (e10 : IntKind.i64.wrap (bc * v10) = p10) (e01 : IntKind.i64.wrap (ae * v01) = p01) (e11 : IntKind.i64.wrap (be * v11) = p11)
    (es1 : IntKind.i64.wrap (p00 + p10) = s1) (es2 : IntKind.i64.wrap (s1 + p01) = s2) (es3 : IntKind.i64.wrap (s2 + p11) = s3)
    (eab : IntKind.i64.wrap (a + b) = ab) (ecd : IntKind.i64.wrap (c + d) = cd) (eden : IntKind.i64.wrap (ab * cd) = den) :
    Calls Try.prog 105 #[.agg #[.slice (some adX) X.length cX, .slice (some adY) Y.length cY, .slice (some adV) nV cV], .int .i64 x, .int .i64 y] w fun e w' => e = .returned (.agg #[.int .i64 s3, .int .i64 den]) ∧ Below w.heap.size w w' := by
  have HRX := Aside0.mk hrX
  have HRY := Aside0.mk hrY
  have HI := Aside0.mk hi
  have HK := Aside0.mk hk
  clear hrX hrY hi hk
  replace bi := eq_true (of_decide_eq_true bi)
  replace bk := eq_true (of_decide_eq_true bk)
  replace bi1 := eq_true (of_decide_eq_true bi1)
  replace bk1 := eq_true (of_decide_eq_true bk1)
  replace li := eq_true (of_decide_eq_true li)
  replace lk := eq_true (of_decide_eq_true lk)
  replace li1 := eq_true (of_decide_eq_true li1)
  replace lk1 := eq_true (of_decide_eq_true lk1)
  replace vi := eq_true (of_decide_eq_true vi)
  replace vi1 := eq_true (of_decide_eq_true vi1)
  replace r0 := eq_true (of_decide_eq_true r0)
  replace r01 := eq_true (of_decide_eq_true r01)
  replace r1 := eq_true (of_decide_eq_true r1)
  replace r11 := eq_true (of_decide_eq_true r11)
  go_enter Try.func105, Try.ntmps105
  go_wp2
  have hb : Below w.heap.size w ((w.alloc (.cells #[.slice (some adX) X.length cX, .slice (some adY) Y.length cY, .slice (some adV) nV cV] 25)).alloc (.cells #[.int .i64 0, .int .i64 0] 131)) := ((Below.refl _ _).alloc (Nat.le_refl _) _).alloc (by simp) _
  have hT : ((w.alloc (.cells #[.slice (some adX) X.length cX, .slice (some adY) Y.length cY, .slice (some adV) nV cV] 25)).alloc (.cells #[.int .i64 0, .int .i64 0] 131)).heap[w.heap.size]? = some (.cells #[.slice (some adX) X.length cX, .slice (some adY) Y.length cY, .slice (some adV) nV cV] 25 (0, 0)) := blk_alloc (blk_new _ _) _
  have hO : ((w.alloc (.cells #[.slice (some adX) X.length cX, .slice (some adY) Y.length cY, .slice (some adV) nV cV] 25)).alloc (.cells #[.int .i64 0, .int .i64 0] 131)).heap[w.heap.size + 1]? = some (.cells #[.int .i64 0, .int .i64 0] 131 (0, 0)) := by have := blk_new (w.alloc (.cells #[.slice (some adX) X.length cX, .slice (some adY) Y.length cY, .slice (some adV) nV cV] 25)) (.cells #[.int .i64 0, .int .i64 0] 131); rwa [World.size_alloc] at this
  obtain ⟨W1, hW1⟩ : ∃ W1, (w.alloc (.cells #[.slice (some adX) X.length cX, .slice (some adY) Y.length cY, .slice (some adV) nV cV] 25)).alloc (.cells #[.int .i64 0, .int .i64 0] 131) = W1 := ⟨_, rfl⟩
  rw [hW1] at hb hT hO ⊢
  clear hW1
  have tx := (blk_cell hT 0).trans rfl
  have ty := (blk_cell hT 1).trans rfl
  have tv := (blk_cell hT 2).trans rfl
  have HO := Aside0.mk hO
  have HB := Aside0.mk hb
  clear hT hO
  replace cx0 := (hb.cell (World.block_lt_of_cell? _ _ cx0)).trans cx0
  replace cx1 := (hb.cell (World.block_lt_of_cell? _ _ cx1)).trans cx1
  replace cy0 := (hb.cell (World.block_lt_of_cell? _ _ cy0)).trans cy0
  replace cy1 := (hb.cell (World.block_lt_of_cell? _ _ cy1)).trans cy1
  replace cv0 := (hb.cell (World.block_lt_of_cell? _ _ cv0)).trans cv0
  replace cv1 := (hb.cell (World.block_lt_of_cell? _ _ cv1)).trans cv1
  replace c00 := (hb.cell (World.block_lt_of_cell? _ _ c00)).trans c00
  replace c01 := (hb.cell (World.block_lt_of_cell? _ _ c01)).trans c01
  replace c10 := (hb.cell (World.block_lt_of_cell? _ _ c10)).trans c10
  replace c11 := (hb.cell (World.block_lt_of_cell? _ _ c11)).trans c11
  clear hb
  go_quiet (first
    | (go_at_call 157; (with_reducible refine (spans_cell.calls kf _ _ X x i _ (by exact Kd.C_drewN (Kd.C_below HRX.out HB.out) _) hcX HI.out).mono ?_); rintro e w' ⟨rfl, ⟨nd, rfl⟩⟩; (first | exact ⟨rfl, _, World.drewN_drewN _ _ _⟩ | exact ⟨rfl, _, Eq.trans (World.drewN_drewN _ _ _) (congrArg (World.drewN _) (Nat.add_assoc _ _ _))⟩))
    | (go_at_call 157; (with_reducible refine (spans_cell.calls kf _ _ Y y k _ (by exact Kd.C_drewN (Kd.C_below HRY.out HB.out) _) hcY HK.out).mono ?_); rintro e w' ⟨rfl, ⟨nd, rfl⟩⟩; (first | exact ⟨rfl, _, World.drewN_drewN _ _ _⟩ | exact ⟨rfl, _, Eq.trans (World.drewN_drewN _ _ _) (congrArg (World.drewN _) (Nat.add_assoc _ _ _))⟩)))
  revert nq; intro n1
  go_wp2
  go_quiet (fail)
  revert nq; intro n2
  go_wp2
  go_quiet (fail)
  revert nq; intro n3
  go_wp2
  refine wp_region_still_tail 59 (by kernel_rfl) (by kernel_rfl) ?_
  change wpStill Try.prog _ ((W1.drewN (n1 + n2 + n3)).drew) (fun a' => wpList Try.prog _ _ _ a' ((W1.drewN (n1 + n2 + n3)).drew)) _ _
  obtain ⟨W2, hW2⟩ : ∃ W2, (W1.drewN (n1 + n2 + n3)).drew = W2 := ⟨_, rfl⟩
  rw [hW2]
  replace tx := (show W2.cell? _ = W1.cell? _ by rw [← hW2]; rfl).trans tx
  replace ty := (show W2.cell? _ = W1.cell? _ by rw [← hW2]; rfl).trans ty
  replace tv := (show W2.cell? _ = W1.cell? _ by rw [← hW2]; rfl).trans tv
  replace cx0 := (show W2.cell? _ = W1.cell? _ by rw [← hW2]; rfl).trans cx0
  replace cx1 := (show W2.cell? _ = W1.cell? _ by rw [← hW2]; rfl).trans cx1
  replace cy0 := (show W2.cell? _ = W1.cell? _ by rw [← hW2]; rfl).trans cy0
  replace cy1 := (show W2.cell? _ = W1.cell? _ by rw [← hW2]; rfl).trans cy1
  replace cv0 := (show W2.cell? _ = W1.cell? _ by rw [← hW2]; rfl).trans cv0
  replace cv1 := (show W2.cell? _ = W1.cell? _ by rw [← hW2]; rfl).trans cv1
  replace c00 := (show W2.cell? _ = W1.cell? _ by rw [← hW2]; rfl).trans c00
  replace c01 := (show W2.cell? _ = W1.cell? _ by rw [← hW2]; rfl).trans c01
  replace c10 := (show W2.cell? _ = W1.cell? _ by rw [← hW2]; rfl).trans c10
  replace c11 := (show W2.cell? _ = W1.cell? _ by rw [← hW2]; rfl).trans c11
  replace HO := Aside0.mk ((show W2.heap[_]? = W1.heap[_]? by rw [← hW2]; rfl).trans HO.out)
  replace HB := Aside0.mk (show Below w.heap.size w W2 by rw [← hW2]; exact (pw_below_drewN HB.out _).drew)
  clear hW2
  simp only [List.take_succ_cons, List.take_zero, List.drop_succ_cons, List.drop_zero]
  repeat still_step
  refine wpStill_nil ?_
  clear tx ty tv cx0 cx1 cy0 cy1 cv0 cv1 c00 c01 c10 c11
  have o0 := (blk_cell HO.out 0).trans rfl
  have o1 := (blk_cell HO.out 1).trans rfl
  have f0 := blk_frozen HO.out 0
  have f1 := blk_frozen HO.out 1
  go_wp2
  refine bodyPost_ret (results_cell_row rfl _ _ (w.heap.size + 1) 131 #[.int .i64 s3, .int .i64 den] (0, 0) _ rfl (blk_put (cs := #[.int .i64 s3, .int .i64 0]) (blk_put (cs := #[.int .i64 0, .int .i64 0]) HO.out 0 _ rfl) 1 _ rfl) Try.underlying131 rfl (by kernel_rfl)) rfl ?_
  exact ⟨rfl, below_set (below_set HB.out (by omega)) (by omega)⟩
end Go.Proofs.Yteodlmgmmpkpoaa.PS
end
section
namespace Go.Proofs.Yteodlmgmmpkpoaa.PS
open Go.RowKit Go.Proofs.YteodlmgmmpkpoaaW.PrintWords Go.Proofs.YteodlmgmmpkpoaaW.PrintLast Go.Proofs.YteodlmgmmpkpoaaW.PrintMore
set_option linter.unusedVariables false
structure Tb (X Y : List Int) (V : List (List Int)) : Prop where
  ax : Ax X
  ay : Ax Y
  len : V.length = X.length
  row : ∀ i, i < X.length → (V.getD i []).length = Y.length
  val : ∀ i k, i < X.length → k < Y.length → -1000000 ≤ gV V i k ∧ gV V i k ≤ 1000000
theorem tb_of {X Y : List Int} {V : List (List Int)} (h : tableB X Y V = true) : Tb X Y V := by
  unfold tableB at h
  simp only [Bool.and_eq_true, beq_iff_eq] at h
  obtain ⟨⟨hX, hY⟩, hl, hV⟩ := h
  rw [List.all_eq_true] at hV
  have hrow : ∀ i, i < X.length → rowB Y.length (V.getD i []) = true := fun i hi => hV _ (getD_mem V [] i (by omega))
  refine ⟨ax_of hX, ax_of hY, hl, fun i hi => ?_, fun i k hi hk => ?_⟩
  · have := hrow i hi
    unfold rowB at this
    simp only [Bool.and_eq_true, beq_iff_eq] at this
    exact this.1
  · have := hrow i hi
    unfold rowB at this
    simp only [Bool.and_eq_true, beq_iff_eq] at this
    exact all_inM _ this.2 k (by omega)
theorem wrI {n : Int} (h0 : -9223372036854775808 ≤ n) (h1 : n ≤ 9223372036854775807) : IntKind.i64.wrap n = n := by rw [i64_w]; exact wr64 h0 h1
theorem mul_bd {a b A B : Int} (ha0 : 0 ≤ a) (ha1 : a ≤ A) (hb0 : 0 ≤ b) (hb1 : b ≤ B) : 0 ≤ a * b ∧ a * b ≤ A * B :=
  ⟨Int.mul_nonneg ha0 hb0, Int.mul_le_mul ha1 hb1 hb0 (by omega)⟩
theorem mul_bd2 {p v P M : Int} (hp0 : 0 ≤ p) (hp1 : p ≤ P) (hv0 : -M ≤ v) (hv1 : v ≤ M) (hM : 0 ≤ M) : -(P * M) ≤ p * v ∧ p * v ≤ P * M := by
  have h1 : p * v ≤ p * M := Int.mul_le_mul_of_nonneg_left hv1 hp0
  have h2 : p * M ≤ P * M := Int.mul_le_mul_of_nonneg_right hp1 hM
  have h3 : p * (-M) ≤ p * v := Int.mul_le_mul_of_nonneg_left hv0 hp0
  have h4 : p * (-M) = -(p * M) := Int.mul_neg _ _
  omega
structure Quad (X Y : List Int) (V : List (List Int)) (i k : Nat) (x y : Int) : Prop where
  sx : Spot X x i
  sy : Spot Y y k
  a0 : 0 ≤ gI X (i + 1) - x
  a1 : gI X (i + 1) - x ≤ 10000
  b0 : 0 ≤ x - gI X i
  b1 : x - gI X i ≤ 10000
  c0 : 0 ≤ gI Y (k + 1) - y
  c1 : gI Y (k + 1) - y ≤ 10000
  d0 : 0 ≤ y - gI Y k
  d1 : y - gI Y k ≤ 10000
  e0 : 1 ≤ gI X (i + 1) - gI X i
  e1 : gI X (i + 1) - gI X i ≤ 10000
  f0 : 1 ≤ gI Y (k + 1) - gI Y k
  f1 : gI Y (k + 1) - gI Y k ≤ 10000
theorem quad_of {X Y : List Int} {V : List (List Int)} (t : Tb X Y V) {i k : Nat} {x y : Int} (sx : Spot X x i) (sy : Spot Y y k) : Quad X Y V i k x y := by
  have h1 := t.ax.asc i (i + 1) (by omega) sx.lt
  have h2 := t.ax.step i sx.lt
  have h3 := t.ay.asc k (k + 1) (by omega) sy.lt
  have h4 := t.ay.step k sy.lt
  have := sx.lo; have := sx.hi; have := sy.lo; have := sy.hi
  exact ⟨sx, sy, by omega, by omega, by omega, by omega, by omega, by omega, by omega, by omega, by omega, by omega, by omega, by omega⟩
end Go.Proofs.Yteodlmgmmpkpoaa.PS
end
section
namespace Go.Proofs.Yteodlmgmmpkpoaa.PS
open Go.RowKit Go.Proofs.YteodlmgmmpkpoaaW.PrintWords Go.Proofs.YteodlmgmmpkpoaaW.PrintLast Go.Proofs.YteodlmgmmpkpoaaW.PrintMore
set_option linter.unusedVariables false
set_option linter.unusedSimpArgs false
theorem rd_L3_nat (V : List (List Int)) (x : Nat) : rd_L3 V x = V.getD x [] := by unfold rd_L3; rw [Int.toNat_natCast]
theorem cell_int {w : World} {A : Option Addr} {l : List Int} (h : Kd.C (Kd.int .i64) w A l.length l) (h0 : 0 < l.length) : ∃ ad, A = some ad ∧ ∀ i : Nat, i < l.length → w.cell? (ad.add i) = some (.int .i64 (gI l i)) := by
  obtain ⟨ad, e, _⟩ := Kd.at_int h 0 (by omega) (by omega)
  refine ⟨ad, e, fun i hi => ?_⟩
  obtain ⟨ad', e', hc⟩ := Kd.at_int h (i : Int) (by omega) (by omega)
  rw [e] at e'
  cases e'
  rw [Int.toNat_natCast, rd_nat] at hc
  exact hc
theorem cell_rows {w : World} {A : Option Addr} {V : List (List Int)} {m : Nat} (h : Kd.C (Kd.slice 3 (Kd.int .i64)) w A V.length V) (h0 : 0 < V.length) (hm : 0 < m) (hr : ∀ i, i < V.length → (V.getD i []).length = m) :
    ∃ ad, A = some ad ∧ ∀ i : Nat, i < V.length → ∃ (ar : Addr) (c : Nat), w.cell? (ad.add i) = some (.slice (some ar) m c) ∧ ∀ k : Nat, k < m → w.cell? (ar.add k) = some (.int .i64 (gV V i k)) := by
  obtain ⟨ad, _, _, e, _, _, _⟩ := at_L3 h 0 (by omega) (by omega)
  refine ⟨ad, e, fun i hi => ?_⟩
  obtain ⟨ad', A0, c0, e', hc, _, hrow⟩ := at_L3 h (i : Int) (by omega) (by omega)
  rw [e] at e'
  cases e'
  rw [Int.toNat_natCast, rd_L3_nat, hr i hi] at hc
  rw [rd_L3_nat] at hrow
  obtain ⟨ar, ea, hk⟩ := cell_int hrow (by rw [hr i hi]; exact hm)
  subst ea
  exact ⟨ar, c0, hc, fun k hkm => hk k (by rw [hr i hi]; exact hkm)⟩
set_option maxHeartbeats 4000000 in
theorem spans_at.calls (A0_0 : Option Addr) (c0_0 : Nat) (l0_0 : List Int) (A0_1 : Option Addr) (c0_1 : Nat) (l0_1 : List Int) (A0_2 : Option Addr) (c0_2 : Nat) (l0_2 : List (List Int)) (a1 : Int) (a2 : Int) (r1 : Int) (r2 : Int) (w : World) (hr0_0 : Kd.C (Kd.int .i64) w A0_0 l0_0.length l0_0) (hc0_0 : l0_0.length ≤ c0_0) (hr0_1 : Kd.C (Kd.int .i64) w A0_1 l0_1.length l0_1) (hc0_1 : l0_1.length ≤ c0_1) (hr0_2 : Kd.C (Kd.slice 3 (Kd.int .i64)) w A0_2 l0_2.length l0_2) (hc0_2 : l0_2.length ≤ c0_2) (h : spans_at.f l0_0 l0_1 l0_2 a1 a2 = some (r1, r2)) :
    Calls Try.prog 105 #[.agg #[.slice A0_0 l0_0.length c0_0, .slice A0_1 l0_1.length c0_1, .slice A0_2 l0_2.length c0_2], .int .i64 a1, .int .i64 a2] w fun e w' => e = .returned (.agg #[.int .i64 r1, .int .i64 r2]) ∧ Below w.heap.size w w' := by
  unfold spans_at.f at h
  by_cases hg : (tableB l0_0 l0_1 l0_2 && (onB l0_0 a1 a1 && onB l0_1 a2 a2)) = true
  · rw [if_pos hg] at h
    simp only [Option.some.injEq, Prod.mk.injEq] at h
    obtain ⟨rfl, rfl⟩ := h
    simp only [Bool.and_eq_true] at hg
    obtain ⟨ht, hx, hy⟩ := hg
    have t := tb_of ht
    have q := quad_of t (cell_spot t.ax hx) (cell_spot t.ay hy)
    have hlx := t.ax.most
    have hly := t.ay.most
    have hltx := q.sx.lt
    have hlty := q.sy.lt
    obtain ⟨adX, rfl, cX⟩ := cell_int hr0_0 (by omega)
    obtain ⟨adY, rfl, cY⟩ := cell_int hr0_1 (by omega)
    obtain ⟨adV, rfl, cV⟩ := cell_rows (m := l0_1.length) hr0_2 (by have := t.len; omega) (by omega) (fun i hi => t.row i (by have := t.len; omega))
    have hci := cell_total t.ax a1 13 (by omega)
    have hck := cell_total t.ay a2 13 (by omega)
    have h00 := t.val (cellOf l0_0 a1) (cellOf l0_1 a2) (by omega) (by omega)
    have h10 := t.val (cellOf l0_0 a1 + 1) (cellOf l0_1 a2) (by omega) (by omega)
    have h01 := t.val (cellOf l0_0 a1) (cellOf l0_1 a2 + 1) (by omega) (by omega)
    have h11 := t.val (cellOf l0_0 a1 + 1) (cellOf l0_1 a2 + 1) (by omega) (by omega)
    unfold ptAt numAt denAt
    dsimp only
    generalize cellOf l0_0 a1 = i at *
    generalize cellOf l0_1 a2 = k at *
    obtain ⟨ar0, c0, hv0, hr0⟩ := cV i (by have := t.len; omega)
    obtain ⟨ar1, c1, hv1, hr1⟩ := cV (i + 1) (by have := t.len; omega)
    have bac := mul_bd q.a0 q.a1 q.c0 q.c1
    have bbc := mul_bd q.b0 q.b1 q.c0 q.c1
    have bad := mul_bd q.a0 q.a1 q.d0 q.d1
    have bbd := mul_bd q.b0 q.b1 q.d0 q.d1
    have p00 := mul_bd2 bac.1 bac.2 h00.1 h00.2 (by decide)
    have p10 := mul_bd2 bbc.1 bbc.2 h10.1 h10.2 (by decide)
    have p01 := mul_bd2 bad.1 bad.2 h01.1 h01.2 (by decide)
    have p11 := mul_bd2 bbd.1 bbd.2 h11.1 h11.2 (by decide)
    have bef := mul_bd (a := gI l0_0 (i + 1) - gI l0_0 i) (b := gI l0_1 (k + 1) - gI l0_1 k) (by have := q.e0; omega) q.e1 (by have := q.f0; omega) q.f1
    have ix0 := t.ax.inn i (by omega)
    have iy0 := t.ay.inn k (by omega)
    have qa0 := q.a0; have qa1 := q.a1; have qb0 := q.b0; have qb1 := q.b1; have qc0 := q.c0; have qc1 := q.c1; have qd0 := q.d0; have qd1 := q.d1
    refine at_core 13 adX adY adV ar0 ar1 l0_0 l0_1 c0_0 c0_1 l0_2.length c0_2 l0_1.length c0 l0_1.length c1 a1 a2 i k (i + 1 : Nat) (k + 1 : Nat) (gI l0_0 i) (gI l0_0 (i + 1)) (gI l0_1 k) (gI l0_1 (k + 1)) (gV l0_2 i k) (gV l0_2 (i + 1) k) (gV l0_2 i (k + 1)) (gV l0_2 (i + 1) (k + 1))
      _ _ _ _ _ _ _ _ _ _ _ _ _ _ _ (gI l0_0 (i + 1) - gI l0_0 i) (gI l0_1 (k + 1) - gI l0_1 k) _ w hr0_0 hc0_0 hr0_1 hc0_1 hci hck
      (wrI (by omega) (by omega)) (wrI (by omega) (by omega)) ?_ ?_ ?_ ?_ ?_ ?_ ?_ ?_ ?_ ?_ ?_ ?_ ?_ ?_ (cX i (by omega)) (cX (i + 1) (by omega)) (cY k (by omega)) (cY (k + 1) (by omega)) hv0 hv1
      (hr0 k (by omega)) (hr0 (k + 1) (by omega)) (hr1 k (by omega)) (hr1 (k + 1) (by omega))
      (wrI (by omega) (by omega)) (wrI (by omega) (by omega)) (wrI (by omega) (by omega)) (wrI (by omega) (by omega))
      (wrI (by omega) (by omega)) (wrI (by omega) (by omega)) (wrI (by omega) (by omega)) (wrI (by omega) (by omega))
      (wrI (by omega) (by omega)) (wrI (by omega) (by omega)) (wrI (by omega) (by omega)) (wrI (by omega) (by omega))
      (wrI (by omega) (by omega)) (wrI (by omega) (by omega)) (wrI (by omega) (by omega)) ?_ ?_ (wrI (by omega) (by omega))
    all_goals first
      | (rw [decide_eq_true_eq]; have := t.len; omega)
      | (rw [wrI (by omega) (by omega)]; omega)
  · rw [if_neg hg] at h
    exact absurd h (by simp)
end Go.Proofs.Yteodlmgmmpkpoaa.PS
end
section
namespace Go.Proofs.Yteodlmgmmpkpoaa.PS
open Go.RowKit Go.Proofs.YteodlmgmmpkpoaaW.PrintWords Go.Proofs.YteodlmgmmpkpoaaW.PrintLast Go.Proofs.YteodlmgmmpkpoaaW.PrintMore
attribute [local go_sem] max2_int min2_int max_two min_two max_three min_three max_four min_four   -- for this text's walks alone
set_option linter.unusedVariables false
set_option linter.unusedSimpArgs false
def spans_stops.l0 : Nat → List Int → List Int → Int → Int → Int → Int → Option (List Int)
 | 0, _, _, _, _, _, _ => none
 | k + 1, x5, x11, x12, x13, x109000, x109001 => if x13 < x12 then (if 0 ≤ x13 then (if x13 < (x11.length : Int) then (if (rd x11 x13) > x109000 then (if (rd x11 x13) < x109001 then (if x5.length < 17592186044416 then (spans_stops.l0 k (x5 ++ [rd x11 x13]) x11 x12 (wrap64 (x13 + 1)) x109000 x109001) else (none)) else (spans_stops.l0 k x5 x11 x12 (wrap64 (x13 + 1)) x109000 x109001)) else (spans_stops.l0 k x5 x11 x12 (wrap64 (x13 + 1)) x109000 x109001)) else (none)) else (none)) else (if x109001 > x109000 then (if x5.length < 17592186044416 then (some (x5 ++ [x109001])) else (none)) else (some x5))
def spans_stops.f (k : Nat) (l0 : List Int) (a1_0 : Int) (a1_1 : Int) : Option (List Int) := spans_stops.l0 k (([a1_0] : List Int)) l0 (l0.length : Int) 0 a1_0 a1_1
set_option maxHeartbeats 8000000 in
set_option maxRecDepth 100000 in
theorem spans_stops.calls (k : Nat) (A0 : Option Addr) (c0 : Nat) (l0 : List Int) (a1_0 : Int) (a1_1 : Int) (r : List Int) (w : World) (hr0 : Kd.C (Kd.int .i64) w A0 l0.length l0) (hc0 : l0.length ≤ c0) (h : spans_stops.f k l0 a1_0 a1_1 = some r) :
  Calls Try.prog 171 #[.slice A0 l0.length c0, .agg #[.int .i64 a1_0, .int .i64 a1_1]] w fun e w' => ∃ v0_ : Value, e = .returned (v0_) ∧ Kd.R (Kd.int .i64) 3 w' w.heap.size (fun _ => True) v0_ r ∧ Below w.heap.size w w' := by
 have hu27 := Try.underlying27
 have HR0 := Aside0.mk hr0
 have HC0 := Aside0.mk hc0
 clear hr0 hc0
 have HB := Aside0.mk (Below.refl w.heap.size w)
 have H : (spans_stops.l0 k (([a1_0] : List Int)) l0 (l0.length : Int) 0 a1_0 a1_1) = some r := h
 clear h
 obtain ⟨y109, hy109⟩ : ∃ y_ : List Int, y_ = (([a1_0] : List Int)) := ⟨_, rfl⟩
 replace H : (spans_stops.l0 k y109 l0 (l0.length : Int) 0 a1_0 a1_1) = some r := by first | (rw [hy109]; with_reducible exact H) | (have H2_ := (Option.bind_some _ _).symm.trans H; rw [hy109]; with_reducible exact H2_) | (have H2_ := (Option.bind_some _ _).symm.trans H; with_reducible exact H2_) | with_reducible exact H | (rw [hy109]; exact H) | exact H
 have Ny109 := Aside0.mk hy109
 clear hy109
 have H' := Aside0.mk H
 clear H
 go_enter Try.func171, Try.ntmps171
 go_wp2_with (first | ((with_reducible refine gate_dst (N := 3) rfl ?_); refine box_event ?hg (N := 3) ?hd (cs := #[.int .i64 a1_0, .int .i64 a1_1]) (t := 27) ?hr ?_; (case hd => rfl); (case hg => rfl); (case hr => first | (go_simp; done) | (go_simp; rfl)); intro gb108 hg w3 hbox hb; have n0_ := Aside0.mk (below_step (bl_ HB.out) hb); have n1_ := Aside0.mk (hbox); have n2_ := Aside0.mk (szl_ hg HB.out); have n3_ := Aside0.mk (szl_ hg HB.out); clear HB; have HB := n0_; have BK108 := n1_; have GW108 := n2_; have GE108 := n3_; clear n0_ n1_ n2_ n3_ hb hbox hg; have hcz4_0 : w3.cell? ⟨gb108, 0, none⟩ = some (.int .i64 a1_0) := (blk_cell BK108.out 0).trans rfl; have hcz4_1 : w3.cell? ⟨gb108, 1, none⟩ = some (.int .i64 a1_1) := (blk_cell BK108.out 1).trans rfl; have hfz4_0 := blk_frozen BK108.out 0; have hfz4_1 := blk_frozen BK108.out 1) | ((with_reducible refine gate_dst (N := 10) rfl ?_); refine Kd.R_lit (Kd.int .i64) _ 3 ?hg (N := 10) ?hd (xs := ([a1_0] : List Int)) (inner := [.int .i64 a1_0]) (ok := fun _ => True) (okp := fun _ => True) ?hr ?hp (fun _ hk => hk) trivial (Below.refl _ _) (Nat.le_refl _) (by simp) ?_; (case hd => rfl); (case hg => rfl); (case hr => first | (go_simp; done) | (go_simp; rfl)); (case hp => exact (Reps.one (show Kd.M (Kd.int .i64) _ _ _ a1_0 [.int .i64 a1_0] from rfl) (Reps.none _ _))); intro v110 w5 ho6 hb hg_ hnew_; clear hg_ hnew_; (first | rw [← Ny109.out] at ho6 | (simp only [Int.reduceToNat] at ho6; rw [← Ny109.out] at ho6)); have n0_ := Aside0.mk (Kd.R_lower ho6 (below_size (bl_ HB.out))); have n1_ := Aside0.mk (blk_below (bk_ BK108.out) hb); have n2_ := Aside0.mk (below_step (bl_ HB.out) hb); clear BK108 HB; have HO111 := n0_; have BK108 := n1_; have HB := n2_; clear n0_ n1_ n2_ hb ho6))
 go_loopg [5, 13] k (fun kq v5 v13 w' => ∃ (x5_1 : List Int) (x13_1 : Int), v13 = .int .i64 x13_1 ∧ Aside0 (spans_stops.l0 kq x5_1 l0 (l0.length : Int) x13_1 a1_0 a1_1 = some r) ∧ Aside0 (kq ≤ k) ∧ Aside0 (Kd.R (Kd.int .i64) 3 w' w.heap.size (fun _ => True) v5 x5_1) ∧ Aside0 (w'.heap[gb108]? = some (.cells #[.int .i64 a1_0, .int .i64 a1_1] 27 (0, 0))) ∧ Aside0 (Below w.heap.size w w'))
 case atStart => exact ⟨(y109), (0), (by first | rfl | (simp; done) | (simp [*]; done)), H', ⟨Nat.le_refl _⟩, ⟨by (with_reducible repeat (first | apply Kd.R_alloc | apply Kd.R_drewN | apply Kd.R_drew)); exact HO111.out⟩, ⟨bk_ BK108.out⟩, ⟨bl_ HB.out⟩⟩
 case round =>
  clear H'
  try clear c1
  try clear p2
  try clear hcz4_0
  try clear hcz4_1
  try clear hfz4_0
  try clear hfz4_1
  obtain ⟨x5_1, x13_1, rfl, HA, HK1, HO_5, BK108, HB⟩ := hrel
  cases gk with
  | zero => exact absurd HA.out (by simp [spans_stops.l0])
  | succ k1 =>
   have H := HA.out
   clear HA
   simp only [spans_stops.l0] at H
   by_cases c7 : x13_1 < (l0.length : Int)
   ·
    rw [if_pos c7] at H
    have c7b0 : decide (x13_1 < (l0.length : Int)) = true := decide_eq_true c7
    clear c7
    by_cases c8 : 0 ≤ x13_1
    ·
     rw [if_pos c8] at H
     have c8b0 : decide (0 ≤ x13_1) = true := decide_eq_true c8
     clear c8
     by_cases c9 : x13_1 < (l0.length : Int)
     ·
      rw [if_pos c9] at H
      have c9b0 : decide (x13_1 < (l0.length : Int)) = true := decide_eq_true c9
      clear c9
      by_cases c10 : (rd l0 x13_1) > a1_0
      ·
       rw [if_pos c10] at H
       have c10b0 : decide (a1_0 < (rd l0 x13_1)) = true := decide_eq_true c10
       clear c10
       by_cases c11 : (rd l0 x13_1) < a1_1
       ·
        rw [if_pos c11] at H
        have c11b0 : decide ((rd l0 x13_1) < a1_1) = true := decide_eq_true c11
        clear c11
        by_cases c12 : x5_1.length < 17592186044416
        ·
         rw [if_pos c12] at H
         have LMc12 := Aside0.mk c12
         clear c12
         obtain ⟨y113, hy113⟩ : ∃ y_ : List Int, y_ = (x5_1 ++ [rd l0 x13_1]) := ⟨_, rfl⟩
         replace H : (spans_stops.l0 k1 y113 l0 (l0.length : Int) (wrap64 (x13_1 + 1)) a1_0 a1_1) = some r := by first | (rw [hy113]; with_reducible exact H) | (have H2_ := (Option.bind_some _ _).symm.trans H; rw [hy113]; with_reducible exact H2_) | (have H2_ := (Option.bind_some _ _).symm.trans H; with_reducible exact H2_) | with_reducible exact H | (rw [hy113]; exact H) | exact H
         have Ny113 := Aside0.mk hy113
         clear hy113
         have H' := Aside0.mk H
         clear H
         have p112 : 0 ≤ (x13_1 : Int) := of_decide_eq_true (by first | (with_reducible assumption) | assumption)
         have q112 : x13_1 < (l0.length : Int) := of_decide_eq_true (by first | (with_reducible assumption) | assumption)
         obtain ⟨ad112, e112, hx112_0⟩ := Kd.at_int HR0.out x13_1 p112 q112
         cases e112
         replace hx112_0 := (HB.out.cell (World.block_lt_of_cell? w _ hx112_0)).trans hx112_0
         replace p112 := eq_true p112
         replace q112 := eq_true q112
         have hcz13_0 : wr.cell? ⟨gb108, 0, none⟩ = some (.int .i64 a1_0) := (blk_cell BK108.out 0).trans rfl
         have hcz13_1 : wr.cell? ⟨gb108, 1, none⟩ = some (.int .i64 a1_1) := (blk_cell BK108.out 1).trans rfl
         have hfz13_0 := blk_frozen BK108.out 0
         have hfz13_1 := blk_frozen BK108.out 1
         go_wp2_with (first | ((with_reducible refine gate_builtin (b := .append) (xs := #[.tmp 27, .tmp 29]) rfl ?_); at_builtin; refine Kd.R_append (Kd.int .i64) (w0 := w) w.heap.size rfl (.tmp 27) (.tmp 29) 22 3 (.int .i64 0) 8 rfl Try.underlying22 info3 rfl (by decide) (by omega) u5 x5_1 (rd l0 x13_1) [.int .i64 (rd l0 x13_1)] (fun _ => True) (fun _ => False) rfl rfl ?aP (fun _ hk => hk.elim) ?aF ?aO ?aB ?aS ?aL ?_; (case aP => exact rfl); (case aB => exact (bl_ HB.out)); (case aF => exact (fun _ _ => trivial)); (case aO => exact (by (with_reducible repeat (first | apply Kd.R_alloc | apply Kd.R_drewN | apply Kd.R_drew)); exact HO_5.out)); (case aS => exact (below_size (bl_ HB.out))); (case aL => have := LMc12.out; omega); intro v114 w14 ho hb hg hat; rw [← Ny113.out] at ho; have n0_ := Aside0.mk (blk_grown (bk_ BK108.out) hg (Kd.R_ne HO_5.out BK108.out (by decide))); have n1_ := Aside0.mk (hb); have n2_ := Aside0.mk (ho); clear BK108 HB HO_5; have BK108 := n0_; have HB := n1_; have HO115 := n2_; clear n0_ n1_ n2_ ho hb hg hat))
         go_roundg k1
         case measure => have := HK1.out; omega
         case rel => exact ⟨(y113), (wrap64 (x13_1 + 1)), (by first | rfl | (simp; done) | (simp [*]; done)), H', ⟨by have := HK1.out; omega⟩, ⟨by (with_reducible repeat (first | apply Kd.R_alloc | apply Kd.R_drewN | apply Kd.R_drew)); exact HO115.out⟩, ⟨bk_ BK108.out⟩, ⟨bl_ HB.out⟩⟩
        ·
         rw [if_neg c12] at H
         exact absurd H (by simp)
       ·
        rw [if_neg c11] at H
        have c11b0 : decide ((rd l0 x13_1) < a1_1) = false := decide_eq_false c11
        clear c11
        have H' := Aside0.mk H
        clear H
        have p112 : 0 ≤ (x13_1 : Int) := of_decide_eq_true (by first | (with_reducible assumption) | assumption)
        have q112 : x13_1 < (l0.length : Int) := of_decide_eq_true (by first | (with_reducible assumption) | assumption)
        obtain ⟨ad112, e112, hx112_0⟩ := Kd.at_int HR0.out x13_1 p112 q112
        cases e112
        replace hx112_0 := (HB.out.cell (World.block_lt_of_cell? w _ hx112_0)).trans hx112_0
        replace p112 := eq_true p112
        replace q112 := eq_true q112
        have hcz15_0 : wr.cell? ⟨gb108, 0, none⟩ = some (.int .i64 a1_0) := (blk_cell BK108.out 0).trans rfl
        have hcz15_1 : wr.cell? ⟨gb108, 1, none⟩ = some (.int .i64 a1_1) := (blk_cell BK108.out 1).trans rfl
        have hfz15_0 := blk_frozen BK108.out 0
        have hfz15_1 := blk_frozen BK108.out 1
        go_wp2
        go_roundg k1
        case measure => have := HK1.out; omega
        case rel => exact ⟨(x5_1), (wrap64 (x13_1 + 1)), (by first | rfl | (simp; done) | (simp [*]; done)), H', ⟨by have := HK1.out; omega⟩, ⟨by (with_reducible repeat (first | apply Kd.R_alloc | apply Kd.R_drewN | apply Kd.R_drew)); exact HO_5.out⟩, ⟨bk_ BK108.out⟩, ⟨bl_ HB.out⟩⟩
      ·
       rw [if_neg c10] at H
       have c10b0 : decide (a1_0 < (rd l0 x13_1)) = false := decide_eq_false c10
       clear c10
       have H' := Aside0.mk H
       clear H
       have p112 : 0 ≤ (x13_1 : Int) := of_decide_eq_true (by first | (with_reducible assumption) | assumption)
       have q112 : x13_1 < (l0.length : Int) := of_decide_eq_true (by first | (with_reducible assumption) | assumption)
       obtain ⟨ad112, e112, hx112_0⟩ := Kd.at_int HR0.out x13_1 p112 q112
       cases e112
       replace hx112_0 := (HB.out.cell (World.block_lt_of_cell? w _ hx112_0)).trans hx112_0
       replace p112 := eq_true p112
       replace q112 := eq_true q112
       have hcz16_0 : wr.cell? ⟨gb108, 0, none⟩ = some (.int .i64 a1_0) := (blk_cell BK108.out 0).trans rfl
       have hcz16_1 : wr.cell? ⟨gb108, 1, none⟩ = some (.int .i64 a1_1) := (blk_cell BK108.out 1).trans rfl
       have hfz16_0 := blk_frozen BK108.out 0
       have hfz16_1 := blk_frozen BK108.out 1
       go_wp2
       go_roundg k1
       case measure => have := HK1.out; omega
       case rel => exact ⟨(x5_1), (wrap64 (x13_1 + 1)), (by first | rfl | (simp; done) | (simp [*]; done)), H', ⟨by have := HK1.out; omega⟩, ⟨by (with_reducible repeat (first | apply Kd.R_alloc | apply Kd.R_drewN | apply Kd.R_drew)); exact HO_5.out⟩, ⟨bk_ BK108.out⟩, ⟨bl_ HB.out⟩⟩
     ·
      rw [if_neg c9] at H
      exact absurd H (by simp)
    ·
     rw [if_neg c8] at H
     exact absurd H (by simp)
   ·
    rw [if_neg c7] at H
    have c7b0 : decide (x13_1 < (l0.length : Int)) = false := decide_eq_false c7
    clear c7
    by_cases c17 : a1_1 > a1_0
    ·
     rw [if_pos c17] at H
     have c17b0 : decide (a1_0 < a1_1) = true := decide_eq_true c17
     clear c17
     by_cases c18 : x5_1.length < 17592186044416
     ·
      rw [if_pos c18] at H
      have LMc18 := Aside0.mk c18
      clear c18
      obtain ⟨y116, hy116⟩ : ∃ y_ : List Int, y_ = (x5_1 ++ [a1_1]) := ⟨_, rfl⟩
      replace H : (some y116) = some r := by first | (rw [hy116]; with_reducible exact H) | (have H2_ := (Option.bind_some _ _).symm.trans H; rw [hy116]; with_reducible exact H2_) | (have H2_ := (Option.bind_some _ _).symm.trans H; with_reducible exact H2_) | with_reducible exact H | (rw [hy116]; exact H) | exact H
      have Ny116 := Aside0.mk hy116
      clear hy116
      obtain rfl := Option.some.inj H
      have hcz19_0 : wr.cell? ⟨gb108, 0, none⟩ = some (.int .i64 a1_0) := (blk_cell BK108.out 0).trans rfl
      have hcz19_1 : wr.cell? ⟨gb108, 1, none⟩ = some (.int .i64 a1_1) := (blk_cell BK108.out 1).trans rfl
      have hfz19_0 := blk_frozen BK108.out 0
      have hfz19_1 := blk_frozen BK108.out 1
      go_wp2_with (first | ((with_reducible refine gate_builtin (b := .append) (xs := #[.tmp 37, .tmp 40]) rfl ?_); at_builtin; refine Kd.R_append (Kd.int .i64) (w0 := w) w.heap.size rfl (.tmp 37) (.tmp 40) 22 3 (.int .i64 0) 8 rfl Try.underlying22 info3 rfl (by decide) (by omega) u5 x5_1 a1_1 [.int .i64 a1_1] (fun _ => True) (fun _ => False) rfl rfl ?aP (fun _ hk => hk.elim) ?aF ?aO ?aB ?aS ?aL ?_; (case aP => exact rfl); (case aB => exact (bl_ HB.out)); (case aF => exact (fun _ _ => trivial)); (case aO => exact (by (with_reducible repeat (first | apply Kd.R_alloc | apply Kd.R_drewN | apply Kd.R_drew)); exact HO_5.out)); (case aS => exact (below_size (bl_ HB.out))); (case aL => have := LMc18.out; omega); intro v117 w20 ho hb hg hat; rw [← Ny116.out] at ho; have n0_ := Aside0.mk (blk_grown (bk_ BK108.out) hg (Kd.R_ne HO_5.out BK108.out (by decide))); have n1_ := Aside0.mk (hb); have n2_ := Aside0.mk (ho); clear BK108 HB HO_5; have BK108 := n0_; have HB := n1_; have HO118 := n2_; clear n0_ n1_ n2_ ho hb hg hat))
      go_ret
      exact ⟨_, by first | rfl | (simp [errW_none, errW_some] <;> rfl) | (simp [*, errW_none, errW_some] <;> rfl), by (with_reducible repeat (first | apply Kd.R_alloc | apply Kd.R_drewN | apply Kd.R_drew)); exact HO118.out, bl_ HB.out⟩
     ·
      rw [if_neg c18] at H
      exact absurd H (by simp)
    ·
     rw [if_neg c17] at H
     have c17b0 : decide (a1_0 < a1_1) = false := decide_eq_false c17
     clear c17
     obtain rfl := Option.some.inj H
     have hcz21_0 : wr.cell? ⟨gb108, 0, none⟩ = some (.int .i64 a1_0) := (blk_cell BK108.out 0).trans rfl
     have hcz21_1 : wr.cell? ⟨gb108, 1, none⟩ = some (.int .i64 a1_1) := (blk_cell BK108.out 1).trans rfl
     have hfz21_0 := blk_frozen BK108.out 0
     have hfz21_1 := blk_frozen BK108.out 1
     go_wp2
     go_ret
     exact ⟨_, by first | rfl | (simp [errW_none, errW_some] <;> rfl) | (simp [*, errW_none, errW_some] <;> rfl), by (with_reducible repeat (first | apply Kd.R_alloc | apply Kd.R_drewN | apply Kd.R_drew)); exact HO_5.out, bl_ HB.out⟩
end Go.Proofs.Yteodlmgmmpkpoaa.PS
end
section
namespace Go.Proofs.Yteodlmgmmpkpoaa.PS
open Go.RowKit Go.Proofs.YteodlmgmmpkpoaaW.PrintWords Go.Proofs.YteodlmgmmpkpoaaW.PrintLast Go.Proofs.YteodlmgmmpkpoaaW.PrintMore
attribute [local go_sem] max2_int min2_int max_two min_two max_three min_three max_four min_four   -- for this text's walks alone
set_option linter.unusedVariables false
set_option linter.unusedSimpArgs false
def cmp_Or_int.l0 : Nat → Int → List Int → Int → Int → Option (Int)
 | 0, _, _, _, _ => none
 | k + 1, x3, x6, x7, x8 => if x8 < x7 then (if 0 ≤ x8 then (if x8 < (x6.length : Int) then (if (rd x6 x8) = x3 then (cmp_Or_int.l0 k x3 x6 x7 (wrap64 (x8 + 1))) else (some (rd x6 x8))) else (none)) else (none)) else (some x3)
def cmp_Or_int.f (k : Nat) (l0 : List Int) : Option (Int) := cmp_Or_int.l0 k 0 l0 (l0.length : Int) 0
set_option maxHeartbeats 8000000 in
set_option maxRecDepth 100000 in
theorem cmp_Or_int.calls (k : Nat) (A0 : Option Addr) (c0 : Nat) (l0 : List Int) (r : Int) (w : World) (hr0 : Kd.C (Kd.int .i64) w A0 l0.length l0) (hc0 : l0.length ≤ c0) (h : cmp_Or_int.f k l0 = some r) :
  Calls Try.prog 177 #[.slice A0 l0.length c0] w fun e w' => e = .returned (.int .i64 r) ∧ Drawn0 w w' := by
 have HR0 := Aside0.mk hr0
 have HC0 := Aside0.mk hc0
 clear hr0 hc0
 have H : (cmp_Or_int.l0 k 0 l0 (l0.length : Int) 0) = some r := h
 clear h
 have H' := Aside0.mk H
 clear H
 go_enter Try.func177, Try.ntmps177
 go_wp2
 go_loopg [8] k (fun kq v8 w' => ∃ (x8_1 : Int), v8 = .int .i64 x8_1 ∧ Aside0 (cmp_Or_int.l0 kq 0 l0 (l0.length : Int) x8_1 = some r) ∧ Aside0 (kq ≤ k) ∧ Drawn0 w w')
 case atStart => exact ⟨(0), (by first | rfl | (simp; done) | (simp [*]; done)), H', ⟨Nat.le_refl _⟩, by repeat (first | exact Drawn0.refl _ | apply Drawn0.step)⟩
 case round =>
  clear H'
  try clear c1
  obtain ⟨x8_1, rfl, HA, HK1, ⟨m1, rfl⟩⟩ := hrel
  cases gk with
  | zero => exact absurd HA.out (by simp [cmp_Or_int.l0])
  | succ k1 =>
   have H := HA.out
   clear HA
   simp only [cmp_Or_int.l0] at H
   by_cases c2 : x8_1 < (l0.length : Int)
   ·
    rw [if_pos c2] at H
    have c2b0 : decide (x8_1 < (l0.length : Int)) = true := decide_eq_true c2
    clear c2
    by_cases c3 : 0 ≤ x8_1
    ·
     rw [if_pos c3] at H
     have c3b0 : decide (0 ≤ x8_1) = true := decide_eq_true c3
     clear c3
     by_cases c4 : x8_1 < (l0.length : Int)
     ·
      rw [if_pos c4] at H
      have c4b0 : decide (x8_1 < (l0.length : Int)) = true := decide_eq_true c4
      clear c4
      by_cases c5 : (rd l0 x8_1) = 0
      ·
       rw [if_pos c5] at H
       have c5b0 : ((rd l0 x8_1) == 0) = true := beq_iff_eq.mpr c5
       have c5b1 : ((rd l0 x8_1) != 0) = false := bne_eq_false_iff_eq.mpr c5
       clear c5
       have H' := Aside0.mk H
       clear H
       have p130 : 0 ≤ (x8_1 : Int) := of_decide_eq_true (by first | (with_reducible assumption) | assumption)
       have q130 : x8_1 < (l0.length : Int) := of_decide_eq_true (by first | (with_reducible assumption) | assumption)
       obtain ⟨ad130, e130, hx130_0⟩ := Kd.at_int HR0.out x8_1 p130 q130
       cases e130
       replace p130 := eq_true p130
       replace q130 := eq_true q130
       go_wp2
       go_roundg k1
       case measure => have := HK1.out; omega
       case rel => exact ⟨(wrap64 (x8_1 + 1)), (by first | rfl | (simp; done) | (simp [*]; done)), H', ⟨by have := HK1.out; omega⟩, by repeat (first | exact Drawn0.refl _ | apply Drawn0.step)⟩
      ·
       rw [if_neg c5] at H
       have c5b0 : ((rd l0 x8_1) == 0) = false := beq_eq_false_iff_ne.mpr c5
       have c5b1 : ((rd l0 x8_1) != 0) = true := bne_iff_ne.mpr c5
       obtain rfl := Option.some.inj H
       have p130 : 0 ≤ (x8_1 : Int) := of_decide_eq_true (by first | (with_reducible assumption) | assumption)
       have q130 : x8_1 < (l0.length : Int) := of_decide_eq_true (by first | (with_reducible assumption) | assumption)
       obtain ⟨ad130, e130, hx130_0⟩ := Kd.at_int HR0.out x8_1 p130 q130
       cases e130
       replace p130 := eq_true p130
       replace q130 := eq_true q130
       go_wp2
       go_ret
       exact ⟨by first | rfl | (simp; done) | (simp [*]; done), by repeat (first | exact Drawn0.refl _ | apply Drawn0.step)⟩
     ·
      rw [if_neg c4] at H
      exact absurd H (by simp)
    ·
     rw [if_neg c3] at H
     exact absurd H (by simp)
   ·
    rw [if_neg c2] at H
    have c2b0 : decide (x8_1 < (l0.length : Int)) = false := decide_eq_false c2
    clear c2
    obtain rfl := Option.some.inj H
    go_wp2
    go_ret
    exact ⟨by first | rfl | (simp; done) | (simp [*]; done), by repeat (first | exact Drawn0.refl _ | apply Drawn0.step)⟩
end Go.Proofs.Yteodlmgmmpkpoaa.PS
end
section
namespace Go.Proofs.Yteodlmgmmpkpoaa.PS
open Go.RowKit Go.Proofs.YteodlmgmmpkpoaaW.PrintWords Go.Proofs.YteodlmgmmpkpoaaW.PrintLast Go.Proofs.YteodlmgmmpkpoaaW.PrintMore
attribute [local go_sem] max2_int min2_int max_two min_two max_three min_three max_four min_four   -- for this text's walks alone
set_option linter.unusedVariables false
set_option linter.unusedSimpArgs false
def spans_value_compare.f (k : Nat) (a0_0 : Int) (a0_1 : Int) (a1_0 : Int) (a1_1 : Int) : Option (Int) := (spans_floor.f a0_0 a0_1).bind fun t133 => ((spans_floor.f a1_0 a1_1).bind fun t134 => ((cmp_Or_int.f k (([wrap64 (t133 - t134), wrap64 ((wrap64 ((wrap64 (a0_0 - (wrap64 (t133 * a0_1)))) * a1_1)) - (wrap64 ((wrap64 (a1_0 - (wrap64 (t134 * a1_1)))) * a0_1)))] : List Int))).bind fun t138 => (some t138)))
set_option maxHeartbeats 8000000 in
set_option maxRecDepth 100000 in
theorem spans_value_compare.calls (k : Nat) (a0_0 : Int) (a0_1 : Int) (a1_0 : Int) (a1_1 : Int) (r : Int) (w : World) (h : spans_value_compare.f k a0_0 a0_1 a1_0 a1_1 = some r) :
  Calls Try.prog 150 #[.agg #[.int .i64 a0_0, .int .i64 a0_1], .agg #[.int .i64 a1_0, .int .i64 a1_1]] w fun e w' => e = .returned (.int .i64 r) ∧ Below w.heap.size w w' := by
 have hu131 := Try.underlying131
 have HB := Aside0.mk (Below.refl w.heap.size w)
 have H : ((spans_floor.f a0_0 a0_1).bind fun t133 => ((spans_floor.f a1_0 a1_1).bind fun t134 => ((cmp_Or_int.f k (([wrap64 (t133 - t134), wrap64 ((wrap64 ((wrap64 (a0_0 - (wrap64 (t133 * a0_1)))) * a1_1)) - (wrap64 ((wrap64 (a1_0 - (wrap64 (t134 * a1_1)))) * a0_1)))] : List Int))).bind fun t138 => (some t138)))) = some r := h
 clear h
 replace H := Option.bind_eq_some_iff.mp H
 obtain ⟨t133, A30, H⟩ := H
 replace H : ((spans_floor.f a1_0 a1_1).bind fun t134 => ((cmp_Or_int.f k (([wrap64 (t133 - t134), wrap64 ((wrap64 ((wrap64 (a0_0 - (wrap64 (t133 * a0_1)))) * a1_1)) - (wrap64 ((wrap64 (a1_0 - (wrap64 (t134 * a1_1)))) * a0_1)))] : List Int))).bind fun t138 => (some t138))) = some r := H
 have A3 := Aside0.mk A30
 clear A30
 replace H := Option.bind_eq_some_iff.mp H
 obtain ⟨t134, A40, H⟩ := H
 replace H : ((cmp_Or_int.f k (([wrap64 (t133 - t134), wrap64 ((wrap64 ((wrap64 (a0_0 - (wrap64 (t133 * a0_1)))) * a1_1)) - (wrap64 ((wrap64 (a1_0 - (wrap64 (t134 * a1_1)))) * a0_1)))] : List Int))).bind fun t138 => (some t138)) = some r := H
 have A4 := Aside0.mk A40
 clear A40
 obtain ⟨y135, hy135⟩ : ∃ y_ : List Int, y_ = (([wrap64 (t133 - t134), wrap64 ((wrap64 ((wrap64 (a0_0 - (wrap64 (t133 * a0_1)))) * a1_1)) - (wrap64 ((wrap64 (a1_0 - (wrap64 (t134 * a1_1)))) * a0_1)))] : List Int)) := ⟨_, rfl⟩
 replace H : ((cmp_Or_int.f k y135).bind fun t138 => (some t138)) = some r := by first | (rw [hy135]; with_reducible exact H) | (have H2_ := (Option.bind_some _ _).symm.trans H; rw [hy135]; with_reducible exact H2_) | (have H2_ := (Option.bind_some _ _).symm.trans H; with_reducible exact H2_) | with_reducible exact H | (rw [hy135]; exact H) | exact H
 have Ny135 := Aside0.mk hy135
 clear hy135
 replace H := Option.bind_eq_some_iff.mp H
 obtain ⟨t138, A50, H⟩ := H
 replace H : (some t138) = some r := H
 have A5 := Aside0.mk A50
 clear A50
 obtain rfl := Option.some.inj H
 go_enter Try.func150, Try.ntmps150
 go_wp2_with (first | ((with_reducible refine gate_dst (N := 2) rfl ?_); refine box_event ?hg (N := 2) ?hd (cs := #[.int .i64 a0_0, .int .i64 a0_1]) (t := 131) ?hr ?_; (case hd => rfl); (case hg => rfl); (case hr => first | (go_simp; done) | (go_simp; rfl)); intro gb131 hg w6 hbox hb; have n0_ := Aside0.mk (below_step (bl_ HB.out) hb); have n1_ := Aside0.mk (hbox); have n2_ := Aside0.mk (szl_ hg HB.out); have n3_ := Aside0.mk (szl_ hg HB.out); clear HB; have HB := n0_; have BK131 := n1_; have GW131 := n2_; have GE131 := n3_; clear n0_ n1_ n2_ n3_ hb hbox hg) | ((with_reducible refine gate_dst (N := 3) rfl ?_); refine box_event ?hg (N := 3) ?hd (cs := #[.int .i64 a1_0, .int .i64 a1_1]) (t := 131) ?hr ?_; (case hd => rfl); (case hg => rfl); (case hr => first | (go_simp; done) | (go_simp; rfl)); intro gb132 hg w7 hbox hb; have n0_ := Aside0.mk (blk_below (bk_ BK131.out) hb); have n1_ := Aside0.mk (below_step (bl_ HB.out) hb); have n2_ := Aside0.mk (hbox); have n3_ := Aside0.mk (szl_ hg HB.out); have n4_ := Aside0.mk (szl_ hg HB.out); have n5_ := Aside0.mk (nel_ hg BK131.out); have n6_ := Aside0.mk (ner_ hg BK131.out); clear BK131 HB; have BK131 := n0_; have HB := n1_; have BK132 := n2_; have GW132 := n3_; have GE132 := n4_; have NB131_132 := n5_; have NB132_131 := n6_; clear n0_ n1_ n2_ n3_ n4_ n5_ n6_ hb hbox hg; have hnb8 := NB131_132.out; have hnc8 := NB132_131.out; have hcz9_0 : w7.cell? ⟨gb131, 0, none⟩ = some (.int .i64 a0_0) := (blk_cell BK131.out 0).trans rfl; have hcz9_1 : w7.cell? ⟨gb131, 1, none⟩ = some (.int .i64 a0_1) := (blk_cell BK131.out 1).trans rfl; have hfz9_0 := blk_frozen BK131.out 0; have hfz9_1 := blk_frozen BK131.out 1) | (go_at_call 100; (with_reducible refine (spans_floor.calls a0_0 a0_1 t133 _ A3.out).mono ?_); rintro e w' ⟨rfl, ⟨nd, rfl⟩⟩; (try first | exact ⟨rfl, _, World.drewN_drewN _ _ _⟩ | exact ⟨rfl, _, Eq.trans (World.drewN_drewN _ _ _) (congrArg (World.drewN _) (Nat.add_assoc _ _ _))⟩); have hcz10_0 : w7.cell? ⟨gb132, 0, none⟩ = some (.int .i64 a1_0) := (blk_cell BK132.out 0).trans rfl; have hcz10_1 : w7.cell? ⟨gb132, 1, none⟩ = some (.int .i64 a1_1) := (blk_cell BK132.out 1).trans rfl; have hfz10_0 := blk_frozen BK132.out 0; have hfz10_1 := blk_frozen BK132.out 1) | (go_at_call 100; (with_reducible refine (spans_floor.calls a1_0 a1_1 t134 _ A4.out).mono ?_); rintro e w' ⟨rfl, ⟨nd, rfl⟩⟩; (try first | exact ⟨rfl, _, World.drewN_drewN _ _ _⟩ | exact ⟨rfl, _, Eq.trans (World.drewN_drewN _ _ _) (congrArg (World.drewN _) (Nat.add_assoc _ _ _))⟩)) | ((with_reducible refine gate_dst (N := 41) rfl ?_); refine Kd.R_lit (Kd.int .i64) _ 3 ?hg (N := 41) ?hd (xs := ([wrap64 (t133 - t134), wrap64 ((wrap64 ((wrap64 (a0_0 - (wrap64 (t133 * a0_1)))) * a1_1)) - (wrap64 ((wrap64 (a1_0 - (wrap64 (t134 * a1_1)))) * a0_1)))] : List Int)) (inner := [.int .i64 (wrap64 (t133 - t134)), .int .i64 (wrap64 ((wrap64 ((wrap64 (a0_0 - (wrap64 (t133 * a0_1)))) * a1_1)) - (wrap64 ((wrap64 (a1_0 - (wrap64 (t134 * a1_1)))) * a0_1))))]) (ok := fun _ => True) (okp := fun _ => True) ?hr ?hp (fun _ hk => hk) trivial (Below.refl _ _) (Nat.le_refl _) (by simp) ?_; (case hd => rfl); (case hg => rfl); (case hr => first | (go_simp; done) | (go_simp; rfl)); (case hp => exact (Reps.one (show Kd.M (Kd.int .i64) _ _ _ (wrap64 (t133 - t134)) [.int .i64 (wrap64 (t133 - t134))] from rfl) (Reps.one (show Kd.M (Kd.int .i64) _ _ _ (wrap64 ((wrap64 ((wrap64 (a0_0 - (wrap64 (t133 * a0_1)))) * a1_1)) - (wrap64 ((wrap64 (a1_0 - (wrap64 (t134 * a1_1)))) * a0_1)))) [.int .i64 (wrap64 ((wrap64 ((wrap64 (a0_0 - (wrap64 (t133 * a0_1)))) * a1_1)) - (wrap64 ((wrap64 (a1_0 - (wrap64 (t134 * a1_1)))) * a0_1))))] from rfl) (Reps.none _ _)))); intro v136 w11 ho12 hb hg_ hnew_; clear hg_ hnew_; (first | rw [← Ny135.out] at ho12 | (simp only [Int.reduceToNat] at ho12; rw [← Ny135.out] at ho12)); have n0_ := Aside0.mk (Kd.R_lower ho12 (below_size (bl_ HB.out))); have n1_ := Aside0.mk (blk_below (bk_ BK131.out) hb); have n2_ := Aside0.mk (blk_below (bk_ BK132.out) hb); have n3_ := Aside0.mk (below_step (bl_ HB.out) hb); clear BK131 BK132 HB; have HO137 := n0_; have BK131 := n1_; have BK132 := n2_; have HB := n3_; clear n0_ n1_ n2_ n3_ hb ho12; obtain ⟨Ao13, co13, eo13⟩ := Kd.R_slice HO137.out; subst eo13) | (go_at_call 177; (with_reducible refine (cmp_Or_int.calls k _ _ y135 t138 _ ?side1 ?side2 A5.out).mono ?_); (case side1 => exact cr_ (Kd.R_reads' HO137.out).2.2); (case side2 => exact (Kd.R_reads' HO137.out).2.1); rintro e w' ⟨rfl, ⟨nd, rfl⟩⟩; (try first | exact ⟨rfl, _, World.drewN_drewN _ _ _⟩ | exact ⟨rfl, _, Eq.trans (World.drewN_drewN _ _ _) (congrArg (World.drewN _) (Nat.add_assoc _ _ _))⟩)))
 try have hqw0_0 := i64_w (t133 - t134)
 try have hqw0_1 := i64_w (t133 * a0_1)
 try have hqw0_2 := i64_w (t134 * a1_1)
 try have hqw0_3 := i64_w (a0_0 - (wrap64 (t133 * a0_1)))
 try have hqw0_4 := i64_w (a1_0 - (wrap64 (t134 * a1_1)))
 try have hqw0_5 := i64_w ((wrap64 (a0_0 - (wrap64 (t133 * a0_1)))) * a1_1)
 try have hqw0_6 := i64_w ((wrap64 (a1_0 - (wrap64 (t134 * a1_1)))) * a0_1)
 try have hqw0_7 := i64_w ((wrap64 ((wrap64 (a0_0 - (wrap64 (t133 * a0_1)))) * a1_1)) - (wrap64 ((wrap64 (a1_0 - (wrap64 (t134 * a1_1)))) * a0_1)))
 repeat (go_quiet (first | ((with_reducible refine gate_dst (N := 2) rfl ?_); refine box_event ?hg (N := 2) ?hd (cs := #[.int .i64 a0_0, .int .i64 a0_1]) (t := 131) ?hr ?_; (case hd => rfl); (case hg => rfl); (case hr => first | (go_simp; done) | (go_simp; rfl)); intro gb131 hg w6 hbox hb; have n0_ := Aside0.mk (below_step (bl_ HB.out) hb); have n1_ := Aside0.mk (hbox); have n2_ := Aside0.mk (szl_ hg HB.out); have n3_ := Aside0.mk (szl_ hg HB.out); clear HB; have HB := n0_; have BK131 := n1_; have GW131 := n2_; have GE131 := n3_; clear n0_ n1_ n2_ n3_ hb hbox hg) | ((with_reducible refine gate_dst (N := 3) rfl ?_); refine box_event ?hg (N := 3) ?hd (cs := #[.int .i64 a1_0, .int .i64 a1_1]) (t := 131) ?hr ?_; (case hd => rfl); (case hg => rfl); (case hr => first | (go_simp; done) | (go_simp; rfl)); intro gb132 hg w7 hbox hb; have n0_ := Aside0.mk (blk_below (bk_ BK131.out) hb); have n1_ := Aside0.mk (below_step (bl_ HB.out) hb); have n2_ := Aside0.mk (hbox); have n3_ := Aside0.mk (szl_ hg HB.out); have n4_ := Aside0.mk (szl_ hg HB.out); have n5_ := Aside0.mk (nel_ hg BK131.out); have n6_ := Aside0.mk (ner_ hg BK131.out); clear BK131 HB; have BK131 := n0_; have HB := n1_; have BK132 := n2_; have GW132 := n3_; have GE132 := n4_; have NB131_132 := n5_; have NB132_131 := n6_; clear n0_ n1_ n2_ n3_ n4_ n5_ n6_ hb hbox hg; have hnb8 := NB131_132.out; have hnc8 := NB132_131.out; have hcz9_0 : w7.cell? ⟨gb131, 0, none⟩ = some (.int .i64 a0_0) := (blk_cell BK131.out 0).trans rfl; have hcz9_1 : w7.cell? ⟨gb131, 1, none⟩ = some (.int .i64 a0_1) := (blk_cell BK131.out 1).trans rfl; have hfz9_0 := blk_frozen BK131.out 0; have hfz9_1 := blk_frozen BK131.out 1) | (go_at_call 100; (with_reducible refine (spans_floor.calls a0_0 a0_1 t133 _ A3.out).mono ?_); rintro e w' ⟨rfl, ⟨nd, rfl⟩⟩; (try first | exact ⟨rfl, _, World.drewN_drewN _ _ _⟩ | exact ⟨rfl, _, Eq.trans (World.drewN_drewN _ _ _) (congrArg (World.drewN _) (Nat.add_assoc _ _ _))⟩); have hcz10_0 : w7.cell? ⟨gb132, 0, none⟩ = some (.int .i64 a1_0) := (blk_cell BK132.out 0).trans rfl; have hcz10_1 : w7.cell? ⟨gb132, 1, none⟩ = some (.int .i64 a1_1) := (blk_cell BK132.out 1).trans rfl; have hfz10_0 := blk_frozen BK132.out 0; have hfz10_1 := blk_frozen BK132.out 1) | (go_at_call 100; (with_reducible refine (spans_floor.calls a1_0 a1_1 t134 _ A4.out).mono ?_); rintro e w' ⟨rfl, ⟨nd, rfl⟩⟩; (try first | exact ⟨rfl, _, World.drewN_drewN _ _ _⟩ | exact ⟨rfl, _, Eq.trans (World.drewN_drewN _ _ _) (congrArg (World.drewN _) (Nat.add_assoc _ _ _))⟩)) | ((with_reducible refine gate_dst (N := 41) rfl ?_); refine Kd.R_lit (Kd.int .i64) _ 3 ?hg (N := 41) ?hd (xs := ([wrap64 (t133 - t134), wrap64 ((wrap64 ((wrap64 (a0_0 - (wrap64 (t133 * a0_1)))) * a1_1)) - (wrap64 ((wrap64 (a1_0 - (wrap64 (t134 * a1_1)))) * a0_1)))] : List Int)) (inner := [.int .i64 (wrap64 (t133 - t134)), .int .i64 (wrap64 ((wrap64 ((wrap64 (a0_0 - (wrap64 (t133 * a0_1)))) * a1_1)) - (wrap64 ((wrap64 (a1_0 - (wrap64 (t134 * a1_1)))) * a0_1))))]) (ok := fun _ => True) (okp := fun _ => True) ?hr ?hp (fun _ hk => hk) trivial (Below.refl _ _) (Nat.le_refl _) (by simp) ?_; (case hd => rfl); (case hg => rfl); (case hr => first | (go_simp; done) | (go_simp; rfl)); (case hp => exact (Reps.one (show Kd.M (Kd.int .i64) _ _ _ (wrap64 (t133 - t134)) [.int .i64 (wrap64 (t133 - t134))] from rfl) (Reps.one (show Kd.M (Kd.int .i64) _ _ _ (wrap64 ((wrap64 ((wrap64 (a0_0 - (wrap64 (t133 * a0_1)))) * a1_1)) - (wrap64 ((wrap64 (a1_0 - (wrap64 (t134 * a1_1)))) * a0_1)))) [.int .i64 (wrap64 ((wrap64 ((wrap64 (a0_0 - (wrap64 (t133 * a0_1)))) * a1_1)) - (wrap64 ((wrap64 (a1_0 - (wrap64 (t134 * a1_1)))) * a0_1))))] from rfl) (Reps.none _ _)))); intro v136 w11 ho12 hb hg_ hnew_; clear hg_ hnew_; (first | rw [← Ny135.out] at ho12 | (simp only [Int.reduceToNat] at ho12; rw [← Ny135.out] at ho12)); have n0_ := Aside0.mk (Kd.R_lower ho12 (below_size (bl_ HB.out))); have n1_ := Aside0.mk (blk_below (bk_ BK131.out) hb); have n2_ := Aside0.mk (blk_below (bk_ BK132.out) hb); have n3_ := Aside0.mk (below_step (bl_ HB.out) hb); clear BK131 BK132 HB; have HO137 := n0_; have BK131 := n1_; have BK132 := n2_; have HB := n3_; clear n0_ n1_ n2_ n3_ hb ho12; obtain ⟨Ao13, co13, eo13⟩ := Kd.R_slice HO137.out; subst eo13) | (go_at_call 177; (with_reducible refine (cmp_Or_int.calls k _ _ y135 t138 _ ?side1 ?side2 A5.out).mono ?_); (case side1 => exact cr_ (Kd.R_reads' HO137.out).2.2); (case side2 => exact (Kd.R_reads' HO137.out).2.1); rintro e w' ⟨rfl, ⟨nd, rfl⟩⟩; (try first | exact ⟨rfl, _, World.drewN_drewN _ _ _⟩ | exact ⟨rfl, _, Eq.trans (World.drewN_drewN _ _ _) (congrArg (World.drewN _) (Nat.add_assoc _ _ _))⟩))); try go_wp2_with (first | ((with_reducible refine gate_dst (N := 2) rfl ?_); refine box_event ?hg (N := 2) ?hd (cs := #[.int .i64 a0_0, .int .i64 a0_1]) (t := 131) ?hr ?_; (case hd => rfl); (case hg => rfl); (case hr => first | (go_simp; done) | (go_simp; rfl)); intro gb131 hg w6 hbox hb; have n0_ := Aside0.mk (below_step (bl_ HB.out) hb); have n1_ := Aside0.mk (hbox); have n2_ := Aside0.mk (szl_ hg HB.out); have n3_ := Aside0.mk (szl_ hg HB.out); clear HB; have HB := n0_; have BK131 := n1_; have GW131 := n2_; have GE131 := n3_; clear n0_ n1_ n2_ n3_ hb hbox hg) | ((with_reducible refine gate_dst (N := 3) rfl ?_); refine box_event ?hg (N := 3) ?hd (cs := #[.int .i64 a1_0, .int .i64 a1_1]) (t := 131) ?hr ?_; (case hd => rfl); (case hg => rfl); (case hr => first | (go_simp; done) | (go_simp; rfl)); intro gb132 hg w7 hbox hb; have n0_ := Aside0.mk (blk_below (bk_ BK131.out) hb); have n1_ := Aside0.mk (below_step (bl_ HB.out) hb); have n2_ := Aside0.mk (hbox); have n3_ := Aside0.mk (szl_ hg HB.out); have n4_ := Aside0.mk (szl_ hg HB.out); have n5_ := Aside0.mk (nel_ hg BK131.out); have n6_ := Aside0.mk (ner_ hg BK131.out); clear BK131 HB; have BK131 := n0_; have HB := n1_; have BK132 := n2_; have GW132 := n3_; have GE132 := n4_; have NB131_132 := n5_; have NB132_131 := n6_; clear n0_ n1_ n2_ n3_ n4_ n5_ n6_ hb hbox hg; have hnb8 := NB131_132.out; have hnc8 := NB132_131.out; have hcz9_0 : w7.cell? ⟨gb131, 0, none⟩ = some (.int .i64 a0_0) := (blk_cell BK131.out 0).trans rfl; have hcz9_1 : w7.cell? ⟨gb131, 1, none⟩ = some (.int .i64 a0_1) := (blk_cell BK131.out 1).trans rfl; have hfz9_0 := blk_frozen BK131.out 0; have hfz9_1 := blk_frozen BK131.out 1) | (go_at_call 100; (with_reducible refine (spans_floor.calls a0_0 a0_1 t133 _ A3.out).mono ?_); rintro e w' ⟨rfl, ⟨nd, rfl⟩⟩; (try first | exact ⟨rfl, _, World.drewN_drewN _ _ _⟩ | exact ⟨rfl, _, Eq.trans (World.drewN_drewN _ _ _) (congrArg (World.drewN _) (Nat.add_assoc _ _ _))⟩); have hcz10_0 : w7.cell? ⟨gb132, 0, none⟩ = some (.int .i64 a1_0) := (blk_cell BK132.out 0).trans rfl; have hcz10_1 : w7.cell? ⟨gb132, 1, none⟩ = some (.int .i64 a1_1) := (blk_cell BK132.out 1).trans rfl; have hfz10_0 := blk_frozen BK132.out 0; have hfz10_1 := blk_frozen BK132.out 1) | (go_at_call 100; (with_reducible refine (spans_floor.calls a1_0 a1_1 t134 _ A4.out).mono ?_); rintro e w' ⟨rfl, ⟨nd, rfl⟩⟩; (try first | exact ⟨rfl, _, World.drewN_drewN _ _ _⟩ | exact ⟨rfl, _, Eq.trans (World.drewN_drewN _ _ _) (congrArg (World.drewN _) (Nat.add_assoc _ _ _))⟩)) | ((with_reducible refine gate_dst (N := 41) rfl ?_); refine Kd.R_lit (Kd.int .i64) _ 3 ?hg (N := 41) ?hd (xs := ([wrap64 (t133 - t134), wrap64 ((wrap64 ((wrap64 (a0_0 - (wrap64 (t133 * a0_1)))) * a1_1)) - (wrap64 ((wrap64 (a1_0 - (wrap64 (t134 * a1_1)))) * a0_1)))] : List Int)) (inner := [.int .i64 (wrap64 (t133 - t134)), .int .i64 (wrap64 ((wrap64 ((wrap64 (a0_0 - (wrap64 (t133 * a0_1)))) * a1_1)) - (wrap64 ((wrap64 (a1_0 - (wrap64 (t134 * a1_1)))) * a0_1))))]) (ok := fun _ => True) (okp := fun _ => True) ?hr ?hp (fun _ hk => hk) trivial (Below.refl _ _) (Nat.le_refl _) (by simp) ?_; (case hd => rfl); (case hg => rfl); (case hr => first | (go_simp; done) | (go_simp; rfl)); (case hp => exact (Reps.one (show Kd.M (Kd.int .i64) _ _ _ (wrap64 (t133 - t134)) [.int .i64 (wrap64 (t133 - t134))] from rfl) (Reps.one (show Kd.M (Kd.int .i64) _ _ _ (wrap64 ((wrap64 ((wrap64 (a0_0 - (wrap64 (t133 * a0_1)))) * a1_1)) - (wrap64 ((wrap64 (a1_0 - (wrap64 (t134 * a1_1)))) * a0_1)))) [.int .i64 (wrap64 ((wrap64 ((wrap64 (a0_0 - (wrap64 (t133 * a0_1)))) * a1_1)) - (wrap64 ((wrap64 (a1_0 - (wrap64 (t134 * a1_1)))) * a0_1))))] from rfl) (Reps.none _ _)))); intro v136 w11 ho12 hb hg_ hnew_; clear hg_ hnew_; (first | rw [← Ny135.out] at ho12 | (simp only [Int.reduceToNat] at ho12; rw [← Ny135.out] at ho12)); have n0_ := Aside0.mk (Kd.R_lower ho12 (below_size (bl_ HB.out))); have n1_ := Aside0.mk (blk_below (bk_ BK131.out) hb); have n2_ := Aside0.mk (blk_below (bk_ BK132.out) hb); have n3_ := Aside0.mk (below_step (bl_ HB.out) hb); clear BK131 BK132 HB; have HO137 := n0_; have BK131 := n1_; have BK132 := n2_; have HB := n3_; clear n0_ n1_ n2_ n3_ hb ho12; obtain ⟨Ao13, co13, eo13⟩ := Kd.R_slice HO137.out; subst eo13) | (go_at_call 177; (with_reducible refine (cmp_Or_int.calls k _ _ y135 t138 _ ?side1 ?side2 A5.out).mono ?_); (case side1 => exact cr_ (Kd.R_reads' HO137.out).2.2); (case side2 => exact (Kd.R_reads' HO137.out).2.1); rintro e w' ⟨rfl, ⟨nd, rfl⟩⟩; (try first | exact ⟨rfl, _, World.drewN_drewN _ _ _⟩ | exact ⟨rfl, _, Eq.trans (World.drewN_drewN _ _ _) (congrArg (World.drewN _) (Nat.add_assoc _ _ _))⟩))))
 go_ret
 exact ⟨by first | rfl | (simp [errW_none, errW_some] <;> rfl) | (simp [*, errW_none, errW_some] <;> rfl), bl_ HB.out⟩
end Go.Proofs.Yteodlmgmmpkpoaa.PS
end
section
namespace Go.Proofs.Yteodlmgmmpkpoaa.PS
open Go.RowKit Go.Proofs.YteodlmgmmpkpoaaW.PrintWords Go.Proofs.YteodlmgmmpkpoaaW.PrintLast Go.Proofs.YteodlmgmmpkpoaaW.PrintMore
attribute [local go_sem] max2_int min2_int max_two min_two max_three min_three max_four min_four   -- for this text's walks alone
set_option linter.unusedVariables false
set_option linter.unusedSimpArgs false
def spans_value_up.f (a0_0 : Int) (a0_1 : Int) : Option (Int) := (spans_ceil.f a0_0 a0_1).bind fun t141 => (some t141)
set_option maxHeartbeats 8000000 in
set_option maxRecDepth 100000 in
theorem spans_value_up.calls (a0_0 : Int) (a0_1 : Int) (r : Int) (w : World) (h : spans_value_up.f a0_0 a0_1 = some r) :
  Calls Try.prog 90 #[.agg #[.int .i64 a0_0, .int .i64 a0_1]] w fun e w' => e = .returned (.int .i64 r) ∧ Below w.heap.size w w' := by
 have hu131 := Try.underlying131
 have HB := Aside0.mk (Below.refl w.heap.size w)
 have H : ((spans_ceil.f a0_0 a0_1).bind fun t141 => (some t141)) = some r := h
 clear h
 replace H := Option.bind_eq_some_iff.mp H
 obtain ⟨t141, A20, H⟩ := H
 replace H : (some t141) = some r := H
 have A2 := Aside0.mk A20
 clear A20
 obtain rfl := Option.some.inj H
 go_enter Try.func90, Try.ntmps90
 go_wp2_with (first | ((with_reducible refine gate_dst (N := 1) rfl ?_); refine box_event ?hg (N := 1) ?hd (cs := #[.int .i64 a0_0, .int .i64 a0_1]) (t := 131) ?hr ?_; (case hd => rfl); (case hg => rfl); (case hr => first | (go_simp; done) | (go_simp; rfl)); intro gb140 hg w3 hbox hb; have n0_ := Aside0.mk (below_step (bl_ HB.out) hb); have n1_ := Aside0.mk (hbox); have n2_ := Aside0.mk (szl_ hg HB.out); have n3_ := Aside0.mk (szl_ hg HB.out); clear HB; have HB := n0_; have BK140 := n1_; have GW140 := n2_; have GE140 := n3_; clear n0_ n1_ n2_ n3_ hb hbox hg; have hcz4_0 : w3.cell? ⟨gb140, 0, none⟩ = some (.int .i64 a0_0) := (blk_cell BK140.out 0).trans rfl; have hcz4_1 : w3.cell? ⟨gb140, 1, none⟩ = some (.int .i64 a0_1) := (blk_cell BK140.out 1).trans rfl; have hfz4_0 := blk_frozen BK140.out 0; have hfz4_1 := blk_frozen BK140.out 1) | ((with_reducible refine gate_callee (f := 106) rfl ?_); refine goesL_ (some 7) rfl rfl Try.func106 (by kernel_rfl) rfl #[.int .i64 a0_0, .int .i64 a0_1] rfl (by (try simp only [List.map_toArray, List.map_cons, List.map_nil]); first | done | rfl | (simp only [List.length_drop, List.length_take]; rfl)) ?_; (with_reducible refine (spans_ceil.calls a0_0 a0_1 t141 _ A2.out).mono ?_); rintro e w' ⟨rfl, ⟨nd, rfl⟩⟩; refine ⟨_, rfl, ?_⟩))
 go_ret
 exact ⟨by first | rfl | (simp [errW_none, errW_some] <;> rfl) | (simp [*, errW_none, errW_some] <;> rfl), bl_ HB.out⟩
end Go.Proofs.Yteodlmgmmpkpoaa.PS
end
section
namespace Go.Proofs.Yteodlmgmmpkpoaa.PS
open Go.RowKit Go.Proofs.YteodlmgmmpkpoaaW.PrintWords Go.Proofs.YteodlmgmmpkpoaaW.PrintLast Go.Proofs.YteodlmgmmpkpoaaW.PrintMore
set_option linter.unusedVariables false
theorem ediv_bd {a b B : Int} (hb : 0 < b) (h0 : -B ≤ a) (h1 : a ≤ B) (hB : 0 ≤ B) : -B ≤ a / b ∧ a / b ≤ B := by
  constructor
  · rw [Int.le_ediv_iff_mul_le hb]
    have : -B * b ≤ -B * 1 := Int.mul_le_mul_of_nonpos_left (by omega) (by omega)
    omega
  · have : a / b < B + 1 := by
      rw [Int.ediv_lt_iff_lt_mul hb]
      have : (B + 1) * 1 ≤ (B + 1) * b := Int.mul_le_mul_of_nonneg_left (by omega) (by omega)
      omega
    omega
theorem floor_total (a b : Int) (hb : 0 < b) (h0 : -4000000000000000000 ≤ a) (h1 : a ≤ 4000000000000000000) : spans_floor.f a b = some (a / b) := by
  unfold spans_floor.f
  have hq := ediv_bd hb h0 h1 (by decide)
  rw [if_neg (by omega), Int.tmod_eq_emod, Int.tdiv_eq_ediv]
  have hm0 := Int.emod_nonneg a (show b ≠ 0 by omega)
  have hm1 := Int.emod_lt_of_pos a hb
  by_cases hd : 0 ≤ a ∨ b ∣ a
  · rw [if_pos hd, if_pos hd, if_neg (by omega), Int.add_zero, wr64 (by omega) (by omega)]
  · rw [if_neg hd, if_neg hd, if_pos (by omega), Int.sign_eq_one_of_pos hb, show wrap64 (a / b + 1) = a / b + 1 from wr64 (by omega) (by omega), Int.add_sub_cancel, wr64 (by omega) (by omega)]
theorem ceil_total (a b : Int) (hb : 0 < b) (h0 : -4000000000000000000 ≤ a) (h1 : a ≤ 4000000000000000000) : spans_ceil.f a b = some (-((-a) / b)) := by
  unfold spans_ceil.f
  rw [wr64 (by omega) (by omega), floor_total _ _ hb (by omega) (by omega), Option.bind_some]
  have hq := ediv_bd (a := -a) hb (B := 4000000000000000000) (by omega) (by omega) (by decide)
  rw [wr64 (by omega) (by omega)]
theorem up_total (a b : Int) (hb : 0 < b) (h0 : -4000000000000000000 ≤ a) (h1 : a ≤ 4000000000000000000) : spans_value_up.f a b = some (-((-a) / b)) := by
  unfold spans_value_up.f
  rw [ceil_total _ _ hb h0 h1]
  rfl
theorem stops_loop (l : List Int) (hl : l.length ≤ 12) (lo hi : Int) : ∀ (d k i : Nat) (acc : List Int), l.length - i = d → i ≤ l.length → d < k → acc.length ≤ 1 + i →
    spans_stops.l0 k acc l l.length i lo hi = some ((acc ++ (l.drop i).filter (fun x => decide (lo < x) && decide (x < hi))) ++ (if lo < hi then [hi] else []))
  | d, k, i, acc, hd, hi', hk, ha => by
    obtain ⟨k, rfl⟩ : ∃ m, k = m + 1 := ⟨k - 1, by omega⟩
    simp only [spans_stops.l0]
    by_cases hlt : i < l.length
    · obtain ⟨d, rfl⟩ : ∃ m, d = m + 1 := ⟨d - 1, by omega⟩
      rw [if_pos (by omega), if_pos (by omega), if_pos (by omega), rd_nat, drop_step l i hlt, List.filter_cons]
      have e1 : wrap64 ((i : Int) + 1) = ((i + 1 : Nat) : Int) := by rw [wr64 (by omega) (by omega)]; rfl
      rw [e1]
      by_cases h1 : gI l i > lo
      · rw [if_pos h1]
        by_cases h2 : gI l i < hi
        · rw [if_pos h2, if_pos (by omega)]
          rw [stops_loop l hl lo hi d k (i + 1) _ (by omega) (by omega) (by omega) (by simp; omega)]
          simp [h1, h2]
        · rw [if_neg h2]
          rw [stops_loop l hl lo hi d k (i + 1) _ (by omega) (by omega) (by omega) (by omega)]
          simp [h2]
      · rw [if_neg h1]
        rw [stops_loop l hl lo hi d k (i + 1) _ (by omega) (by omega) (by omega) (by omega)]
        have : ¬ lo < gI l i := by omega
        simp [this]
    · rw [if_neg (by omega), List.drop_of_length_le (by omega)]
      by_cases h1 : hi > lo
      · rw [if_pos h1, if_pos (by omega), if_pos (by omega)]; simp
      · rw [if_neg h1, if_neg (by omega)]; simp
theorem stops_total (l : List Int) (hl : l.length ≤ 12) (lo hi : Int) (k : Nat) (hk : 12 < k) : spans_stops.f k l lo hi = some (stopsL l lo hi) := by
  unfold spans_stops.f stopsL
  have := stops_loop l hl lo hi (l.length - 0) k 0 [lo] rfl (Nat.zero_le _) (by omega) (by simp)
  rw [show ((0 : Nat) : Int) = 0 from rfl] at this
  rw [this, List.drop_zero]
  rfl
def GoodP (p : Pt) : Prop := 0 < p.d ∧ p.d ≤ 100000000 ∧ -(1000000 * p.d) ≤ p.n ∧ p.n ≤ 1000000 * p.d
theorem good_floor {p : Pt} (h : GoodP p) : -1000000 ≤ p.n / p.d ∧ p.n / p.d ≤ 1000000 ∧ 0 ≤ p.n - p.n / p.d * p.d ∧ p.n - p.n / p.d * p.d < p.d := by
  obtain ⟨h1, h2, h3, h4⟩ := h
  have e := Int.mul_ediv_add_emod p.n p.d
  have hm0 := Int.emod_nonneg p.n (show p.d ≠ 0 by omega)
  have hm1 := Int.emod_lt_of_pos p.n h1
  have e2 : p.n / p.d * p.d = p.d * (p.n / p.d) := Int.mul_comm _ _
  refine ⟨?_, ?_, by omega, by omega⟩
  · rw [Int.le_ediv_iff_mul_le h1]; omega
  · have : p.n / p.d < 1000000 + 1 := by rw [Int.ediv_lt_iff_lt_mul h1]; omega
    omega
theorem frac_lt {p q : Pt} (hp : GoodP p) (hq : GoodP q) :
    (p.n / p.d < q.n / q.d → p.n * q.d < q.n * p.d) ∧ (p.n / p.d = q.n / q.d → (p.n * q.d < q.n * p.d ↔ (p.n - p.n / p.d * p.d) * q.d < (q.n - q.n / q.d * q.d) * p.d)) := by
  obtain ⟨p1, p2, p3, p4⟩ := good_floor hp
  obtain ⟨q1, q2, q3, q4⟩ := good_floor hq
  have hpd := hp.1
  have hqd := hq.1
  constructor
  · intro h
    generalize p.n / p.d = a at *
    generalize q.n / q.d = b at *
    have e1 : p.n < (a + 1) * p.d := by rw [Int.add_mul, Int.one_mul]; omega
    have e2 : (a + 1) * p.d ≤ b * p.d := Int.mul_le_mul_of_nonneg_right (by omega) (by omega)
    have e3 : p.n * q.d < b * p.d * q.d := Int.mul_lt_mul_of_pos_right (by omega) hqd
    have e4 : b * q.d * p.d ≤ q.n * p.d := Int.mul_le_mul_of_nonneg_right (by omega) (by omega)
    have e5 : b * p.d * q.d = b * q.d * p.d := by grind
    omega
  · intro h
    rw [← h]
    generalize p.n / p.d = a at *
    have e1 : (p.n - a * p.d) * q.d = p.n * q.d - a * p.d * q.d := Int.sub_mul _ _ _
    have e2 : (q.n - a * q.d) * p.d = q.n * p.d - a * q.d * p.d := Int.sub_mul _ _ _
    have e3 : a * p.d * q.d = a * q.d * p.d := by grind
    omega
theorem or_total (a b : Int) (k : Nat) (hk : 3 ≤ k) : cmp_Or_int.f k [a, b] = some (if a = 0 then b else a) := by
  obtain ⟨k, rfl⟩ : ∃ m, k = m + 3 := ⟨k - 3, by omega⟩
  unfold cmp_Or_int.f
  have e0 : rd [a, b] 0 = a := rfl
  have e1 : rd [a, b] 1 = b := rfl
  have w0 : wrap64 (0 + 1) = 1 := by rw [wr64 (by omega) (by omega)]; rfl
  have w1 : wrap64 (1 + 1) = 2 := by rw [wr64 (by omega) (by omega)]; rfl
  rw [show (([a, b] : List Int).length : Int) = 2 from rfl]
  simp only [cmp_Or_int.l0]
  rw [if_pos (by omega), if_pos (by omega), if_pos (by simp), e0, w0]
  by_cases ha : a = 0
  · rw [if_pos ha, if_pos (by omega), if_pos (by omega), if_pos (by simp), e1, w1, if_pos ha]
    by_cases hb : b = 0
    · rw [if_pos hb, if_neg (by omega), hb]
    · rw [if_neg hb]
  · rw [if_neg ha, if_neg ha]
theorem compare_total {p q : Pt} (hp : GoodP p) (hq : GoodP q) (k : Nat) (hk : 3 ≤ k) :
    ∃ c, spans_value_compare.f k p.n p.d q.n q.d = some c ∧ (c < 0 ↔ p.n * q.d < q.n * p.d) ∧ (c > 0 ↔ q.n * p.d < p.n * q.d) := by
  obtain ⟨p1, p2, p3, p4⟩ := good_floor hp
  obtain ⟨q1, q2, q3, q4⟩ := good_floor hq
  obtain ⟨l1, l2⟩ := frac_lt hp hq
  obtain ⟨m1, m2⟩ := frac_lt hq hp
  obtain ⟨hpd, hpd1, hp3, hp4⟩ := hp
  obtain ⟨hqd, hqd1, hq3, hq4⟩ := hq
  unfold spans_value_compare.f
  rw [floor_total _ _ hpd (by omega) (by omega), Option.bind_some, floor_total _ _ hqd (by omega) (by omega), Option.bind_some]
  have b1 := mul_bd (a := p.n - p.n / p.d * p.d) (b := q.d) p3 (show _ ≤ 100000000 by omega) (by omega) hqd1
  have b2 := mul_bd (a := q.n - q.n / q.d * q.d) (b := p.d) q3 (show _ ≤ 100000000 by omega) (by omega) hpd1
  have b3 : -(1000001 * 100000000) ≤ p.n / p.d * p.d ∧ p.n / p.d * p.d ≤ 1000001 * 100000000 := by omega
  have b4 : -(1000001 * 100000000) ≤ q.n / q.d * q.d ∧ q.n / q.d * q.d ≤ 1000001 * 100000000 := by omega
  rw [show wrap64 (p.n / p.d * p.d) = p.n / p.d * p.d from wr64 (by omega) (by omega), show wrap64 (q.n / q.d * q.d) = q.n / q.d * q.d from wr64 (by omega) (by omega),
    show wrap64 (p.n - p.n / p.d * p.d) = p.n - p.n / p.d * p.d from wr64 (by omega) (by omega), show wrap64 (q.n - q.n / q.d * q.d) = q.n - q.n / q.d * q.d from wr64 (by omega) (by omega),
    show wrap64 ((p.n - p.n / p.d * p.d) * q.d) = (p.n - p.n / p.d * p.d) * q.d from wr64 (by omega) (by omega), show wrap64 ((q.n - q.n / q.d * q.d) * p.d) = (q.n - q.n / q.d * q.d) * p.d from wr64 (by omega) (by omega),
    show wrap64 (p.n / p.d - q.n / q.d) = p.n / p.d - q.n / q.d from wr64 (by omega) (by omega), wr64 (by omega) (by omega), or_total _ _ _ hk, Option.bind_some]
  refine ⟨_, rfl, ?_⟩
  by_cases he : p.n / p.d = q.n / q.d
  · rw [if_pos (by omega)]
    have n1 := l2 he
    have n2 := m2 he.symm
    omega
  · rw [if_neg (by omega)]
    rcases Int.lt_or_gt_of_ne he with h | h
    · have := l1 h; omega
    · have := m1 h; omega
end Go.Proofs.Yteodlmgmmpkpoaa.PS
end
section
namespace Go.Proofs.Yteodlmgmmpkpoaa.PS
open Go.RowKit Go.Proofs.YteodlmgmmpkpoaaW.PrintWords Go.Proofs.YteodlmgmmpkpoaaW.PrintLast Go.Proofs.YteodlmgmmpkpoaaW.PrintMore
set_option linter.unusedVariables false
theorem good_pt {X Y : List Int} {V : List (List Int)} (t : Tb X Y V) {i k : Nat} {x y : Int} (sx : Spot X x i) (sy : Spot Y y k) : GoodP ⟨x, y, numAt X Y V i k x y, denAt X Y i k⟩ := by
  have q := quad_of t sx sy
  have v00 := t.val i k (by have := sx.lt; omega) (by have := sy.lt; omega)
  have v10 := t.val (i + 1) k sx.lt (by have := sy.lt; omega)
  have v01 := t.val i (k + 1) (by have := sx.lt; omega) sy.lt
  have v11 := t.val (i + 1) (k + 1) sx.lt sy.lt
  have e0 := q.e0; have e1 := q.e1; have f0 := q.f0; have f1 := q.f1
  have hd := mul_bd (a := gI X (i + 1) - gI X i) (b := gI Y (k + 1) - gI Y k) (by omega) e1 (by omega) f1
  have hd0 : 1 * 1 ≤ (gI X (i + 1) - gI X i) * (gI Y (k + 1) - gI Y k) := Int.mul_le_mul e0 f0 (by omega) (by omega)
  unfold GoodP numAt denAt
  dsimp only
  have m00 := mul_bd2 (Int.mul_nonneg q.a0 q.c0) (Int.le_refl _) v00.1 v00.2 (by decide)
  have m10 := mul_bd2 (Int.mul_nonneg q.b0 q.c0) (Int.le_refl _) v10.1 v10.2 (by decide)
  have m01 := mul_bd2 (Int.mul_nonneg q.a0 q.d0) (Int.le_refl _) v01.1 v01.2 (by decide)
  have m11 := mul_bd2 (Int.mul_nonneg q.b0 q.d0) (Int.le_refl _) v11.1 v11.2 (by decide)
  have hsum : (gI X (i + 1) - x) * (gI Y (k + 1) - y) + (x - gI X i) * (gI Y (k + 1) - y) + (gI X (i + 1) - x) * (y - gI Y k) + (x - gI X i) * (y - gI Y k) = (gI X (i + 1) - gI X i) * (gI Y (k + 1) - gI Y k) := by grind
  refine ⟨by omega, by omega, by omega, by omega⟩
theorem stops_on {l : List Int} {lo hi : Int} (h : onB l lo hi = true) (hle : lo ≤ hi) {x : Int} (hx : x ∈ stopsL l lo hi) : onB l x x = true ∧ lo ≤ x ∧ x ≤ hi := by
  rw [onB_iff] at h ⊢
  unfold stopsL at hx
  simp only [List.cons_append, List.mem_cons, List.mem_append, List.mem_filter, Bool.and_eq_true, decide_eq_true_eq] at hx
  rcases hx with rfl | ⟨_, h1, h2⟩ | h3
  · omega
  · omega
  · by_cases hlt : lo < hi
    · rw [if_pos hlt] at h3; simp at h3; omega
    · rw [if_neg hlt] at h3; simp at h3
theorem stops_pos (l : List Int) (lo hi : Int) : 0 < (stopsL l lo hi).length := by unfold stopsL; simp
theorem stops_len {l : List Int} (h : l.length ≤ 12) (lo hi : Int) : (stopsL l lo hi).length ≤ 14 := by
  unfold stopsL
  have := List.length_filter_le (fun x => decide (lo < x) && decide (x < hi)) l
  simp only [List.length_append, List.length_cons]
  by_cases hlt : lo < hi
  · rw [if_pos hlt]; simp only [List.length_cons, List.length_nil]; omega
  · rw [if_neg hlt]; simp only [List.length_nil]; omega
theorem gI_mem (l : List Int) (i : Nat) (h : i < l.length) : gI l i ∈ l := getD_mem l 0 i h
theorem okS_le {lo hi : Int} (h : okS lo hi = true) : lo ≤ hi := by
  unfold okS at h
  simp only [Bool.and_eq_true, decide_eq_true_eq] at h
  omega
end Go.Proofs.Yteodlmgmmpkpoaa.PS
end
section
namespace Go.Proofs.Yteodlmgmmpkpoaa.PS
open Go.RowKit Go.Shelf Go.Proofs.YteodlmgmmpkpoaaW.PrintWords Go.Proofs.YteodlmgmmpkpoaaW.PrintLast Go.Proofs.YteodlmgmmpkpoaaW.PrintMore
set_option linter.unusedVariables false
set_option linter.unusedSimpArgs false
attribute [local go_sem] Oper.semAt_some
def KpS (n : Nat) (S : Nat → Prop) (W W' : World) : Prop := Below n W W' ∧ ∀ k c t f, W.heap[k]? = some (.cells c t f) → ¬ S k → W'.heap[k]? = some (.cells c t f)
theorem KpS.cell {n : Nat} {S : Nat → Prop} {W W' : World} (h : KpS n S W W') {p : Addr} {v : Value} (hc : W.cell? p = some v) (hp : ¬ S p.block) : W'.cell? p = some v := by
  unfold World.cell? at hc ⊢
  cases ho : W.heap[p.block]? with
  | none => simp [ho] at hc
  | some o =>
    cases o with
    | cells c t f => rw [h.2 _ _ _ _ ho hp]; rw [ho] at hc; exact hc
    | _ => simp [ho] at hc
theorem blk_add (a : Addr) (i : Nat) : (a.add i).block = a.block := by unfold Addr.add; split <;> rfl
theorem KpS.trans {n : Nat} {S : Nat → Prop} {A B C : World} (h : KpS n S A B) (k : KpS n S B C) : KpS n S A C :=
  ⟨h.1.trans k.1, fun i c t f hi hs => k.2 i c t f (h.2 i c t f hi hs) hs⟩
theorem KpS.refl (n : Nat) (S : Nat → Prop) (W : World) : KpS n S W W := ⟨Below.refl _ _, fun _ _ _ _ h _ => h⟩
theorem KpS.put {n : Nat} {S : Nat → Prop} {w : World} (hn : n ≤ w.heap.size) (W : World) (l : Nat) (o o' : Obj) (hl : w.heap.size ≤ l) (h : W.heap[l]? = some o) (hc : o.isCells = false) (hw : o.isWalk = false) : KpS n S W (W.putObj l o') :=
  ⟨belowK_b hn W l o o' hl h hc hw, fun k c t f hk _ => by
    refine ((grownBy_putObj' W l o').block k (Array.getElem?_eq_some_iff.1 hk).1 (fun e => ?_)).trans hk
    cases e
    rw [h] at hk
    cases hk
    simp [Obj.isCells] at hc⟩
theorem KpS.of_below {n : Nat} {S : Nat → Prop} {W W' : World} (hn : n ≤ W.heap.size) (h : Below W.heap.size W W') : KpS n S W W' :=
  ⟨h.mono hn, fun k c t f hk _ => (h.block k (Array.getElem?_eq_some_iff.1 hk).1).trans hk⟩
theorem grown_of_below {W W' : World} (h : Below W.heap.size W W') : W.grownBy W' none := ⟨h.os, h.tape, h.output, h.size, fun k hk _ => h.block k hk⟩
abbrev GP := { p : Pt // GoodP p }
def encP (p : GP) : Array Value := #[.agg #[.int .i64 p.1.x, .int .i64 p.1.y, .int .i64 p.1.n, .int .i64 p.1.d]]
open Classical in
noncomputable def fG (X Y : List Int) (V : List (List Int)) (x y : Int) : GP := if h : GoodP (ptAt X Y V x y) then ⟨_, h⟩ else ⟨⟨0, 0, 0, 1⟩, by unfold GoodP; decide⟩
theorem fG_val {X Y : List Int} {V : List (List Int)} (t : Tb X Y V) {x y : Int} (hx : onB X x x = true) (hy : onB Y y y = true) : (fG X Y V x y).1 = ptAt X Y V x y := by
  have h : GoodP (ptAt X Y V x y) := good_pt t (cell_spot t.ax hx) (cell_spot t.ay hy)
  unfold fG
  rw [dif_pos h]
noncomputable def gridG (xs ys : List Int) (f : Int → Int → GP) : List GP := xs.flatMap fun x => ys.map fun y => f x y
theorem gridG_snoc (xs ys : List Int) (f : Int → Int → GP) (i : Nat) (hi : i < xs.length) : gridG (xs.take (i + 1)) ys f = gridG (xs.take i) ys f ++ ys.map (f (gI xs i)) := by
  unfold gridG gI
  rw [List.take_succ_eq_append_getElem hi, List.flatMap_append]
  simp [List.getD_eq_getElem?_getD, List.getElem?_eq_getElem hi]
theorem map_snoc (ys : List Int) (f : Int → GP) (j : Nat) (hj : j < ys.length) : (ys.take (j + 1)).map f = (ys.take j).map f ++ [f (gI ys j)] := by
  unfold gI
  rw [List.take_succ_eq_append_getElem hj, List.map_append]
  simp only [List.getD_eq_getElem?_getD, List.getElem?_eq_getElem hj, Option.getD_some, List.map_cons, List.map_nil]
theorem grid_len (xs ys : List Int) (f : Int → Int → GP) (i j : Nat) (g : Int → GP) (hi : i < xs.length) (hj : j < ys.length) : (gridG (xs.take i) ys f ++ (ys.take j).map g).length < xs.length * ys.length := by
  have h1 : ∀ l : List Int, (gridG l ys f).length = l.length * ys.length := by
    intro l
    induction l with
    | nil => simp [gridG]
    | cons a l ih =>
      rw [show gridG (a :: l) ys f = ys.map (fun y => f a y) ++ gridG l ys f from rfl, List.length_append, ih, List.length_map, List.length_cons, Nat.succ_mul, Nat.add_comm]
  rw [List.length_append, h1, List.length_map, List.length_take, List.length_take, Nat.min_eq_left (by omega), Nat.min_eq_left (by omega)]
  have h2 : (i + 1) * ys.length ≤ xs.length * ys.length := Nat.mul_le_mul_right _ hi
  rw [Nat.succ_mul] at h2
  omega
theorem grid_prefix (xs ys : List Int) (f : Int → Int → GP) (i j : Nat) (hi : i < xs.length) (hj : j < ys.length) : gridG (xs.take i) ys f ++ (ys.take j).map (f (gI xs i)) ++ [f (gI xs i) (gI ys j)] <+: gridG xs ys f := by
  rw [List.append_assoc, ← map_snoc _ _ _ hj]
  have h1 : gridG xs ys f = gridG (xs.take (i + 1)) ys f ++ gridG (xs.drop (i + 1)) ys f := by
    unfold gridG; rw [← List.flatMap_append, List.take_append_drop]
  rw [h1, gridG_snoc _ _ _ _ hi, List.append_assoc]
  have h2 : ys.map (f (gI xs i)) = (ys.take (j + 1)).map (f (gI xs i)) ++ (ys.drop (j + 1)).map (f (gI xs i)) := by rw [← List.map_append, List.take_append_drop]
  exact ⟨(ys.drop (j + 1)).map (f (gI xs i)) ++ gridG (xs.drop (i + 1)) ys f, by rw [h2]; simp only [List.append_assoc]⟩
set_option maxRecDepth 100000 in
set_option maxHeartbeats 4000000 in
theorem corners1_in (n : Nat) (hn : 1 ≤ n) (l tb xb yb : Nat) (S : Nat → Prop) (A0 : Option Addr) (c0 : Nat) (A1 : Option Addr) (c1 : Nat) (A2 : Option Addr) (c2 : Nat) (X Y : List Int) (V : List (List Int)) (a0 a1 b0 b1 : Int)
    (ht : tableB X Y V = true) (hxon : onB X a0 a1 = true) (hyon : onB Y b0 b1 = true) (hxle : a0 ≤ a1) (hyle : b0 ≤ b1) (w0 : World)
    (hr0 : Kd.C (Kd.int .i64) w0 A0 X.length X) (hc0 : X.length ≤ c0) (hr1 : Kd.C (Kd.int .i64) w0 A1 Y.length Y) (hc1 : Y.length ≤ c1) (hr2 : Kd.C (Kd.slice 3 (Kd.int .i64)) w0 A2 V.length V) (hc2 : V.length ≤ c2)
    (J Jx : List GP → World → Prop)
    (hY : ∀ pre x W, J pre W → pre.length < ((stopsL X a0 a1).length * (stopsL Y b0 b1).length) → YieldAt Fence.wide (n - 1) Try.prog l (encP x) W fun e W' =>
      (e = .returned (.bool true) ∧ J (pre ++ [x]) W' ∧ KpS w0.heap.size S W W') ∨ (e = .returned (.bool false) ∧ Jx (pre ++ [x]) W'))
    (W : World) (hJ : AbidesFrom W.heap.size J) (hb : Below w0.heap.size w0 W)
    (bT : W.heap[tb]? = some (.cells #[.slice A0 X.length c0, .slice A1 Y.length c1, .slice A2 V.length c2] 25 (0, 0))) (bX : W.heap[xb]? = some (.cells #[.int .i64 a0, .int .i64 a1] 27 (0, 0))) (bY : W.heap[yb]? = some (.cells #[.int .i64 b0, .int .i64 b1] 27 (0, 0)))
    (sT : ¬ S tb) (sX : ¬ S xb) (sY : ¬ S yb) (hS : ∀ k, S k → k < W.heap.size) (hJ0 : J [] W) :
    CallsIn Fence.wide n Try.prog 170 #[.func (.yield l) #[] #[], .pointer (some ⟨tb, 0, none⟩), .pointer (some ⟨xb, 0, none⟩), .pointer (some ⟨yb, 0, none⟩)] W fun e W' => (∃ v, e = .returned v) ∧
      ((∃ ys, ys = gridG (stopsL X a0 a1) (stopsL Y b0 b1) (fG X Y V) ∧ J ys W') ∨ (∃ pre, pre <+: gridG (stopsL X a0 a1) (stopsL Y b0 b1) (fG X Y V) ∧ Jx pre W')) := by
  have t := tb_of ht
  have HTB := Aside0.mk ht
  clear ht
  have hsx := stops_total X t.ax.most a0 a1 13 (by omega)
  have hsy := stops_total Y t.ay.most b0 b1 13 (by omega)
  have HSX := Aside0.mk hsx
  have HSY := Aside0.mk hsy
  clear hsx hsy
  have HR0 := Aside0.mk hr0
  have HR1 := Aside0.mk hr1
  have HR2 := Aside0.mk hr2
  have HB := Aside0.mk hb
  have HT := Aside0.mk bT
  have HX := Aside0.mk bX
  have HYb := Aside0.mk bY
  have tx := (blk_cell bT 0).trans rfl
  have xx0 := (blk_cell bX 0).trans rfl
  have xx1 := (blk_cell bX 1).trans rfl
  clear hr0 hr1 hr2 hb bT bX bY
  refine callsIn_of_wp Try.func170 rfl trivial ?_ rfl
  simp only [Try.ntmps170, List.size_toArray, List.length_cons, List.length_nil, Nat.reduceAdd, Nat.reduceSub, Array.replicate_succ, Array.replicate_zero, List.push_toArray, List.append_toArray, List.nil_append, List.cons_append]
  gi_wp2_with (refine ⟨trivial, ?_⟩; gi_at_call 171; refine (callsIn_wide.2 (spans_stops.calls 13 A0 c0 X a0 a1 _ _ (Kd.C_below HR0.out HB.out) hc0 HSX.out)).mono ?_; rintro e w' ⟨v0, rfl, hR, hbs⟩; obtain ⟨A, c, rfl, hlc, hC⟩ := Kd.R_reads hR)
  have hads : ∀ ad, A = some ad → W.heap.size ≤ ad.block := by
    rintro ad rfl
    obtain ⟨_, inner, ho, _⟩ := hR
    rcases ho.2 with ⟨h, _⟩ | ⟨g, cap, cur, h, hg, _⟩
    · cases h
    · cases h; exact hg
  obtain ⟨adx, rfl, hxs⟩ := cell_int hC (stops_pos _ _ _)
  have hadx := hads adx rfl
  clear hads hR hC
  have HXS := Aside0.mk hxs
  have HAX := Aside0.mk hadx
  have HJ1 := Aside0.mk (hJ [] W w' none hJ0 (grown_of_below hbs) (by simp))
  have HBS := Aside0.mk hbs
  have HJ := Aside0.mk hJ
  have HY := Aside0.mk hY
  clear hxs hadx hbs hJ hY hJ0 tx xx0 xx1
  have hnx := stops_pos X a0 a1
  gi_loopw [14] (fun v14 wr => ∃ i : Nat, v14 = .int .i64 i ∧ Aside0 (i ≤ (stopsL X a0 a1).length) ∧ Aside0 (J (gridG ((stopsL X a0 a1).take i) (stopsL Y b0 b1) (fG X Y V)) wr) ∧ Aside0 (KpS w0.heap.size S w' wr))
    (fun v14 _ => (stopsL X a0 a1).length - (intOf v14).toNat)
  case atStart => exact ⟨0, rfl, ⟨Nat.zero_le _⟩, ⟨by simpa [gridG] using HJ1.out⟩, ⟨KpS.refl _ _ _⟩⟩
  case round =>
    obtain ⟨i, rfl, HI, HJi, HK⟩ := hrel
    have hlx : (stopsL X a0 a1).length ≤ 14 := stops_len t.ax.most a0 a1
    have hly : (stopsL Y b0 b1).length ≤ 14 := stops_len t.ay.most b0 b1
    have HBr := Aside0.mk ((HB.out.trans (HBS.out.mono HB.out.size)).trans HK.out.1)
    have HTr := Aside0.mk (HK.out.2 _ _ _ _ (blk_below HT.out HBS.out) sT)
    have HXr := Aside0.mk (HK.out.2 _ _ _ _ (blk_below HX.out HBS.out) sX)
    have HYr := Aside0.mk (HK.out.2 _ _ _ _ (blk_below HYb.out HBS.out) sY)
    by_cases hlt : i < (stopsL X a0 a1).length
    · have q0 := HK.out.cell (HXS.out i hlt) (fun hs => absurd (hS _ hs) (by rw [blk_add]; have := HAX.out; omega))
      have ty := (blk_cell HTr.out 1).trans rfl
      have y0 := (blk_cell HYr.out 0).trans rfl
      have y1 := (blk_cell HYr.out 1).trans rfl
      gi_wp2_with (refine ⟨trivial, ?_⟩; gi_at_call 171; refine (callsIn_wide.2 (spans_stops.calls 13 A1 c1 Y b0 b1 _ _ (Kd.C_below HR1.out HBr.out) hc1 HSY.out)).mono ?_; rintro e w2 ⟨v0, rfl, hR, hbs⟩; obtain ⟨A, c, rfl, hlc, hC⟩ := Kd.R_reads hR)
      have hads : ∀ ad, A = some ad → wr.heap.size ≤ ad.block := by
        rintro ad rfl
        obtain ⟨_, inner, ho, _⟩ := hR
        rcases ho.2 with ⟨h, _⟩ | ⟨g, cap, cur, h, hg, _⟩
        · cases h
        · cases h; exact hg
      obtain ⟨ady, rfl, hys⟩ := cell_int hC (stops_pos _ _ _)
      have hady := hads ady rfl
      clear hads hR hC q0 ty y0 y1
      have HYS := Aside0.mk hys
      have HAY := Aside0.mk hady
      have HSz := Aside0.mk (show W.heap.size ≤ wr.heap.size from Nat.le_trans HBS.out.size HK.out.1.size)
      have HJ2 := Aside0.mk (HJ.out _ _ _ none HJi.out (grown_of_below hbs) (by simp))
      have HBS2 := Aside0.mk hbs
      have HB2 := Aside0.mk (HBr.out.trans (hbs.mono HBr.out.size))
      have HT2 := Aside0.mk (blk_below HTr.out hbs)
      have hon := stops_on hxon hxle (gI_mem _ _ hlt)
      have HON := Aside0.mk hon.1
      clear hys hady hbs hon HTr HXr HYr
      gi_loopw [23] (fun v23 ws => ∃ j : Nat, v23 = .int .i64 j ∧ Aside0 (j ≤ (stopsL Y b0 b1).length) ∧ Aside0 (J (gridG ((stopsL X a0 a1).take i) (stopsL Y b0 b1) (fG X Y V) ++ ((stopsL Y b0 b1).take j).map (fG X Y V (gI (stopsL X a0 a1) i))) ws) ∧ Aside0 (KpS w0.heap.size S w2 ws))
        (fun v23 _ => (stopsL Y b0 b1).length - (intOf v23).toNat)
      case atStart => exact ⟨0, rfl, ⟨Nat.zero_le _⟩, ⟨by simpa using HJ2.out⟩, ⟨KpS.refl _ _ _⟩⟩
      case round =>
        obtain ⟨j, rfl, HJj, HJs, HK2⟩ := hrel
        have HBs := Aside0.mk (HB2.out.trans HK2.out.1)
        by_cases hltj : j < (stopsL Y b0 b1).length
        · have q1 := HK2.out.cell (HYS.out j hltj) (fun hs => absurd (hS _ hs) (by rw [blk_add]; have := HAY.out; have := HSz.out; omega))
          have HTs := Aside0.mk (HK2.out.2 _ _ _ _ HT2.out sT)
          have t0 := (blk_cell HTs.out 0).trans rfl
          have t1 := (blk_cell HTs.out 1).trans rfl
          have t2 := (blk_cell HTs.out 2).trans rfl
          have hony := (stops_on hyon hyle (gI_mem _ _ hltj)).1
          have HAT : Aside0 (spans_at.f X Y V (gI (stopsL X a0 a1) i) (gI (stopsL Y b0 b1) j) = some ((ptAt X Y V (gI (stopsL X a0 a1) i) (gI (stopsL Y b0 b1) j)).n, (ptAt X Y V (gI (stopsL X a0 a1) i) (gI (stopsL Y b0 b1) j)).d)) := ⟨by unfold spans_at.f; rw [HTB.out, HON.out, hony]; rfl⟩
          have HE : Aside0 (encP (fG X Y V (gI (stopsL X a0 a1) i) (gI (stopsL Y b0 b1) j)) = #[.agg #[.int .i64 (gI (stopsL X a0 a1) i), .int .i64 (gI (stopsL Y b0 b1) j), .int .i64 (ptAt X Y V (gI (stopsL X a0 a1) i) (gI (stopsL Y b0 b1) j)).n, .int .i64 (ptAt X Y V (gI (stopsL X a0 a1) i) (gI (stopsL Y b0 b1) j)).d]]) := ⟨by unfold encP; rw [fG_val t HON.out hony]; rfl⟩
          have HLen : Aside0 ((gridG ((stopsL X a0 a1).take i) (stopsL Y b0 b1) (fG X Y V) ++ ((stopsL Y b0 b1).take j).map (fG X Y V (gI (stopsL X a0 a1) i))).length < (stopsL X a0 a1).length * (stopsL Y b0 b1).length) := ⟨grid_len _ _ _ i j _ hlt hltj⟩
          clear hony
          gi_wp2_with (refine ⟨trivial, ?_⟩; gi_at_call 105; refine (callsIn_wide.2 (spans_at.calls A0 c0 X A1 c1 Y A2 c2 V _ _ _ _ _ (Kd.C_below HR0.out HBs.out) hc0 (Kd.C_below HR1.out HBs.out) hc1 (Kd.C_below HR2.out HBs.out) hc2 HAT.out)).mono ?_; rintro e w3 ⟨rfl, hb3⟩; obtain ⟨fn, tmps, assign, body, hy, hR⟩ := HY.out _ (fG X Y V (gI (stopsL X a0 a1) i) (gI (stopsL Y b0 b1) j)) w3 (HJ.out _ _ _ none HJs.out (grown_of_below hb3) (by simp)) HLen.out; rw [HE.out] at hy; have HR' := Aside0.mk hR; have HB3 := Aside0.mk hb3; clear hR hb3)
          refine HR'.out.mono ?_
          rintro e w4 (⟨rfl, hJ4, hk4⟩ | ⟨rfl, hJx4⟩)
          · have HJ4 := Aside0.mk hJ4
            have HK4 := Aside0.mk hk4
            clear hJ4 hk4
            gi_wp2
            go_roundw
            case rel => exact ⟨j + 1, by go_num, ⟨by omega⟩, ⟨by rw [map_snoc _ _ _ hltj, ← List.append_assoc]; exact HJ4.out⟩, ⟨HK2.out.trans ((KpS.of_below (by have := HBs.out.size; omega) HB3.out).trans HK4.out)⟩⟩
            case measure => simp [intOf]; omega
          · have HJ4 := Aside0.mk hJx4
            clear hJx4
            gi_wp2
            refine bodyPost_ret (results_none rfl _ _ _) rfl ?_
            exact ⟨⟨_, rfl⟩, .inr ⟨_, grid_prefix _ _ _ i j hlt hltj, HJ4.out⟩⟩
        · gi_wp2
          go_roundw
          case rel => exact ⟨i + 1, by go_num, ⟨by omega⟩, ⟨by rw [gridG_snoc _ _ _ _ hlt]; have h5 := HJs.out; rw [List.take_of_length_le (l := stopsL Y b0 b1) (i := j) (by omega)] at h5; exact h5⟩, ⟨HK.out.trans ((KpS.of_below (by have := HBr.out.size; omega) HBS2.out).trans HK2.out)⟩⟩
          case measure => simp [intOf]; omega
    · gi_wp2
      go_end0
      exact ⟨⟨_, rfl⟩, .inl ⟨_, by rw [List.take_of_length_le (by omega)], HJi.out⟩⟩
end Go.Proofs.Yteodlmgmmpkpoaa.PS
end
