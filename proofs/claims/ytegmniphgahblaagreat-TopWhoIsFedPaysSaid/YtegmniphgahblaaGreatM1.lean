/- Words for memory, plain: a slice of ints that reads as a list; a region that draws its order, whose callees may lay blocks. No program here. | Plain: works as they read: outlets, carriers, their places in order. No program here. | Plain: a region that draws its order, which only reads until it makes one block, and goes on in one forced order behind it. No program here. | A region that draws its order, all of whose operations but a tail only read, and whose tail runs in one order: inside the wide fence. No program here. | Walks: within, span, many. | Words: a map from int, as a function. | Walks: outlets, and its closure as an iterator. | Walks: feeders. | Walks: slices.Clone of ints; words for a slice of the call's own. -/
import Derived.WalkKit
import Derived.Deep.LoopGhost
import Derived.Deep.QuietTactic
import Derived.BigQuiet
import Derived.Lib.Hide
import Derived.StillTail
import Derived.OrdersHeld
import Derived.StillTailTactics
import Derived.OrdersIn
import Derived.TacticsIn
import Derived.TacticsInMore
import Derived.Test.YtegmniphgahblaaGreatProg
import Derived.Deep.Cut
import Derived.Deep.RegionHeld3
import Derived.WalkMore
import Derived.Maps.OwnSet
import Derived.Maps.OwnIn
import Derived.RangeFuncNested
import Derived.RangeFuncBound
import Derived.RangeFuncCalls
import Derived.RangeFuncLeaves
import Derived.RangeFuncFrom
import Derived.OwnWalkIn
import Derived.LoopNIn
import Derived.LoopIn
import Derived.RegionIn
import Derived.Shelf.AbstractIn
import Derived.Maps.AppendAt
import Derived.Lib.SliceRun
namespace Go.Proofs.YtegmniphgahblaaGreat
open Go.RowKit

/-- Facts that are hidden together. -/
theorem hd2 {p0 p1 : Prop} (h0 : p0) (h1 : p1) : Hid (p0 ∧ p1) := Lib.hid ⟨h0, h1⟩
theorem hd3 {p0 p1 p2 : Prop} (h0 : p0) (h1 : p1) (h2 : p2) : Hid (p0 ∧ p1 ∧ p2) := Lib.hid ⟨h0, h1, h2⟩
theorem hd4 {p0 p1 p2 p3 : Prop} (h0 : p0) (h1 : p1) (h2 : p2) (h3 : p3) : Hid (p0 ∧ p1 ∧ p2 ∧ p3) := Lib.hid ⟨h0, h1, h2, h3⟩
theorem hd5 {p0 p1 p2 p3 p4 : Prop} (h0 : p0) (h1 : p1) (h2 : p2) (h3 : p3) (h4 : p4) : Hid (p0 ∧ p1 ∧ p2 ∧ p3 ∧ p4) := Lib.hid ⟨h0, h1, h2, h3, h4⟩
theorem hd6 {p0 p1 p2 p3 p4 p5 : Prop} (h0 : p0) (h1 : p1) (h2 : p2) (h3 : p3) (h4 : p4) (h5 : p5) : Hid (p0 ∧ p1 ∧ p2 ∧ p3 ∧ p4 ∧ p5) := Lib.hid ⟨h0, h1, h2, h3, h4, h5⟩
theorem hd7 {p0 p1 p2 p3 p4 p5 p6 : Prop} (h0 : p0) (h1 : p1) (h2 : p2) (h3 : p3) (h4 : p4) (h5 : p5) (h6 : p6) : Hid (p0 ∧ p1 ∧ p2 ∧ p3 ∧ p4 ∧ p5 ∧ p6) := Lib.hid ⟨h0, h1, h2, h3, h4, h5, h6⟩
theorem hd8 {p0 p1 p2 p3 p4 p5 p6 p7 : Prop} (h0 : p0) (h1 : p1) (h2 : p2) (h3 : p3) (h4 : p4) (h5 : p5) (h6 : p6) (h7 : p7) : Hid (p0 ∧ p1 ∧ p2 ∧ p3 ∧ p4 ∧ p5 ∧ p6 ∧ p7) := Lib.hid ⟨h0, h1, h2, h3, h4, h5, h6, h7⟩
theorem hd9 {p0 p1 p2 p3 p4 p5 p6 p7 p8 : Prop} (h0 : p0) (h1 : p1) (h2 : p2) (h3 : p3) (h4 : p4) (h5 : p5) (h6 : p6) (h7 : p7) (h8 : p8) : Hid (p0 ∧ p1 ∧ p2 ∧ p3 ∧ p4 ∧ p5 ∧ p6 ∧ p7 ∧ p8) := Lib.hid ⟨h0, h1, h2, h3, h4, h5, h6, h7, h8⟩
theorem hd10 {p0 p1 p2 p3 p4 p5 p6 p7 p8 p9 : Prop} (h0 : p0) (h1 : p1) (h2 : p2) (h3 : p3) (h4 : p4) (h5 : p5) (h6 : p6) (h7 : p7) (h8 : p8) (h9 : p9) : Hid (p0 ∧ p1 ∧ p2 ∧ p3 ∧ p4 ∧ p5 ∧ p6 ∧ p7 ∧ p8 ∧ p9) := Lib.hid ⟨h0, h1, h2, h3, h4, h5, h6, h7, h8, h9⟩
theorem hd11 {p0 p1 p2 p3 p4 p5 p6 p7 p8 p9 p10 : Prop} (h0 : p0) (h1 : p1) (h2 : p2) (h3 : p3) (h4 : p4) (h5 : p5) (h6 : p6) (h7 : p7) (h8 : p8) (h9 : p9) (h10 : p10) : Hid (p0 ∧ p1 ∧ p2 ∧ p3 ∧ p4 ∧ p5 ∧ p6 ∧ p7 ∧ p8 ∧ p9 ∧ p10) := Lib.hid ⟨h0, h1, h2, h3, h4, h5, h6, h7, h8, h9, h10⟩
theorem hd12 {p0 p1 p2 p3 p4 p5 p6 p7 p8 p9 p10 p11 : Prop} (h0 : p0) (h1 : p1) (h2 : p2) (h3 : p3) (h4 : p4) (h5 : p5) (h6 : p6) (h7 : p7) (h8 : p8) (h9 : p9) (h10 : p10) (h11 : p11) : Hid (p0 ∧ p1 ∧ p2 ∧ p3 ∧ p4 ∧ p5 ∧ p6 ∧ p7 ∧ p8 ∧ p9 ∧ p10 ∧ p11) := Lib.hid ⟨h0, h1, h2, h3, h4, h5, h6, h7, h8, h9, h10, h11⟩

/-- The i-th number of a list (0 beyond it): a name that the walk does not open. -/
def nth (xs : List Int) (i : Nat) : Int := xs.getD i 0

/-- The slice '.slice A xs.length c' reads as xs, and lies below block B. -/
def Rd (w : World) (B : Nat) (A : Option Addr) (xs : List Int) : Prop :=
 0 < xs.length → ∃ b off, A = some ⟨b, off, none⟩ ∧ b < B ∧ ∀ i, i < xs.length → w.cell? ⟨b, off + i, none⟩ = some (.int .i64 (nth xs i))

theorem Rd.nil {w : World} {B : Nat} {A : Option Addr} : Rd w B A [] := fun h => absurd h (by simp)
theorem Rd.mono {w : World} {B B' : Nat} {A : Option Addr} {xs : List Int} (h : Rd w B A xs) (hB : B ≤ B') : Rd w B' A xs := fun hn => by
 obtain ⟨b, off, e, hb, hc⟩ := h hn
 exact ⟨b, off, e, by omega, hc⟩
theorem Rd.below {w w' : World} {B n : Nat} {A : Option Addr} {xs : List Int} (h : Rd w B A xs) (hb : Below n w w') (hB : B ≤ n) : Rd w' B A xs := fun hn => by
 obtain ⟨b, off, e, hb', hc⟩ := h hn
 exact ⟨b, off, e, hb', fun i hi => (hb.cell (p := ⟨b, off + i, none⟩) (by show b < n; omega)).trans (hc i hi)⟩

/-- The slice lies in a block from L on. -/
def Fresh (L : Nat) (A : Option Addr) : Prop := ∀ ad, A = some ad → L ≤ ad.block
theorem Fresh.mono {L L' : Nat} {A : Option Addr} (h : Fresh L A) (hL : L' ≤ L) : Fresh L' A := fun ad e => Nat.le_trans hL (h ad e)

theorem Rd.setCell {w : World} {B : Nat} {A : Option Addr} {xs : List Int} (h : Rd w B A xs) {p : Addr} (hp : ∀ ad, A = some ad → ad.block ≠ p.block) (v : Value) : Rd (w.setCell p v) B A xs := fun hn => by
 obtain ⟨b, off, e, hb, hc⟩ := h hn
 exact ⟨b, off, e, hb, fun i hi => (World.cell?_setCell_other w p ⟨b, off + i, none⟩ v (fun e' => hp _ e (by rw [e']))).trans (hc i hi)⟩

/-- What a world that has kept all below B gives as rules. -/
theorem bcell {B : Nat} {w w1 : World} (hb : Below B w w1) : (∀ b o, b < B → w1.cell? ⟨b, o, none⟩ = w.cell? ⟨b, o, none⟩) ∧ (∀ b o, b < B → w1.frozen? ⟨b, o, none⟩ = w.frozen? ⟨b, o, none⟩) :=
 ⟨fun b o h => hb.cell (p := ⟨b, o, none⟩) h, fun b o h => hb.frozen (p := ⟨b, o, none⟩) h⟩

theorem ret_int {k : IntKind} {a b : Int} (h : a = b) : Ending.returned (.int k a) = .returned (.int k b) := by rw [h]
theorem int_eq {k : IntKind} {a b : Int} (h : a = b) : Value.int k a = Value.int k b := by rw [h]
theorem ret_bool {a b : Bool} (h : a = b) : Ending.returned (.bool a) = .returned (.bool b) := by rw [h]

/-- A region that draws its order, of whose operations each only reads or calls a function that keeps all that lay (it may lay blocks): ONE walk in the text's order, in worlds 'X k' of which 'Below' is known; behind it the world is a variable of which 'Below' is known. -/
theorem wp_region_ext {P : Program} {id : Nat} {Q : Exit → Act → World → Prop} {a : Act} {w : World} {l : List Oper} (hm : P.follows .mixedOrders = true) (hB : Region.lexB .any l.toArray = true)
  (h : ∀ (ι : Type) (_ : Nonempty ι) (X : ι → World), (∀ k, Below w.heap.size w (X k)) → (∀ w', Below w.heap.size w w' → ∃ k, w' = X k) →
   wpQuiet P l.toArray (fun w' => ∃ k, w' = X k) (fun a' => ∀ w', Below w.heap.size w w' → Q .normal a' w') l a) : (Code.region id l.toArray true).wp P Q a w := by
 have h1 := h { w' : World // Below w.heap.size w w' } ⟨⟨w, Below.refl _ _⟩⟩ Subtype.val (fun k => k.2) (fun w' hw => ⟨⟨w', hw⟩, rfl⟩)
 refine wp_region_quiet (C := fun w' => ∃ k : { w' : World // Below w.heap.size w w' }, w' = k.1) hm hB ⟨⟨_, (Below.refl _ w).drew⟩, rfl⟩ ?_
 have e : (fun a' => ∀ w', (∃ k : { w' : World // Below w.heap.size w w' }, w' = k.1) → Q .normal a' w') = (fun a' => ∀ w', Below w.heap.size w w' → Q .normal a' w') := by
  funext a'
  exact propext ⟨fun h w' hw => h w' ⟨⟨w', hw⟩, rfl⟩, fun h w' ⟨k, hk⟩ => h w' (hk ▸ k.2)⟩
 rw [e]
 simpa using h1

/-- A callee's contract, met in the world 'X k'. -/
theorem Calls.ext_of {P : Program} {f : FuncId} {args : Array Value} {w : World} {ι : Type} {X : ι → World} (hX : ∀ k, Below w.heap.size w (X k)) (hC : ∀ w', Below w.heap.size w w' → ∃ k, w' = X k) {k : ι} {v : Value}
  (h : Calls P f args (X k) fun e w' => e = .returned v ∧ Below (X k).heap.size (X k) w') : Calls P f args (X k) fun e w'' => e = .returned v ∧ ∃ k', w'' = X k' :=
 h.mono fun _ _ ⟨he, hb⟩ => ⟨he, hC _ ((hX k).trans (hb.mono (hX k).size))⟩
/-- .. of one that leaves the world alone. -/
theorem Calls.ext_same {P : Program} {f : FuncId} {args : Array Value} {ι : Type} {X : ι → World} {k : ι} {v : Value}
  (h : Calls P f args (X k) fun e w' => e = .returned v ∧ X k = w') : Calls P f args (X k) fun e w'' => e = .returned v ∧ ∃ k', w'' = X k' :=
 h.mono fun _ _ ⟨he, hb⟩ => ⟨he, k, hb.symm⟩

end Go.Proofs.YtegmniphgahblaaGreat
namespace Go.Proofs.YtegmniphgahblaaGreat
open Go.RowKit

/-- An outlet, as it reads. -/
structure Ot where
 id : Int
 into : Int
 P : Option Addr
 c : Nat
 ps : List Int
 kl : Int
 kh : Int
 sl : Int
 sh : Int
instance : Inhabited Ot := ⟨⟨0, 0, none, 0, [], 0, 0, 0, 0⟩⟩
def Ot.cells (o : Ot) : List Value := [.int .i64 o.id, .int .i64 o.into, .slice o.P o.ps.length o.c, .int .i64 o.kl, .int .i64 o.kh, .int .i64 o.sl, .int .i64 o.sh]
def Ot.v (o : Ot) : Value := .agg #[.int .i64 o.id, .int .i64 o.into, .slice o.P o.ps.length o.c, .int .i64 o.kl, .int .i64 o.kh, .int .i64 o.sl, .int .i64 o.sh]

/-- The i-th outlet: a name that the walk does not open. -/
def oAt (l : List Ot) (i : Nat) : Ot := l.getD i default
theorem oAt_mem {l : List Ot} {i : Nat} (h : i < l.length) : oAt l i ∈ l := by
 unfold oAt
 rw [List.getD_eq_getElem?_getD, List.getElem?_eq_getElem h]
 exact List.getElem_mem h

/-- The seven cells of an outlet, and its passes. -/
structure OtAt (w : World) (B b off : Nat) (o : Ot) : Prop where
 c0 : w.cell? ⟨b, off, none⟩ = some (.int .i64 o.id)
 c1 : w.cell? ⟨b, off + 1, none⟩ = some (.int .i64 o.into)
 c2 : w.cell? ⟨b, off + 2, none⟩ = some (.slice o.P o.ps.length o.c)
 c3 : w.cell? ⟨b, off + 3, none⟩ = some (.int .i64 o.kl)
 c4 : w.cell? ⟨b, off + 4, none⟩ = some (.int .i64 o.kh)
 c5 : w.cell? ⟨b, off + 5, none⟩ = some (.int .i64 o.sl)
 c6 : w.cell? ⟨b, off + 6, none⟩ = some (.int .i64 o.sh)
 rd : Rd w B o.P o.ps
theorem OtAt.below {w w' : World} {B b off n : Nat} {o : Ot} (h : OtAt w B b off o) (hb : Below n w w') (hB : B ≤ n) (hl : b < n) : OtAt w' B b off o :=
 ⟨(hb.cell (p := ⟨b, off, none⟩) hl).trans h.c0, (hb.cell (p := ⟨b, off + 1, none⟩) hl).trans h.c1, (hb.cell (p := ⟨b, off + 2, none⟩) hl).trans h.c2, (hb.cell (p := ⟨b, off + 3, none⟩) hl).trans h.c3,
  (hb.cell (p := ⟨b, off + 4, none⟩) hl).trans h.c4, (hb.cell (p := ⟨b, off + 5, none⟩) hl).trans h.c5, (hb.cell (p := ⟨b, off + 6, none⟩) hl).trans h.c6, h.rd.below hb hB⟩

/-- A slice of outlets. -/
def RdO (w : World) (B : Nat) (A : Option Addr) (l : List Ot) : Prop :=
 0 < l.length → ∃ b off, A = some ⟨b, off, none⟩ ∧ b < B ∧ ∀ i, i < l.length → OtAt w B b (off + i * 7) (oAt l i)
theorem RdO.nil {w : World} {B : Nat} {A : Option Addr} : RdO w B A [] := fun h => absurd h (by simp)
theorem RdO.below {w w' : World} {B n : Nat} {A : Option Addr} {l : List Ot} (h : RdO w B A l) (hb : Below n w w') (hB : B ≤ n) : RdO w' B A l := fun hn => by
 obtain ⟨b, off, e, hl, hc⟩ := h hn
 exact ⟨b, off, e, hl, fun i hi => (hc i hi).below hb hB (by omega)⟩

/-- A carrier, as it reads. -/
structure Car where
 A : Option Addr
 c : Nat
 os : List Ot
instance : Inhabited Car := ⟨⟨none, 0, []⟩⟩
def cAt (l : List Car) (i : Nat) : Car := l.getD i default
theorem cAt_mem {l : List Car} {i : Nat} (h : i < l.length) : cAt l i ∈ l := by
 unfold cAt
 rw [List.getD_eq_getElem?_getD, List.getElem?_eq_getElem h]
 exact List.getElem_mem h

/-- A slice of carriers: works. -/
def RdW (w : World) (B : Nat) (A : Option Addr) (l : List Car) : Prop :=
 0 < l.length → ∃ b off, A = some ⟨b, off, none⟩ ∧ b < B ∧ ∀ i, i < l.length → w.cell? ⟨b, off + i, none⟩ = some (.slice (cAt l i).A (cAt l i).os.length (cAt l i).c) ∧ RdO w B (cAt l i).A (cAt l i).os
theorem RdW.below {w w' : World} {B n : Nat} {A : Option Addr} {l : List Car} (h : RdW w B A l) (hb : Below n w w') (hB : B ≤ n) : RdW w' B A l := fun hn => by
 obtain ⟨b, off, e, hl, hc⟩ := h hn
 exact ⟨b, off, e, hl, fun i hi => ⟨(hb.cell (p := ⟨b, off + i, none⟩) (by show b < n; omega)).trans (hc i hi).1, (hc i hi).2.below hb hB⟩⟩

/-- All outlets, in order. -/
def outs (ws : List Car) : List Ot := ws.flatMap (·.os)
theorem outs_cons (x : Car) (r : List Car) : outs (x :: r) = x.os ++ outs r := by simp [outs]
/-- How many outlets the first c carriers have. -/
def start (ws : List Car) (c : Nat) : Nat := (outs (ws.take c)).length
theorem start_zero (ws : List Car) : start ws 0 = 0 := rfl
theorem start_succ {ws : List Car} {c : Nat} (h : c < ws.length) : start ws (c + 1) = start ws c + (cAt ws c).os.length := by
 have h1 : cAt ws c = ws[c] := by simp [cAt, List.getD_eq_getElem?_getD, List.getElem?_eq_getElem h]
 unfold start
 rw [← List.take_append_getElem h, h1]
 unfold outs
 rw [List.flatMap_append, List.length_append]
 simp only [List.flatMap_cons, List.flatMap_nil, List.append_nil]
theorem start_all (ws : List Car) : start ws ws.length = (outs ws).length := by simp [start]
theorem start_mono {ws : List Car} {c d : Nat} (h : c ≤ d) (hd : d ≤ ws.length) : start ws c ≤ start ws d := by
 induction d with
 | zero =>
  have : c = 0 := by omega
  subst this; exact Nat.le_refl _
 | succ d ih =>
  rcases Nat.lt_or_ge c (d + 1) with e | e
  ·have := ih (by omega) (by omega)
   rw [start_succ (by omega)]
   omega
  ·have : c = d + 1 := by omega
   subst this; exact Nat.le_refl _
theorem outs_split {ws : List Car} {c : Nat} (h : c < ws.length) : outs ws = outs (ws.take c) ++ ((cAt ws c).os ++ outs (ws.drop (c + 1))) := by
 have e : ws = ws.take c ++ (cAt ws c :: ws.drop (c + 1)) := by
  have h1 : cAt ws c = ws[c] := by simp [cAt, List.getD_eq_getElem?_getD, List.getElem?_eq_getElem h]
  rw [h1, List.getElem_cons_drop, List.take_append_drop]
 calc outs ws = outs (ws.take c ++ (cAt ws c :: ws.drop (c + 1))) := by rw [← e]
  _ = _ := by simp [outs]
theorem oAt_outs {ws : List Car} {c k : Nat} (h : c < ws.length) (hk : k < (cAt ws c).os.length) : oAt (outs ws) (start ws c + k) = oAt (cAt ws c).os k := by
 unfold oAt start
 rw [outs_split h]
 simp only [List.getD_eq_getElem?_getD]
 rw [List.getElem?_append_right (by omega), show (outs (ws.take c)).length + k - (outs (ws.take c)).length = k by omega, List.getElem?_append_left hk]
theorem start_lt {ws : List Car} {c k : Nat} (h : c < ws.length) (hk : k < (cAt ws c).os.length) : start ws c + k < (outs ws).length := by
 have h1 := start_mono (ws := ws) (c := c + 1) (d := ws.length) h (Nat.le_refl _)
 rw [start_succ h, start_all] at h1
 omega

/-- Where the n-th outlet stands: its carrier, and its number there. -/
def placeGo : List Car → Nat → Nat → Nat × Nat
 | [], c, k => (c, k)
 | x :: r, c, n => if n < x.os.length then (c, n) else placeGo r (c + 1) (n - x.os.length)
def caAt (ws : List Car) (n : Nat) : Nat := (placeGo ws 0 n).1
def atAt (ws : List Car) (n : Nat) : Nat := (placeGo ws 0 n).2
theorem placeGo_start : ∀ (ws : List Car) (d c k : Nat), c < ws.length → k < (cAt ws c).os.length → placeGo ws d (start ws c + k) = (d + c, k)
 | [], _, _, _, h, _ => absurd h (by simp)
 | x :: r, d, 0, k, _, hk => by
  have hk' : k < x.os.length := hk
  simp [placeGo, start_zero, hk']
 | x :: r, d, c + 1, k, h, hk => by
  have h' : c < r.length := by simpa using h
  have hk' : k < (cAt r c).os.length := hk
  have e : start (x :: r) (c + 1) = x.os.length + start r c := by simp [start, outs]
  rw [e, placeGo, if_neg (by omega), show x.os.length + start r c + k - x.os.length = start r c + k by omega, placeGo_start r (d + 1) c k h' hk']
  simp; omega
theorem caAt_start {ws : List Car} {c k : Nat} (h : c < ws.length) (hk : k < (cAt ws c).os.length) : caAt ws (start ws c + k) = c := by
 unfold caAt; rw [placeGo_start ws 0 c k h hk]; simp
theorem atAt_start {ws : List Car} {c k : Nat} (h : c < ws.length) (hk : k < (cAt ws c).os.length) : atAt ws (start ws c + k) = k := by
 unfold atAt; rw [placeGo_start ws 0 c k h hk]
/-- Every number of an outlet is that of a place. -/
theorem place_of : ∀ {ws : List Car} {n : Nat}, n < (outs ws).length → ∃ c k, c < ws.length ∧ k < (cAt ws c).os.length ∧ n = start ws c + k
 | [], n, h => absurd h (by simp [outs])
 | x :: r, n, h => by
  by_cases hx : n < x.os.length
  ·exact ⟨0, n, by simp, hx, by simp [start_zero]⟩
  ·obtain ⟨c, k, hc, hk, e⟩ := place_of (ws := r) (n := n - x.os.length) (by rw [outs_cons, List.length_append] at h; omega)
   refine ⟨c + 1, k, by simpa using hc, hk, ?_⟩
   have e2 : start (x :: r) (c + 1) = x.os.length + start r c := by simp [start, outs]
   omega
theorem caAt_lt {ws : List Car} {n : Nat} (h : n < (outs ws).length) : caAt ws n < ws.length := by
 obtain ⟨c, k, hc, hk, rfl⟩ := place_of h
 rw [caAt_start hc hk]; exact hc
theorem atAt_lt {ws : List Car} {n : Nat} (h : n < (outs ws).length) : atAt ws n < (cAt ws (caAt ws n)).os.length := by
 obtain ⟨c, k, hc, hk, rfl⟩ := place_of h
 rw [caAt_start hc hk, atAt_start hc hk]; exact hk
theorem place_eq {ws : List Car} {n : Nat} (h : n < (outs ws).length) : n = start ws (caAt ws n) + atAt ws n := by
 obtain ⟨c, k, hc, hk, rfl⟩ := place_of h
 rw [caAt_start hc hk, atAt_start hc hk]
theorem oAt_place {ws : List Car} {n : Nat} (h : n < (outs ws).length) : oAt (outs ws) n = oAt (cAt ws (caAt ws n)).os (atAt ws n) := by
 obtain ⟨c, k, hc, hk, rfl⟩ := place_of h
 rw [caAt_start hc hk, atAt_start hc hk, oAt_outs hc hk]
end Go.Proofs.YtegmniphgahblaaGreat
namespace Go.Proofs.YtegmniphgahblaaGreat
open Go.RowKit

section
variable {P : Program} {ops : Array Oper} {md : Region.Mode} {S : World → Prop}

/-- Operation number i, which yields a value. -/
def mOp (P : Program) (ops : Array Oper) (i : Nat) (K : Act → World → Prop) (a : Act) (w : World) : Prop :=
 match ops[i]? with
 | none => K a w
 | some o => if Region.wanted o (yielded ops a.tmps) = true then ∃ v w', (execOp a.eval o).run P w = .ok (.value v) w' ∧ K (a.put o.dst v) w' else K (a.put o.dst undef) w

theorem mOp_mono {i : Nat} {K K' : Act → World → Prop} {a : Act} {w : World} (h : ∀ a w, K a w → K' a w) (hh : mOp P ops i K a w) : mOp P ops i K' a w := by
 unfold mOp at *
 split
 ·rename_i ho; simp only [ho] at hh; exact h _ _ hh
 ·rename_i o ho
  simp only [ho] at hh
  split
  ·rename_i hw
   simp only [hw, if_true] at hh
   obtain ⟨v, w', h1, h2⟩ := hh
   exact ⟨v, w', h1, h _ _ h2⟩
  ·rename_i hw
   simp only [hw] at hh
   exact h _ _ hh

theorem wpOp_of_mOp {i : Nat} {K K' : Act → World → Prop} {Q : Exit → Act → World → Prop} {a : Act} {w : World} (h : ∀ a w, K a w → K' a w) (hh : mOp P ops i K a w) : wpOp P ops Q i K' a w := by
 unfold mOp at hh
 unfold wpOp
 split
 ·rename_i ho; simp only [ho] at hh; exact h _ _ hh
 ·rename_i o ho
  simp only [ho] at hh
  split
  ·rename_i hw
   simp only [hw, if_true] at hh
   obtain ⟨v, w', h1, h2⟩ := hh
   exact .inl (by unfold Oper.wp; rw [h1]; exact h _ _ h2)
  ·rename_i hw
   simp only [hw] at hh
   exact h _ _ hh

theorem mOp_of_yields {i : Nat} {o : Oper} {v : Value} {a : Act} {w : World} (hi : ops[i]? = some o) (hy : YieldsIf P ops S o v a) (hS : S w) {K : Act → World → Prop} (h : K (a.put o.dst v) w) : mOp P ops i K a w := by
 unfold mOp
 simp only [hi]
 rcases hy with ⟨hw, hv⟩ | ⟨hw, rfl⟩
 ·simp only [hw, if_true]; exact ⟨v, w, hv w hS, h⟩
 ·simp only [hw, Bool.false_eq_true, if_false]; exact h

theorem mOp_put {j : Nat} {oi oj : Oper} {v : Value} (hj : ops[j]? = some oj) (hap : oi.apart ops oj = true)
  (hsi : ∀ cs b, oi.op ≠ .select cs b) (hsj : ∀ cs b, oj.op ≠ .select cs b) {K : Act → World → Prop} {a : Act} {w : World}
  (hy : YieldsIf P ops S oi v a) (h : mOp P ops j K (a.put oi.dst v) w) :
  mOp P ops j (fun a' w' => YieldsIf P ops S oi v a' ∧ K (a'.put oi.dst v) w') a w := by
 obtain ⟨h1, h2, h3⟩ := Oper.apart_spec hap
 have keep : ∀ (a : Act), YieldsIf P ops S oi v a → ∀ u, YieldsIf P ops S oi v (a.put oj.dst u) := fun a hy u =>
  hy.of_same (execOp_put oi hsi a oj.dst u h3) (wanted_put oi a oj.dst u h3)
 unfold mOp at *
 simp only [hj] at *
 rw [wanted_put oj a oi.dst v h1] at h
 split
 ·rename_i hw
  simp only [hw, if_true] at h
  rw [execOp_put oj hsj a oi.dst v h1] at h
  obtain ⟨u, w', e1, e2⟩ := h
  exact ⟨u, w', e1, keep a hy u, by rw [← Act.put_comm a v u h2]; exact e2⟩
 ·rename_i hw
  simp only [hw] at h
  exact ⟨keep a hy _, by rw [← Act.put_comm a v undef h2]; exact h⟩

/-- Whatever order is picked: the first f operations are of the head, and leave a world that meets S. -/
def wpAnyM (P : Program) (md : Region.Mode) (ops : Array Oper) (S : World → Prop) (n : Nat) (L : Array Bool → Act → World → Prop) : Nat → Array Bool → Act → World → Prop
 | 0, listed, a, w => L listed a w
 | f + 1, listed, a, w => Region.ready md ops listed ≠ [] ∧ ∀ i ∈ Region.ready md ops listed, i < n ∧ mOp P ops i (fun a' w' => S w' ∧ wpAnyM P md ops S n L f (listed.setIfInBounds i true) a' w') a w

theorem wpAny_of_made {n g : Nat} {L : Array Bool → Act → World → Prop} {Q' : Exit → Act → World → Prop} (hL : ∀ listed a w, L listed a w → wpAny P md ops Q' g listed a w) :
  ∀ (f : Nat) (listed : Array Bool) (a : Act) (w : World), wpAnyM P md ops S n L f listed a w → wpAny P md ops Q' (f + g) listed a w
 | 0, listed, a, w, h => by rw [Nat.zero_add]; exact hL _ _ _ h
 | f + 1, listed, a, w, h => by
  rw [show f + 1 + g = (f + g) + 1 by omega]
  exact ⟨fun h0 => absurd h0 h.1, fun i hi => wpOp_of_mOp (fun a' w' h' => wpAny_of_made hL f _ a' w' h'.2) (h.2 i hi).2⟩

theorem wpAnyM_first {n i : Nat} {oi : Oper} {v : Value} {L : Array Bool → Act → World → Prop} (hi : ops[i]? = some oi) (hsel : ∀ (j : Nat) (o : Oper) cs b, ops[j]? = some o → o.op ≠ .select cs b)
  (hs : Region.sinkB md ops n = true) (hc : Region.chainB md ops n = true) (hn : n < ops.size) (hin : i < n)
  (hdone : ∀ listed a w, L listed a w → ∀ j ∈ Region.ready md ops listed, n ≤ j) :
  ∀ (f : Nat) (listed : Array Bool) (a : Act) (w : World), HeadInv md ops n listed →
   (∀ j oj, ops[j]? = some oj → j ≠ i → listed.getD j true = false → (∀ e ∈ oj.after, Region.binds md e = true → e.on ≠ i) → oi.apart ops oj = true) →
   i ∈ Region.ready md ops listed → YieldsIf P ops S oi v a → S w →
   wpAnyM P md ops S n L f (listed.setIfInBounds i true) (a.put oi.dst v) w → wpAnyM P md ops S n L (f + 1) listed a w := by
 intro f
 induction f with
 | zero =>
  intro listed a w inv _ hr hy hS H
  have hun := (mem_ready.1 hr).1
  refine ⟨fun h => (by rw [h] at hr; cases hr), fun j hj => ?_⟩
  have hjn : j < n := by
   rcases Nat.lt_or_ge j n with h | h
   ·exact h
   ·exact absurd hj (tail_waits hs hc hn inv _ i rfl hin hun j h)
  refine ⟨hjn, ?_⟩
  by_cases hji : j = i
  ·subst hji; exact mOp_of_yields hi hy hS ⟨hS, H⟩
  ·have := hdone _ _ _ H j (ready_mono hj hji)
   omega
 | succ f ih =>
  intro listed a w inv hfree hr hy hS H
  have hun := (mem_ready.1 hr).1
  refine ⟨fun h => (by rw [h] at hr; cases hr), fun j hj => ?_⟩
  have hjn : j < n := by
   rcases Nat.lt_or_ge j n with h | h
   ·exact h
   ·exact absurd hj (tail_waits hs hc hn inv _ i rfl hin hun j h)
  refine ⟨hjn, ?_⟩
  by_cases hji : j = i
  ·subst hji; exact mOp_of_yields hi hy hS ⟨hS, H⟩
  ·have h1 := (H.2 j (ready_mono hj hji)).2
   obtain ⟨hjun, oj, hoj, hall⟩ := mem_ready.1 hj
   have hnot : ∀ e ∈ oj.after, Region.binds md e = true → e.on ≠ i := fun e he hb heq => by
    have h1 := hall e he hb
    rw [heq, getD_both hun] at h1
    cases h1
   have h2 := mOp_put hoj (hfree j oj hoj hji hjun hnot) (fun cs b => hsel i oi cs b hi) (fun cs b => hsel j oj cs b hoj) hy h1
   have hfree' : ∀ k ok, ops[k]? = some ok → k ≠ i → (listed.setIfInBounds j true).getD k true = false →
     (∀ e ∈ ok.after, Region.binds md e = true → e.on ≠ i) → oi.apart ops ok = true := fun k ok hk hki hun hno => by
    refine hfree k ok hk hki ?_ hno
    by_cases hjk : j = k
    ·subst hjk; exact hjun
    ·rw [getD_set_ne true hjk] at hun; exact hun
   refine mOp_mono (fun a' w' h3 => ⟨h3.2.1, ih (listed.setIfInBounds j true) a' w' (inv.set hj hjn) hfree' (ready_mono hr (Ne.symm hji)) h3.1 h3.2.1 ?_⟩) h2
   rw [Array.setIfInBounds_comm _ _ hji]
   exact h3.2.2

/-- The reads, in the text's order. -/
def wpReads (P : Program) (ops : Array Oper) (S : World → Prop) (T : Act → Prop) : List Oper → Act → Prop
 | [], a => T a
 | o :: rest, a => ∃ v, YieldsIf P ops S o v a ∧ wpReads P ops S T rest (a.put o.dst v)

theorem wpReads_nil {T : Act → Prop} {a : Act} (h : T a) : wpReads P ops S T [] a := h
theorem wpReads_op {T : Act → Prop} {o : Oper} {rest : List Oper} {a : Act} {v : Value} (hw : Region.wanted o (yielded ops a.tmps) = true) (hy : ∀ w, S w → (execOp a.eval o).run P w = .ok (.value v) w)
  (h : wpReads P ops S T rest (a.put o.dst v)) : wpReads P ops S T (o :: rest) a := ⟨v, .inl ⟨hw, hy⟩, h⟩

/-- The make, and what follows it. -/
def makeThen (P : Program) (ops : Array Oper) (S : World → Prop) (Q : Exit → Act → World → Prop) (w : World) (o : Oper) (tail : List Oper) (a : Act) : Prop :=
 Region.wanted o (yielded ops a.tmps) = true ∧ ∃ v w', (execOp a.eval o).run P w = .ok (.value v) w' ∧ S w' ∧ wpList P ops Q tail (a.put o.dst v) w'

def lexMadeB (md : Region.Mode) (ops : Array Oper) (m : Nat) : Bool :=
 Region.noSelect ops && decide (m + 1 < ops.size) && Region.sinkB md ops (m + 1) && Region.chainB md ops (m + 1) && Region.lexHead md ops (ops.size - m) m 0 (Array.replicate ops.size false)

theorem wpAnyM_lex {m g : Nat} {T : Act → Prop} {L : Array Bool → Act → World → Prop} {w : World} (hsel : Region.noSelect ops = true) (hs : Region.sinkB md ops (m + 1) = true) (hc : Region.chainB md ops (m + 1) = true) (hn : m + 1 < ops.size)
  (hS : S w) (hdone : ∀ listed a w, L listed a w → ∀ j ∈ Region.ready md ops listed, m + 1 ≤ j)
  (hT : ∀ listed a, Region.seqB md ops (g + 1) m listed = true → T a → wpAnyM P md ops S (m + 1) L 1 listed a w) :
  ∀ (l : List Oper) (k : Nat) (listed : Array Bool) (a : Act), (∀ j, j < l.length → l[j]? = ops[k + j]?) → k + l.length = m → HeadInv md ops (m + 1) listed →
  Region.lexHead md ops (g + 1) l.length k listed = true → wpReads P ops S T l a → wpAnyM P md ops S (m + 1) L (l.length + 1) listed a w
 | [], k, listed, a, _, hk, _, hB, h => by
  have hkm : k = m := by simpa using hk
  subst hkm
  exact hT listed a (by simpa [Region.lexHead] using hB) h
 | o :: l, k, listed, a, hl, hk, inv, hB, h => by
  have h0 : ops[k]? = some o := by simpa using (hl 0 (by simp)).symm
  simp only [List.length_cons, Region.lexHead, Bool.and_eq_true] at hB
  obtain ⟨⟨hr, hf⟩, hB'⟩ := hB
  have hkn : k < m + 1 := by simp only [List.length_cons] at hk; omega
  have hr' : k ∈ Region.ready md ops listed := by simpa using hr
  obtain ⟨v, hy, hK⟩ := h
  exact wpAnyM_first h0 (Region.noSelect_spec hsel) hs hc hn hkn hdone (l.length + 1) listed a w inv (Region.free_spec h0 hf) hr' hy hS
   (wpAnyM_lex hsel hs hc hn hS hdone hT l (k + 1) _ _ (fun j hj => by have := hl (j + 1) (by simp; omega); simpa [Nat.add_assoc, Nat.add_comm 1 j] using this) (by simp only [List.length_cons] at hk; omega) (inv.set hr' hkn) hB' hK)

/-- A region that reads, makes a block, and goes on in one order: ONE walk. -/
theorem wp_region_made {id : Nat} {Q : Exit → Act → World → Prop} {a : Act} {w : World} {l tail : List Oper} {o : Oper} (S : World → Prop) (m : Nat) (hm : P.follows .mixedOrders = true) (hB : lexMadeB .any l.toArray m = true)
  (ho : l.drop m = o :: tail) (hS : S w.drew) (h : wpReads P l.toArray S (makeThen P l.toArray S Q w.drew o tail) (l.take m) a) : (Code.region id l.toArray true).wp P Q a w := by
 simp only [lexMadeB, Bool.and_eq_true, decide_eq_true_eq] at hB
 obtain ⟨⟨⟨⟨hsel, hn⟩, hs⟩, hc⟩, hlex⟩ := hB
 have hn' : m + 1 < l.length := by simpa using hn
 have htl : (l.take m).length = m := by simp; omega
 have ho1 : l.toArray[m]? = some o := by
  have := congrArg (fun x => x[0]?) ho
  simpa using this
 have ho2 : l.drop (m + 1) = tail := by rw [← List.drop_drop, ho]; rfl
 have hdl : tail.length = l.toArray.size - (m + 1) := by rw [← ho2]; simp
 have inv0 : HeadInv .any l.toArray (m + 1) (Array.replicate l.toArray.size false) :=
  ⟨by simp, fun j oj _ hl => (by rw [getD_replicate_false] at hl; cases hl), fun t _ ht => getD_in (by simpa using ht) (getD_replicate_false _ _)⟩
 have hg : l.toArray.size - m = (l.toArray.size - (m + 1)) + 1 := by omega
 rw [hg] at hlex
 have H := wpAnyM_lex (P := P) (md := .any) (g := l.toArray.size - (m + 1)) (S := S) (w := w.drew) (L := fun listed a' w' => Region.seqB .any l.toArray (l.toArray.size - (m + 1)) (m + 1) listed = true ∧ wpList P l.toArray Q tail a' w') hsel hs hc hn hS
  (fun listed a' w' hL => seqB_ready hL.1)
  (fun listed a' hq hT => by
   simp only [Region.seqB, Bool.and_eq_true, decide_eq_true_eq] at hq
   obtain ⟨hw, v, w', h1, h2, h3⟩ := hT
   refine ⟨fun h0 => (by rw [hq.1] at h0; cases h0), fun i hi => ?_⟩
   have him : i = m := by rw [hq.1] at hi; simpa using hi
   subst him
   refine ⟨by omega, ?_⟩
   unfold mOp
   simp only [ho1, hw, if_true]
   exact ⟨v, w', h1, h2, hq.2, h3⟩)
  (l.take m) 0 _ a (fun j hj => by
   have hj' : j < m := by rw [htl] at hj; exact hj
   simp [hj']) (by simpa using htl) inv0 (by rw [htl]; exact hlex) h
 refine wp_region_any hm ?_
 have := wpAny_of_made (Q' := Q) (g := l.toArray.size - (m + 1)) (fun listed a' w' hL => by
  have := wpAny_of_seq (md := .any) (Q' := Q) tail (m + 1) listed a' w' (fun j => by rw [← ho2]; simp [List.getElem?_drop]) (by rw [hdl]; exact hL.1) hL.2
  rwa [hdl] at this) _ _ _ _ H
 rw [htl, show m + 1 + (l.toArray.size - (m + 1)) = l.toArray.size by omega] at this
 exact this
end
end Go.Proofs.YtegmniphgahblaaGreat
namespace Go.Proofs.YtegmniphgahblaaGreat

section
variable {P : Program} {ops : Array Oper} {md : Region.Mode} {w : World} {m : Nat}

theorem wpIn_of_still {o : Oper} {a : Act} {K : Act → Prop} {K' : Act → World → Prop} {Q' : Exit → Act → World → Prop} (h : ∀ a, K a → K' a w) (hh : o.still P a w K) : o.wpIn Fence.wide m P a w K' Q' := by
 unfold Oper.still at hh
 unfold Oper.wpIn
 refine ⟨fun _ _ => trivial, ?_⟩
 show o.uponIn Fence.wide m P a K' Q' ((execOp a.eval o).run P w)
 generalize (execOp a.eval o).run P w = r at *
 cases r with
 | ok n w' =>
  cases n <;> simp only [Oper.stillUpon] at hh <;> simp only [Oper.uponIn]
  case enter f args =>
   obtain ⟨rfl, v, hc, hn⟩ := hh
   refine ⟨fun h => (by cases h), callsIn_wide.2 (Calls.mono hc ?_)⟩
   rintro e w'' ⟨rfl, rfl⟩
   exact h _ hn
  all_goals (obtain ⟨rfl, h2⟩ := hh; exact h _ h2)
 | halt x w' => simp only [Oper.stillUpon] at hh

theorem wpOpIn_of_stOp {i : Nat} {a : Act} {K : Act → Prop} {K' : Act → World → Prop} {Q' : Exit → Act → World → Prop} (h : ∀ a, K a → K' a w) (hh : stOp P ops w i K a) : wpOpIn Fence.wide m P ops Q' i K' a w := by
 unfold stOp at hh
 unfold wpOpIn
 split
 ·rename_i ho; simp only [ho] at hh; exact h _ hh
 ·rename_i o ho
  simp only [ho] at hh
  split
  ·rename_i hw; simp only [hw, if_true] at hh; exact wpIn_of_still h hh
  ·rename_i hw; simp only [hw] at hh; exact ⟨fun _ _ => trivial, h _ hh⟩

theorem wpAnyIn_of_head {n g : Nat} {L : Array Bool → Act → Prop} {Q' : Exit → Act → World → Prop} (hL : ∀ listed a, L listed a → wpAnyIn Fence.wide m P md ops Q' g listed a w) :
  ∀ (f : Nat) (listed : Array Bool) (a : Act), wpAnyL P md ops w n L f listed a → wpAnyIn Fence.wide m P md ops Q' (f + g) listed a w
 | 0, listed, a, h => by rw [Nat.zero_add]; exact hL _ _ h
 | f + 1, listed, a, h => by
  rw [show f + 1 + g = (f + g) + 1 by omega]
  exact ⟨fun h0 => absurd h0 h.1, fun i hi => wpOpIn_of_stOp (fun a' h' => wpAnyIn_of_head hL f _ a' h') (h.2 i hi).2⟩

theorem wpAnyIn_of_seq {Q' : Exit → Act → World → Prop} : ∀ (l : List Oper) (k : Nat) (listed : Array Bool) (a : Act) (w : World), (∀ j, l[j]? = ops[k + j]?) →
  Region.seqB md ops l.length k listed = true → wpListIn Fence.wide m P ops Q' l a w → wpAnyIn Fence.wide m P md ops Q' l.length listed a w
 | [], _, _, _, _, _, hB, h => ⟨by simpa [Region.seqB] using hB, h⟩
 | o :: l, k, listed, a, w, hl, hB, h => by
  have h0 : ops[k]? = some o := by simpa using (hl 0).symm
  simp only [List.length_cons, Region.seqB, Bool.and_eq_true, decide_eq_true_eq] at hB
  refine ⟨fun h1 => (by rw [hB.1] at h1; cases h1), fun i hi => ?_⟩
  rw [hB.1] at hi
  have hik : i = k := by simpa using hi
  subst hik
  have hw : wpOpIn Fence.wide m P ops Q' i (wpListIn Fence.wide m P ops Q' l) a w := by unfold wpOpIn; simp only [h0]; exact h
  exact wpOpIn_mono (fun a' w' h' => wpAnyIn_of_seq l (i + 1) _ a' w' (fun j => by have := hl (j + 1); simpa [Nat.add_assoc, Nat.add_comm 1 j] using this) hB.2 h') hw

theorem wpIn_region_still_tail {id : Nat} {Q : Exit → Act → World → Prop} {a : Act} {l : List Oper} (n : Nat) (hm : P.follows .mixedOrders = true) (hB : Region.lexTailB .any l.toArray n = true)
  (h : wpStill P l.toArray w.drew (fun a' => wpListIn Fence.wide m P l.toArray Q (l.drop n) a' w.drew) (l.take n) a) : (Code.region id l.toArray true).wpIn Fence.wide m P Q a w := by
 simp only [Region.lexTailB, Bool.and_eq_true, decide_eq_true_eq] at hB
 obtain ⟨⟨⟨⟨hsel, hn⟩, hs⟩, hc⟩, hlex⟩ := hB
 have hn' : n < l.length := by simpa using hn
 have htl : (l.take n).length = n := by simp; omega
 have hdl : (l.drop n).length = l.toArray.size - n := by simp
 have inv0 : HeadInv .any l.toArray n (Array.replicate l.toArray.size false) :=
  ⟨by simp, fun j oj _ hl => (by rw [getD_replicate_false] at hl; cases hl), fun t _ ht => getD_in (by simpa using ht) (getD_replicate_false _ _)⟩
 have H := wpAnyL_lex (md := .any) (g := l.toArray.size - n) hsel hs hc hn (l.take n) 0 _ a (fun j hj => by
  have hj' : j < n := by rw [htl] at hj; exact hj
  simp [hj']) (by simpa using htl) inv0 (by rw [htl]; exact hlex) h
 refine wpIn_region_any hm ?_
 have := wpAnyIn_of_head (Q' := Q) (m := m) (g := l.toArray.size - n) (fun listed a' hL => by
  have := wpAnyIn_of_seq (md := .any) (m := m) (Q' := Q) (l.drop n) n listed a' w.drew (fun j => by simp [List.getElem?_drop]) (by rw [hdl]; exact hL.1) hL.2
  rwa [hdl] at this) _ _ _ H
 rw [htl, show n + (l.toArray.size - n) = l.toArray.size by omega] at this
 exact this
end
end Go.Proofs.YtegmniphgahblaaGreat
namespace Go.Proofs.YtegmniphgahblaaGreat
open Go.RowKit

def withinB (n lo hi : Int) : Bool := decide (lo ≤ n ∧ n ≤ hi)

theorem within_any (n lo hi : Int) (w : World) : Calls Tryz.prog 36 #[.int .i64 n, .int .i64 lo, .int .i64 hi] w fun e w' => e = .returned (.bool (withinB n lo hi)) ∧ w = w' := by
 by_cases h1 : lo ≤ n <;> by_cases h2 : n ≤ hi
 all_goals
  go_enter Tryz.func36, Tryz.ntmps36
  go_wp2
  go_ret
  exact ⟨by simp [withinB, h1, h2], rfl⟩

/-- A span that lies in 0 up to a number. -/
def spanB (lo hi most : Int) : Bool := decide (0 ≤ lo ∧ lo ≤ hi ∧ hi ≤ most)
set_option maxHeartbeats 400000 in
theorem span_any (lo hi most : Int) (w : World) : Calls Tryz.prog 66 #[.agg #[.int .i64 lo, .int .i64 hi], .int .i64 most] w fun e w' => e = .returned (.bool (spanB lo hi most)) ∧ Below w.heap.size w w' := by
 have hb := (Below.refl _ w).alloc (Nat.le_refl _) (.cells #[.int .i64 lo, .int .i64 hi] 67)
 have HB := Lib.hid hb
 clear hb
 by_cases h1 : 0 ≤ lo <;> by_cases h2 : lo ≤ hi <;> by_cases h3 : hi ≤ most
 all_goals
  go_enter Tryz.func66, Tryz.ntmps66
  go_wp2
  go_ret
  exact ⟨by simp [spanB, h1, h2, h3], HB.out⟩

set_option maxRecDepth 100000 in
set_option maxHeartbeats 400000 in
theorem many_any (A : Option Addr) (c : Nat) (ws : List Car) (w : World) (h : RdW w w.heap.size A ws) (hm : ws.length ≤ maxLen) (hn : (outs ws).length ≤ 1000000000) :
  Calls Tryz.prog 43 #[.agg #[.slice A ws.length c]] w fun e w' => e = .returned (.int .i64 (outs ws).length) ∧ Below w.heap.size w w' := by
 have hb := (Below.refl _ w).alloc (Nat.le_refl _) (.cells #[.slice A ws.length c] 24)
 have hr := h.below hb (Nat.le_refl _)
 have HB := Lib.hid hb
 have p1 : (w.alloc (.cells #[.slice A ws.length c] 24)).cell? ⟨w.heap.size, 0, none⟩ = some (.slice A ws.length c) := by simp [go_sem]
 clear hb h
 unfold maxLen at hm
 go_enter Tryz.func43, Tryz.ntmps43
 go_upto_region 1 with fail
 generalize hgW : w.alloc (.cells #[.slice A ws.length c] 24) = W1 at *
 clear hgW
 go_wp2
 go_loopg [3, 5, 9] ws.length (fun gg s _ i wr => ∃ t : Nat, t ≤ ws.length ∧ ws.length - t ≤ gg ∧ i = .int .i64 t ∧ s = .int .i64 (start ws t) ∧ Aside (Below W1.heap.size W1 wr))
 case atStart => exact ⟨0, Nat.zero_le _, by omega, rfl, rfl, Below.refl _ _⟩
 case round =>
  obtain ⟨t, ht, hg, rfl, rfl, hbw⟩ := hrel
  have HW := Lib.hid hbw.out
  clear hbw
  by_cases hlt : t < ws.length
  ·have hltz : (t : Int) < (ws.length : Int) := by omega
   obtain ⟨b, off, rfl, lb, hc⟩ := hr (by omega)
   have k1 := (HW.out.cell (p := ⟨b, off + t, none⟩) (by have := HB.out.size; show b < _; omega)).trans (hc t hlt).1
   have hs := start_succ hlt
   have hle := start_mono (ws := ws) (c := t + 1) (d := ws.length) hlt (Nat.le_refl _)
   rw [start_all] at hle
   generalize (cAt ws t).os.length = n at *
   generalize (cAt ws t).A = A1 at *
   generalize (cAt ws t).c = c1 at *
   have hwr : IntKind.i64.wrap ((start ws t : Int) + (n : Int)) = (start ws t : Int) + (n : Int) := by rw [IntKind.wrap_i64]; omega
   have HN := Lib.hid ((Below.refl _ wr).alloc (Nat.le_refl _) (.cells #[.slice A1 n c1] 34))
   clear hc hr
   go_wp2
   go_roundg (ws.length - (t + 1))
   case measure => omega
   case rel => exact ⟨t + 1, by omega, by omega, by go_num, int_eq (by rw [hs]; omega), HW.out.trans (HN.out.mono HW.out.size)⟩
  ·have hltz : ¬ (t : Int) < (ws.length : Int) := by omega
   obtain rfl : t = ws.length := by omega
   go_wp2
   go_ret
   exact ⟨by rw [start_all]; rfl, HB.out.trans (HW.out.mono HB.out.size)⟩
end Go.Proofs.YtegmniphgahblaaGreat
namespace Go.Proofs.YtegmniphgahblaaGreat
open Go.RowKit Go.Maps

theorem keyI : Keyed Tryz.prog 3 := int_keyed Tryz.underlying3

/-- Block b is a map of at most n entries that reads as f: the key's element, or none. -/
def MapI {β : Type} (w : World) (b n : Nat) (R : Value → Option (DataW Unit × List MemPlace)) (enc : β → DataW Unit) (f : Int → Option β) : Prop :=
 ∃ D : DataW Unit, w.ownsMap Tryz.prog 3 R b n D ∧ IsMap D ∧ ∀ x : Int, (f x = none → Maps.has D (.int .i64 x) = false) ∧ (∀ y, f x = some y → Maps.has D (.int .i64 x) = true ∧ ∀ z, D.atKey (.int .i64 x) z = enc y)

section
variable {β : Type} {w w' : World} {b n : Nat} {R : Value → Option (DataW Unit × List MemPlace)} {enc : β → DataW Unit} {f : Int → Option β}

theorem MapI.made (w : World) (R : Value → Option (DataW Unit × List MemPlace)) (enc : β → DataW Unit) : MapI (w.alloc (.map #[] 0)) w.heap.size 0 R enc (fun _ => none) :=
 ⟨.map [], World.ownsMap_made w Tryz.prog 3 R, isMap_empty, fun x => ⟨fun _ => rfl, fun y h => by cases h⟩⟩
theorem MapI.lt (h : MapI w b n R enc f) : b < w.heap.size := by
 obtain ⟨D, h, _⟩ := h
 exact h.lt
theorem MapI.mono (h : MapI w b n R enc f) {n' : Nat} (hn : n ≤ n') : MapI w b n' R enc f := by
 obtain ⟨D, h, hr⟩ := h
 exact ⟨D, h.mono hn, hr⟩
theorem MapI.kept {row : Option Nat} (h : MapI w b n R enc f) (hg : w.grownBy w' row) (hne : some b ≠ row) : MapI w' b n R enc f := by
 obtain ⟨D, h, hr⟩ := h
 exact ⟨D, h.kept hg hne, hr⟩
theorem MapI.block (h : MapI w b n R enc f) (hb : w'.heap[b]? = w.heap[b]?) : MapI w' b n R enc f := by
 obtain ⟨D, ⟨es, clock, h1, h2⟩, hr⟩ := h
 exact ⟨D, ⟨es, clock, hb.trans h1, h2⟩, hr⟩
theorem MapI.below {m : Nat} (h : MapI w b n R enc f) (hb : Below m w w') (hl : b < m) : MapI w' b n R enc f := h.block (hb.block b hl)
theorem MapI.setCell (h : MapI w b n R enc f) (p : Addr) (v : Value) (hne : p.block ≠ b) : MapI (w.setCell p v) b n R enc f := h.block (Below.heap_setCell _ _ _ _ (Ne.symm hne))

/-- f, but y at x. -/
def upd (f : Int → Option β) (x : Int) (y : β) (z : Int) : Option β := if z = x then some y else f z
theorem lit_ne {x z : Int} (h : z ≠ x) : (Lit.int .i64 z) ≠ Lit.int .i64 x := fun e => by cases e; exact h rfl

theorem MapI.put {D : DataW Unit} {x : Int} {y : β} (hown : w'.ownsMap Tryz.prog 3 R b (n + 1) (D.put (.int .i64 x) (enc y))) (him : IsMap D)
  (hD : ∀ x : Int, (f x = none → Maps.has D (.int .i64 x) = false) ∧ (∀ y, f x = some y → Maps.has D (.int .i64 x) = true ∧ ∀ z, D.atKey (.int .i64 x) z = enc y)) : MapI w' b (n + 1) R enc (upd f x y) :=
 ⟨_, hown, him.put _ _, fun z => by
  unfold upd
  by_cases hz : z = x
  ·subst hz
   rw [if_pos rfl]
   exact ⟨fun h => (by cases h), fun y' h => by
    cases h
    exact ⟨has_put_same him (by simp [WideAt.IsKeyLit]) _, fun z' => atKey_put_same him (by simp [WideAt.IsKeyLit]) _ z'⟩⟩
  ·rw [if_neg hz]
   refine ⟨fun h => ?_, fun y' h => ⟨?_, fun z' => ?_⟩⟩
   ·rw [has_put_other (lit_ne hz)]; exact (hD z).1 h
   ·rw [has_put_other (lit_ne hz)]; exact ((hD z).2 y' h).1
   ·rw [atKey_put_other (lit_ne hz)]; exact ((hD z).2 y' h).2 z'⟩

variable {Fe : Fence} {nF : Nat}
/-- 'm[x] = v', at the operation. -/
theorem wpListIn_put {ops : Array Oper} {rest : List Oper} {o : Oper} {a : Act} {Q : Exit → Act → World → Prop}
  (hg : o.guard = none) (m x v : Operand) (t : TypeId) (hop : o.op = Op.mapUpdate t m x v) (e : TypeId) (ht : Tryz.prog.underlying t = some (.map 3 e))
  (hm : a.eval m = .map (some b)) (h : MapI w b n R enc f) (hn : n < maxLen) (val : Value) (k : Int) (y : β) (hx : a.eval x = .int .i64 k) (hw : (Lit.int .i64 k).wf = true) (hv : a.eval v = val) (ps : List MemPlace) (hval : R val = some (enc y, ps))
  (hK : ∀ w', MapI w' b (n + 1) R enc (upd f k y) → w.grownBy w' (some b) → wpListIn Fe nF Tryz.prog ops Q rest (a.put o.dst undef) w') :
  wpListIn Fe nF Tryz.prog ops Q (o :: rest) a w := by
 obtain ⟨D, hown, him, hD⟩ := h
 exact wpListIn_mapUpdate_own w hg m x v t hop 3 e keyI ht R b n D hm hown hn _ val _ hx hv (keyOf_int_mk Tryz.underlying3 hw) _ ps hval (fun w' h1 hgr => hK w' (MapI.put h1 him hD) hgr)
theorem wpList_put {ops : Array Oper} {rest : List Oper} {o : Oper} {a : Act} {Q : Exit → Act → World → Prop}
  (hg : o.guard = none) (m x v : Operand) (t : TypeId) (hop : o.op = Op.mapUpdate t m x v) (e : TypeId) (ht : Tryz.prog.underlying t = some (.map 3 e))
  (hm : a.eval m = .map (some b)) (h : MapI w b n R enc f) (hn : n < maxLen) (val : Value) (k : Int) (y : β) (hx : a.eval x = .int .i64 k) (hw : (Lit.int .i64 k).wf = true) (hv : a.eval v = val) (ps : List MemPlace) (hval : R val = some (enc y, ps))
  (hK : ∀ w', MapI w' b (n + 1) R enc (upd f k y) → w.grownBy w' (some b) → wpList Tryz.prog ops Q rest (a.put o.dst undef) w') :
  wpList Tryz.prog ops Q (o :: rest) a w := by
 obtain ⟨D, hown, him, hD⟩ := h
 exact wpList_mapUpdate_own w hg m x v t hop 3 e keyI ht R b n D hm hown hn _ val _ hx hv (keyOf_int_mk Tryz.underlying3 hw) _ ps hval (fun w' h1 hgr => hK w' (MapI.put h1 him hD) hgr)

/-- 'v, ok := m[x]' and 'm[x]', as equations for the walk: dec tells the element, z where there is none. -/
theorem MapI.look {t e : TypeId} (h : MapI w b n R enc f) (ht : Tryz.prog.underlying t = some (.map 3 e)) {z : Value} (hz : (zeroValue e).run Tryz.prog w = .ok z w) {zd : DataW Unit} {zp : List MemPlace} (hzd : R z = some (zd, zp))
  {x : Int} (hw : (Lit.int .i64 x).wf = true) (dec : β → Value) (hdec : ∀ v y ps, R v = some (enc y, ps) → v = dec y) (hdz : ∀ v ps, R v = some (zd, ps) → v = z) :
  (Instr.lookup t (.map (some b)) (.int .i64 x) true).run Tryz.prog w = .ok (.tuple #[(f x).elim z dec, .bool (f x).isSome]) w ∧
  (Instr.lookup t (.map (some b)) (.int .i64 x) false).run Tryz.prog w = .ok ((f x).elim z dec) w := by
 obtain ⟨D, hown, him, hD⟩ := h
 have hk := keyOf_int_mk Tryz.underlying3 hw
 obtain ⟨v, ps, h1, h2⟩ := hown.look_ok keyI ht hz hzd hk
 obtain ⟨v', ps', h3, h4⟩ := hown.lookup keyI ht hz hzd hk
 cases hf : f x with
 | none =>
  have hn := (hD x).1 hf
  rw [atKey_of_not_has hn] at h2 h4
  rw [hn] at h1
  rw [hdz v ps h2] at h1
  rw [hdz v' ps' h4] at h3
  exact ⟨h1, h3⟩
 | some y =>
  obtain ⟨hy1, hy2⟩ := (hD x).2 y hf
  rw [hy2] at h2 h4
  rw [hy1] at h1
  rw [hdec v y ps h2] at h1
  rw [hdec v' y ps' h4] at h3
  exact ⟨h1, h3⟩
end

/-- Elements that are places. -/
def plR : Value → Option (DataW Unit × List MemPlace)
 | .agg cs => match cs.toList with
  | [.int .i64 a, .int .i64 b, .int .i64 c] => some (.agg [.lit (.int .i64 a), .lit (.int .i64 b), .lit (.int .i64 c)], [])
  | _ => none
 | _ => none
def plV (p : Int × Int × Int) : Value := .agg #[.int .i64 p.1, .int .i64 p.2.1, .int .i64 p.2.2]
def plE (p : Int × Int × Int) : DataW Unit := .agg [.lit (.int .i64 p.1), .lit (.int .i64 p.2.1), .lit (.int .i64 p.2.2)]
theorem plR_v (p : Int × Int × Int) : plR (plV p) = some (plE p, []) := rfl
theorem plR_inv (v : Value) (p : Int × Int × Int) (ps : List MemPlace) (h : plR v = some (plE p, ps)) : v = plV p := by
 unfold plR at h
 split at h
 ·rename_i cs
  split at h
  ·rename_i a b c hc
   obtain ⟨l⟩ := cs
   simp only at hc
   subst hc
   simp only [Option.some.injEq, Prod.mk.injEq, plE, DataW.agg.injEq, List.cons.injEq, DataW.lit.injEq, Lit.int.injEq, true_and, and_true] at h
   obtain ⟨⟨rfl, rfl, rfl⟩, _⟩ := h
   rfl
  ·cases h
 ·cases h
theorem zeroPl (w : World) : (zeroValue 103).run Tryz.prog w = .ok (plV (0, 0, 0)) w := by kernel_rfl
abbrev MapP (w : World) (b n : Nat) (f : Int → Option (Int × Int × Int)) : Prop := MapI w b n plR plE f
theorem MapP.look {w : World} {b n : Nat} {f : Int → Option (Int × Int × Int)} (h : MapP w b n f) {x : Int} (hw : (Lit.int .i64 x).wf = true) :
  (Instr.lookup 136 (.map (some b)) (.int .i64 x) true).run Tryz.prog w = .ok (.tuple #[plV ((f x).getD (0, 0, 0)), .bool (f x).isSome]) w := by
 have := (MapI.look h (t := 136) (e := 103) (by kernel_rfl) (zeroPl w) (plR_v _) hw plV (fun v y ps => plR_inv v y ps) (fun v ps => plR_inv v _ ps)).1
 cases hf : f x <;> rw [hf] at this <;> exact this

/-- A map of truths: those keys that were stored. -/
abbrev MapB (w : World) (b n : Nat) (f : Int → Option Unit) : Prop := MapI w b n (plainElem Tryz.prog 4) (fun _ => .lit (.bool true)) f
theorem zeroB (w : World) : (zeroValue 4).run Tryz.prog w = .ok (.bool false) w := by kernel_rfl
set_option maxRecDepth 100000 in
theorem boolR_inv (v : Value) (x : Bool) (ps : List MemPlace) (h : plainElem (H := Unit) Tryz.prog 4 v = some (.lit (.bool x), ps)) : v = .bool x := by
 unfold plainElem at h
 rw [Tryz.underlying4] at h
 cases v <;> simp at h
 rw [h.1]
theorem MapB.look {w : World} {b n : Nat} {f : Int → Option Unit} (h : MapB w b n f) {x : Int} (hw : (Lit.int .i64 x).wf = true) :
  (Instr.lookup 133 (.map (some b)) (.int .i64 x) false).run Tryz.prog w = .ok (.bool (f x).isSome) w := by
 have := (MapI.look h (t := 133) (e := 4) (by kernel_rfl) (zeroB w) (plainElem_bool Tryz.underlying4 false) hw (fun _ => .bool true) (fun v _ ps => boolR_inv v _ ps) (fun v ps => boolR_inv v _ ps)).2
 cases hf : f x <;> rw [hf] at this <;> exact this
end Go.Proofs.YtegmniphgahblaaGreat
namespace Go.Proofs.YtegmniphgahblaaGreat
open Go.RowKit Go.Shelf
attribute [local go_sem] Oper.semAt_some

theorem outlets_any (A : Option Addr) (c n : Nat) (w : World) : Calls Tryz.prog 47 #[.agg #[.slice A n c]] w fun e w' =>
  e = .returned (.func (.func 68) #[] #[.pointer (some ⟨w.heap.size, 0, none⟩)]) ∧ w.alloc (.cells #[.slice A n c] 24) = w' := by
 go_enter Tryz.func47, Tryz.ntmps47
 go_wp2
 go_ret
 exact ⟨rfl, rfl⟩

/-- The first k numbers below N. -/
def firsts (N k : Nat) : List (Fin N) := (List.finRange N).take k
theorem firsts_succ {N k : Nat} (h : k < N) : firsts N (k + 1) = firsts N k ++ [⟨k, h⟩] := by
 unfold firsts
 rw [← List.take_append_getElem (by simpa using h)]
 simp
theorem firsts_length {N k : Nat} (h : k ≤ N) : (firsts N k).length = k := by simp [firsts]; omega
theorem firsts_all (N : Nat) : firsts N N = List.finRange N := List.take_of_length_le (by simp)

/-- What the iterator yields. -/
abbrev encI (ws : List Car) (x : Fin (outs ws).length) : Array Value :=
 #[.agg #[.int .i64 (x.1 : Int), .int .i64 (caAt ws x.1 : Int), .int .i64 (atAt ws x.1 : Int)], (oAt (outs ws) x.1).v]

set_option maxRecDepth 100000 in
set_option maxHeartbeats 2000000 in
theorem outlets1_in (n : Nat) (hn : 1 ≤ n) (l n₀ B : Nat) (A : Option Addr) (c : Nat) (ws : List Car) (J Jx : List (Fin (outs ws).length) → World → Prop)
  (hY : ∀ pre x W, J pre W → pre.length < (outs ws).length → YieldAt Fence.wide (n - 1) Tryz.prog l (encI ws x) W fun e W' =>
   (e = .returned (.bool true) ∧ J (pre ++ [x]) W' ∧ Below n₀ W W') ∨ (e = .returned (.bool false) ∧ Jx (pre ++ [x]) W'))
  (hJa : ∀ s W o, J s W → J s (W.alloc o)) (n₁ : Nat) (W : World) (hn0 : n₁ ≤ n₀) (hn1 : n₁ ≤ W.heap.size) (p1 : W.cell? ⟨B, 0, none⟩ = some (.slice A ws.length c))
  (hr : RdW W n₁ A ws) (hm : ws.length ≤ maxLen) (hN : (outs ws).length ≤ 1000000000) (h0 : J [] W) :
  CallsIn Fence.wide n Tryz.prog 68 #[.func (.yield l) #[] #[], .pointer (some ⟨B, 0, none⟩)] W fun e W' => (∃ v, e = .returned v) ∧
   ((∃ zs, zs = List.finRange (outs ws).length ∧ J zs W') ∨ (∃ pre, (∃ k, k < (outs ws).length ∧ pre = firsts (outs ws).length (k + 1)) ∧ Jx pre W')) := by
 have HR := Lib.hid hr
 clear hr
 unfold maxLen at hm
 refine callsIn_of_wp Tryz.func68 rfl trivial ?_ rfl
 simp only [Tryz.ntmps68, List.size_toArray, List.length_cons, List.length_nil, Nat.reduceAdd, Nat.reduceSub, Array.replicate_succ, Array.replicate_zero, List.push_toArray, List.append_toArray, List.nil_append, List.cons_append]
 gi_wp2
 gi_loopw [3, 4, 5, 6, 7, 11, 19] (fun s _ _ _ _ i _ wr => ∃ t : Nat, t ≤ ws.length ∧ i = .int .i64 t ∧ s = .int .i64 (start ws t : Nat) ∧ J (firsts (outs ws).length (start ws t)) wr ∧ Below n₁ W wr)
  (fun _ _ _ _ _ i _ _ => ws.length - (intOf i).toNat)
 case atStart => exact ⟨0, Nat.zero_le _, rfl, rfl, h0, Below.refl _ _⟩
 case round =>
  obtain ⟨t, ht, rfl, rfl, hJs, hnx⟩ := hrel
  by_cases hlt : t < ws.length
  ·have hltz : (t : Int) < (ws.length : Int) := by omega
   obtain ⟨b, off, rfl, lb, hc⟩ := HR.out (by omega)
   obtain ⟨k0, hO⟩ := hc t hlt
   have k1 := (hnx.cell (p := ⟨b, off + t, none⟩) lb).trans k0
   have hs := start_succ hlt
   have hle := start_mono (ws := ws) (c := t + 1) (d := ws.length) hlt (Nat.le_refl _)
   rw [start_all] at hle
   have HO := Lib.hid (fun k (hk : k < (cAt ws t).os.length) => (show oAt (outs ws) (start ws t + k) = oAt (cAt ws t).os k ∧ caAt ws (start ws t + k) = t ∧ atAt ws (start ws t + k) = k from ⟨oAt_outs hlt hk, caAt_start hlt hk, atAt_start hlt hk⟩))
   have HR2 := Lib.hid hO
   clear hc hO k0
   have hb5 := (Below.refl _ wr).alloc (Nat.le_refl _) (.cells #[.slice (cAt ws t).A (cAt ws t).os.length (cAt ws t).c] 34)
   have hJ5 := hJa _ wr (.cells #[.slice (cAt ws t).A (cAt ws t).os.length (cAt ws t).c] 34) hJs
   have hnx5 := hnx.trans (hb5.mono (Nat.le_trans hn1 hnx.size))
   generalize hA1 : (cAt ws t).A = A1 at *
   generalize hc1 : (cAt ws t).c = c1 at *
   generalize hos : (cAt ws t).os = os at *
   have hm1 : os.length ≤ 1000000000 := by omega
   gi_wp2
   gi_loopw [3, 6, 7, 19] (fun s _ _ i wr' => ∃ k : Nat, k ≤ os.length ∧ i = .int .i64 k ∧ s = .int .i64 (start ws t + k : Nat) ∧ J (firsts (outs ws).length (start ws t + k)) wr' ∧ Below n₁ W wr')
    (fun _ _ _ i _ => os.length - (intOf i).toNat)
   case atStart => exact ⟨0, Nat.zero_le _, rfl, rfl, hJ5, hnx5⟩
   case round =>
    obtain ⟨k, hk, rfl, rfl, hJs, hnx⟩ := hrel
    by_cases hlk : k < os.length
    ·have hlkz : (k : Int) < (os.length : Int) := by omega
     obtain ⟨b2, off2, rfl, lb2, hc2⟩ := HR2.out (by omega)
     have ho := (hc2 k hlk).below hnx (Nat.le_refl _) lb2
     have hlt2 : start ws t + k < (outs ws).length := by omega
     obtain ⟨e1, e2, e3⟩ := HO.out k hlk
     obtain ⟨d0, d1, d2, d3, d4, d5, d6, _⟩ := ho
     generalize oAt os k = o at *
     have hb7 := (Below.refl _ wr).alloc (Nat.le_refl _) (.cells #[.int .i64 o.id, .int .i64 o.into, .slice o.P o.ps.length o.c, .int .i64 o.kl, .int .i64 o.kh, .int .i64 o.sl, .int .i64 o.sh] 69)
     obtain ⟨fn, tmps, assign, body, hy, hR⟩ := hY _ ⟨start ws t + k, hlt2⟩ (wr.alloc (.cells #[.int .i64 o.id, .int .i64 o.into, .slice o.P o.ps.length o.c, .int .i64 o.kl, .int .i64 o.kh, .int .i64 o.sl, .int .i64 o.sh] 69)) (hJa _ _ _ hJs) (by rw [firsts_length (by omega)]; exact hlt2)
     dsimp only [encI] at hy
     rw [e1, e2, e3] at hy
     unfold Ot.v at hy
     rw [← firsts_succ hlt2] at hR
     have HB7 := Lib.hid (hnx.trans (hb7.mono (Nat.le_trans hn1 hnx.size)))
     clear hb7 hnx hJs hc2 hY
     generalize hsk : start ws t + k = s at *
     have HS := Lib.hid hsk
     clear hsk
     gi_wp2
     refine hR.mono ?_
     rintro e W3 (⟨rfl, hJ3, hk3⟩ | ⟨rfl, hJx3⟩)
     ·gi_wp2
      go_roundw
      case rel => exact ⟨k + 1, by omega, by simp, int_eq (by have := HS.out; omega), by rw [show start ws t + (k + 1) = s + 1 by have := HS.out; omega]; exact hJ3, HB7.out.trans (hk3.mono hn0)⟩
      case measure => simp [intOf]; omega
     ·gi_wp2
      refine bodyPost_ret (results_none rfl _ _ _) rfl ?_
      exact ⟨⟨_, rfl⟩, .inr ⟨_, ⟨_, hlt2, rfl⟩, hJx3⟩⟩
    ·have hlkz : ¬ (k : Int) < (os.length : Int) := by omega
     obtain rfl : k = os.length := by omega
     gi_wp2
     go_roundw
     case rel => exact ⟨t + 1, by omega, by simp, by rw [hs], by rw [hs]; exact hJs, hnx⟩
     case measure => simp [intOf]; omega
  ·have hltz : ¬ (t : Int) < (ws.length : Int) := by omega
   obtain rfl : t = ws.length := by omega
   rw [start_all, firsts_all] at hJs
   gi_wp2
   go_end0
   exact ⟨⟨_, rfl⟩, .inl hJs⟩

theorem outlets_stops (n : Nat) (hn : 1 ≤ n) (n₁ B : Nat) (A : Option Addr) (c : Nat) (ws : List Car) (w : World) (hn1 : n₁ ≤ w.heap.size) (p1 : w.cell? ⟨B, 0, none⟩ = some (.slice A ws.length c)) (hB : B < w.heap.size)
  (hr : RdW w n₁ A ws) (hm : ws.length ≤ maxLen) (hN : (outs ws).length ≤ 1000000000) :
  SeqStopsK Fence.wide n Tryz.prog 68 #[.pointer (some ⟨B, 0, none⟩)] (encI ws) (Below n₁) (fun zs => zs = List.finRange (outs ws).length) (fun pre => ∃ k, k < (outs ws).length ∧ pre = firsts (outs ws).length (k + 1)) (outs ws).length w :=
 fun l J Jx W hW hJ _ hY h0 => outlets1_in n hn l n₁ B A c ws J Jx hY (fun s W' o h => hJ s W' _ none h (World.grownBy_alloc W' o none) (fun _ e => by cases e)) n₁ W (Nat.le_refl _) (Nat.le_trans hn1 hW.size)
  ((hW.cell (p := ⟨B, 0, none⟩) hB).trans p1) (hr.below hW hn1) hm hN h0
end Go.Proofs.YtegmniphgahblaaGreat
namespace Go.Proofs.YtegmniphgahblaaGreat
open Go.RowKit Go.Shelf
attribute [local go_sem] Oper.semAt_some

set_option maxRecDepth 100000 in
theorem eg_outlets : ∀ args w, (callFunc 68 args).run Tryz.prog w = .ok (.enter 68 args) w := fun _ _ => by rfl

/-- The boxes of the two variables of a loop over the outlets. -/
structure Bx (W : World) (g4 g5 : Nat) (ws : List Car) (x : Nat) : Prop where
 p : W.heap[g4]? = some (.cells #[.int .i64 (x : Int), .int .i64 (caAt ws x : Int), .int .i64 (atAt ws x : Int)] 103 (0, 0))
 o : W.heap[g5]? = some (.cells #[.int .i64 (oAt (outs ws) x).id, .int .i64 (oAt (outs ws) x).into, .slice (oAt (outs ws) x).P (oAt (outs ws) x).ps.length (oAt (outs ws) x).c, .int .i64 (oAt (outs ws) x).kl, .int .i64 (oAt (outs ws) x).kh, .int .i64 (oAt (outs ws) x).sl, .int .i64 (oAt (outs ws) x).sh] 69 (0, 0))
theorem heap_kept {W W' : World} {row : Option Nat} {g : Nat} {o : Obj} (h : W.heap[g]? = some o) (ho : o.isCells = true) (hg : W.grownBy W' row) (hr : ∀ r, row = some r → ∃ o : Obj, W.heap[r]? = some o ∧ o.isCells = false) : W'.heap[g]? = some o :=
 (hg.block g (Array.getElem?_eq_some_iff.1 h).1 (fun e => by
  obtain ⟨o', h1, h2⟩ := hr g e.symm
  rw [h] at h1
  cases h1
  rw [ho] at h2
  cases h2)).trans h
theorem grown_cell {W W' : World} {row : Option Nat} {g i : Nat} {v : Value} (hg : W.grownBy W' row) (h : W.cell? ⟨g, i, none⟩ = some v) (hne : some g ≠ row) : W'.cell? ⟨g, i, none⟩ = some v := by
 obtain ⟨o, ho, _⟩ := cells_of_cell h
 have h2 := hg.block g (Array.getElem?_eq_some_iff.1 ho).1 hne
 rw [← h]
 simp [World.cell?, h2]
theorem Bx.kept {W W' : World} {row : Option Nat} {g4 g5 : Nat} {ws : List Car} {x : Nat} (h : Bx W g4 g5 ws x) (hg : W.grownBy W' row) (hr : ∀ r, row = some r → ∃ o : Obj, W.heap[r]? = some o ∧ o.isCells = false) : Bx W' g4 g5 ws x :=
 ⟨heap_kept h.p rfl hg hr, heap_kept h.o rfl hg hr⟩

theorem Bx.new (W : World) (ws : List Car) (x : Nat) : Bx ((W.alloc (.cells #[.int .i64 (x : Int), .int .i64 (caAt ws x : Int), .int .i64 (atAt ws x : Int)] 103)).alloc
  (.cells #[.int .i64 (oAt (outs ws) x).id, .int .i64 (oAt (outs ws) x).into, .slice (oAt (outs ws) x).P (oAt (outs ws) x).ps.length (oAt (outs ws) x).c, .int .i64 (oAt (outs ws) x).kl, .int .i64 (oAt (outs ws) x).kh, .int .i64 (oAt (outs ws) x).sl, .int .i64 (oAt (outs ws) x).sh] 69)) W.heap.size (W.heap.size + 1) ws x :=
 ⟨(Below.heap_alloc _ _ _ (by simp)).trans (World.alloc_heap_new W _), by rw [← World.size_alloc W (.cells #[.int .i64 (x : Int), .int .i64 (caAt ws x : Int), .int .i64 (atAt ws x : Int)] 103)]; exact World.alloc_heap_new _ _⟩
theorem cell_row {W : World} {g i : Nat} {cs : Array Value} {ty : TypeId} {f : Nat × Nat} (h : W.heap[g]? = some (.cells cs ty f)) : W.cell? ⟨g, i, none⟩ = cs[i]? := by simp [World.cell?, h]
theorem cr {W : World} {g : Nat} {cs : Array Value} {ty : TypeId} {f : Nat × Nat} (i : Nat) (h : W.heap[g]? = some (.cells cs ty f)) : W.cell? ⟨g, i, none⟩ = cs[i]? := cell_row h
theorem Bx.place {W : World} {g4 g5 : Nat} {ws : List Car} {x : Nat} (h : Bx W g4 g5 ws x) : W.cell? ⟨g4, 0, none⟩ = some (.int .i64 (x : Int)) ∧ W.cell? ⟨g4, 1, none⟩ = some (.int .i64 (caAt ws x : Int)) ∧ W.cell? ⟨g4, 2, none⟩ = some (.int .i64 (atAt ws x : Int)) :=
 ⟨cell_row h.p, cell_row h.p, cell_row h.p⟩
theorem Bx.outlet {W : World} {g4 g5 : Nat} {ws : List Car} {x : Nat} (h : Bx W g4 g5 ws x) : W.cell? ⟨g5, 0, none⟩ = some (.int .i64 (oAt (outs ws) x).id) ∧ W.cell? ⟨g5, 1, none⟩ = some (.int .i64 (oAt (outs ws) x).into) ∧
  W.cell? ⟨g5, 2, none⟩ = some (.slice (oAt (outs ws) x).P (oAt (outs ws) x).ps.length (oAt (outs ws) x).c) ∧ W.cell? ⟨g5, 3, none⟩ = some (.int .i64 (oAt (outs ws) x).kl) ∧ W.cell? ⟨g5, 4, none⟩ = some (.int .i64 (oAt (outs ws) x).kh) ∧
  W.cell? ⟨g5, 5, none⟩ = some (.int .i64 (oAt (outs ws) x).sl) ∧ W.cell? ⟨g5, 6, none⟩ = some (.int .i64 (oAt (outs ws) x).sh) :=
 ⟨cell_row h.o, cell_row h.o, cell_row h.o, cell_row h.o, cell_row h.o, cell_row h.o, cell_row h.o⟩
/-- What laying two boxes, or one, keeps. -/
theorem two_keeps (B : Nat) (W : World) (o o' : Obj) : KeepsFrom B W ((W.alloc o).alloc o') := ((KeepsOthers.alloc W o).trans (KeepsOthers.alloc _ o')).from B
theorem two_below {m : Nat} {W : World} (h : m ≤ W.heap.size) (o o' : Obj) : Below m W ((W.alloc o).alloc o') := ((Below.refl _ W).alloc h o).alloc (by rw [World.size_alloc]; omega) o'

/-- The feeders of carriers, told of some outlets. -/
def feedStep (ws : List Car) (f : Int → Option (Int × Int × Int)) (i : Nat) : Int → Option (Int × Int × Int) :=
 if 0 ≤ (oAt (outs ws) i).into then upd f (oAt (outs ws) i).into ((i : Int), (caAt ws i : Int), (atAt ws i : Int)) else f
def feedL (ws : List Car) (l : List (Fin (outs ws).length)) : Int → Option (Int × Int × Int) := l.foldl (fun f i => feedStep ws f i.1) (fun _ => none)
theorem feedL_snoc (ws : List Car) (l : List (Fin (outs ws).length)) (x : Fin (outs ws).length) : feedL ws (l ++ [x]) = feedStep ws (feedL ws l) x.1 := by simp [feedL]

set_option maxRecDepth 100000 in
set_option maxHeartbeats 2000000 in
theorem feeders_in (n : Nat) (hn : 3 ≤ n) (A : Option Addr) (c : Nat) (ws : List Car) (w : World) (h : RdW w w.heap.size A ws) (hm : ws.length ≤ maxLen) (hN : (outs ws).length ≤ 1000000000)
  (hg : ∀ i, i < (outs ws).length → (Lit.int .i64 (oAt (outs ws) i).into).wf = true) :
  CallsIn Fence.wide n Tryz.prog 67 #[.agg #[.slice A ws.length c]] w fun e w' => ∃ g, e = .returned (.map (some g)) ∧ MapP w' g (outs ws).length (feedL ws (List.finRange (outs ws).length)) ∧ w.heap.size ≤ g ∧ Below w.heap.size w w' := by
 have h1 : 1 ≤ n := by omega
 have hmm := @run_makeMap Tryz.prog
 refine callsIn_of_wp_marks Tryz.func67 rfl trivial ?_ rfl
 simp only [Tryz.ntmps67, List.size_toArray, List.length_cons, List.length_nil, Nat.reduceAdd, Nat.reduceSub, Array.replicate_succ, Array.replicate_zero, List.push_toArray, List.append_toArray, List.nil_append, List.cons_append]
 gi_wp2
 refine ⟨trivial, ?_⟩
 refine (callsIn_wide.2 (outlets_any A c ws.length _)).mono ?_
 rintro e w' ⟨rfl, rfl⟩
 gi_wp2
 have hb : Below w.heap.size w ((((w.alloc (.cells #[.slice A ws.length c] 24)).alloc (.map #[] 0)).alloc (.cells #[.map (some (w.heap.size + 1))] 136)).alloc (.cells #[.slice A ws.length c] 24)) :=
  ((((Below.refl _ w).alloc (Nat.le_refl _) _).alloc (by simp) _).alloc (by simp; omega) _).alloc (by simp; omega) _
 have hM0 := MapI.made (w.alloc (.cells #[.slice A ws.length c] 24)) plR plE
 rw [World.size_alloc] at hM0
 have hM : MapP ((((w.alloc (.cells #[.slice A ws.length c] 24)).alloc (.map #[] 0)).alloc (.cells #[.map (some (w.heap.size + 1))] 136)).alloc (.cells #[.slice A ws.length c] 24)) (w.heap.size + 1) 0 (fun _ => none) :=
  (hM0.kept (World.grownBy_alloc _ _ none) (by simp)).kept (World.grownBy_alloc _ _ none) (by simp)
 have c3 : ((((w.alloc (.cells #[.slice A ws.length c] 24)).alloc (.map #[] 0)).alloc (.cells #[.map (some (w.heap.size + 1))] 136)).alloc (.cells #[.slice A ws.length c] 24)).cell? ⟨w.heap.size + 1 + 1, 0, none⟩ = some (.map (some (w.heap.size + 1))) := by simp [go_sem]
 have c8 : ((((w.alloc (.cells #[.slice A ws.length c] 24)).alloc (.map #[] 0)).alloc (.cells #[.map (some (w.heap.size + 1))] 136)).alloc (.cells #[.slice A ws.length c] 24)).cell? ⟨w.heap.size + 1 + 1 + 1, 0, none⟩ = some (.slice A ws.length c) := by simp [go_sem]
 have hsz : ((((w.alloc (.cells #[.slice A ws.length c] 24)).alloc (.map #[] 0)).alloc (.cells #[.map (some (w.heap.size + 1))] 136)).alloc (.cells #[.slice A ws.length c] 24)).heap.size = w.heap.size + 4 := by simp
 generalize hgW : ((((w.alloc (.cells #[.slice A ws.length c] 24)).alloc (.map #[] 0)).alloc (.cells #[.map (some (w.heap.size + 1))] 136)).alloc (.cells #[.slice A ws.length c] 24)) = W2 at *
 clear hgW hM0
 have hseq := outlets_stops (n - 1) (by omega) w.heap.size (w.heap.size + 1 + 1 + 1) A c ws W2 hb.size c8 (by omega) (h.below hb (Nat.le_refl _)) hm hN
 obtain ⟨I, hI⟩ : ∃ I : List (Fin (outs ws).length) → World → Prop, ∀ pre W, I pre W ↔ (MapP W (w.heap.size + 1) pre.length (feedL ws pre) ∧ W.cell? ⟨w.heap.size + 1 + 1, 0, none⟩ = some (.map (some (w.heap.size + 1))) ∧ Below w.heap.size w W ∧ W2.heap.size ≤ W.heap.size) := ⟨_, fun _ _ => Iff.rfl⟩
 have hO : OwnFrom W2.heap.size I := by
  intro pre W W' row h0 hgr hrow
  obtain ⟨i1, i2, i3, i4⟩ := (hI _ _).1 h0
  have hlt : ∀ r, row = some r → W2.heap.size ≤ r := fun r e => (hrow r e).1
  exact (hI _ _).2 ⟨i1.kept hgr (fun e => by have := hlt _ e.symm; omega), cell_kept i2 hgr (fun r e => (hrow r e).2), i3.grown hgr (by omega) (fun k e => by have := hlt k e; omega), Nat.le_trans i4 hgr.size⟩
 refine wpIn_rangeFunc_ownH rfl h1 (gf := 68) (lb := #[.pointer (some ⟨w.heap.size + 1 + 1 + 1, 0, none⟩)]) rfl trivial eg_outlets hseq belowK_t (belowK_b hb.size) (Below.refl _ W2) (fun _ => rfl)
  I (fun _ _ _ => False) hO (fun _ _ _ _ _ hs _ _ => hs) ((hI _ _).2 ⟨hM, c3, hb, Nat.le_refl _⟩)
  (fun x a' W => ∃ g4 g5, a' = { tmps := #[.agg #[.slice A ws.length c], .pointer (some ⟨w.heap.size, 0, none⟩), .map none, .pointer (some ⟨w.heap.size + 1 + 1, 0, none⟩), .pointer (some ⟨g4, 0, none⟩), .pointer (some ⟨g5, 0, none⟩),
    .map (some (w.heap.size + 1)), .agg #[.slice A ws.length c], .func (.func 68) #[] #[.pointer (some ⟨w.heap.size + 1 + 1 + 1, 0, none⟩)], .agg #[.int .i64 (x.1 : Int), .int .i64 (caAt ws x.1 : Int), .int .i64 (atAt ws x.1 : Int)], (oAt (outs ws) x.1).v,
    undef, undef, undef, undef, undef, undef, undef, undef], defers := [] } ∧ Bx W g4 g5 ws x.1)
  ?ownA ?assign ?body ?done (fun _ _ _ _ _ _ h _ => h.elim)
 case ownA =>
  rintro x a' _ W W' row ⟨g4, g5, e, hx⟩ hgr hrow
  exact ⟨g4, g5, e, hx.kept hgr (fun r e => (hrow r e).2)⟩
 case assign =>
  intro l pre x W K hi hK
  have hs := ((hI _ _).1 hi).2.2.2
  dsimp only [encI, Ot.v]
  gi_wp2
  exact hK _ _ (two_keeps _ _ _ _) (two_below (by omega) _ _) (hO.alloc _ (hO.alloc _ hi)) ⟨_, _, rfl, Bx.new W ws x.1⟩
 case body =>
  rintro l pre x a' W hl hrec hi ⟨g4, g5, rfl, hx⟩ hpre
  obtain ⟨hM, c3, hbw, hs⟩ := (hI _ _).1 hi
  obtain ⟨p0, p1, p2⟩ := hx.place
  obtain ⟨_, o1, _⟩ := hx.outlet
  have hsn := feedL_snoc ws pre x
  have hwf := hg x.1 x.2
  unfold feedStep at hsn
  have HB := Lib.hid hbw
  clear hseq hx hbw
  generalize (oAt (outs ws) x.1).into = q at *
  by_cases hq : 0 ≤ q
  ·rw [if_pos hq] at hsn
   have HS := Lib.hid hsn
   clear hsn
   gi_wp2_with (gi_at_mapUpdate; refine wpListIn_put rfl _ _ _ 136 rfl 103 (by kernel_rfl) rfl hM (by unfold maxLen; omega) (plV ((x.1 : Int), (caAt ws x.1 : Int), (atAt ws x.1 : Int))) q ((x.1 : Int), (caAt ws x.1 : Int), (atAt ws x.1 : Int)) rfl hwf rfl [] (plR_v _) ?_; intro w1 hM1 hg1)
   exact ⟨KeepsFrom.of_grownBy hg1 (fun j e => by cases e; omega), (Below.refl _ W).grown hg1 HB.out.size (fun k e => by cases e; omega), (hI _ _).2 ⟨by rw [List.length_append, HS.out]; exact hM1,
    grown_cell hg1 c3 (by simp), HB.out.grown hg1 HB.out.size (fun k e => by cases e; omega), Nat.le_trans hs hg1.size⟩⟩
  ·rw [if_neg hq] at hsn
   have HS := Lib.hid hsn
   clear hsn
   gi_wp2
   exact ⟨KeepsFrom.refl _ _, Below.refl _ _, (hI _ _).2 ⟨by rw [HS.out]; exact hM.mono (by simp), c3, HB.out, hs⟩⟩
 case done =>
  rintro D ys W hD rfl hi hK
  obtain ⟨hM, c3, hbw, hs⟩ := (hI _ _).1 hi
  gi_wp2
  refine ⟨by simp, .inl ⟨_, _, rfl, run_takeDeferred hK, ?_⟩⟩
  exact ⟨_, results_tmp rfl _ _ _, _, rfl, (hM.block (World.putObj_heap_other (by omega))).mono (by simp), Nat.le_succ _, hbw.trans (belowK_b hb.size W D _ _ hD hK rfl rfl)⟩

theorem feeders_any (A : Option Addr) (c : Nat) (ws : List Car) (w : World) (h : RdW w w.heap.size A ws) (hm : ws.length ≤ maxLen) (hN : (outs ws).length ≤ 1000000000)
  (hg : ∀ i, i < (outs ws).length → (Lit.int .i64 (oAt (outs ws) i).into).wf = true) :
  Calls Tryz.prog 67 #[.agg #[.slice A ws.length c]] w fun e w' => ∃ g, e = .returned (.map (some g)) ∧ MapP w' g (outs ws).length (feedL ws (List.finRange (outs ws).length)) ∧ w.heap.size ≤ g ∧ Below w.heap.size w w' :=
 callsIn_wide.1 (feeders_in 3 (Nat.le_refl _) A c ws w h hm hN hg)
end Go.Proofs.YtegmniphgahblaaGreat
namespace Go.Proofs.YtegmniphgahblaaGreat
open Go.RowKit

theorem info3 : (Tryz.prog.info? 3).map (fun i => (i.zero, i.size, i.bytes)) = some (some (.int .i64 0), 1, 8) := by kernel_rfl

/-- A slice of the call's own that holds xs. -/
def Own (w : World) (base : Nat) (v : Value) (xs : List Int) : Prop := w.ownsRow base 3 1 v xs.length (xs.map (Value.int .i64))

theorem nth_map {xs : List Int} {i : Nat} (h : i < xs.length) : (xs.map (Value.int .i64))[i]? = some (.int .i64 (nth xs i)) := by
 rw [List.getElem?_map, List.getElem?_eq_getElem h]
 simp [nth, List.getD, List.getElem?_eq_getElem h]

theorem add_eq (g o i : Nat) : (⟨g, o, none⟩ : Addr).add i = ⟨g, o + i, none⟩ := by unfold Addr.add; split <;> simp_all
theorem map_nth {xs : List Int} {j : Nat} {u : Value} (h : (xs.map (Value.int .i64))[j]? = some u) : j < xs.length ∧ u = .int .i64 (nth xs j) := by
 have hl : j < xs.length := by have := (List.getElem?_eq_some_iff.1 h).1; simpa using this
 rw [nth_map hl] at h
 exact ⟨hl, (Option.some.inj h).symm⟩

theorem Own.rd {w : World} {base : Nat} {v : Value} {xs : List Int} (h : Own w base v xs) : ∃ A c, v = .slice A xs.length c ∧ Rd w w.heap.size A xs ∧ Fresh base A := by
 have h0 := h
 rcases h.2 with ⟨rfl, hn⟩ | ⟨g, cap, cur, rfl, hb, hg, hnc, hcm, hcs, ht⟩
 ·refine ⟨none, 0, by rw [hn], fun hl => absurd hl (by omega), fun _ e => by cases e⟩
 ·refine ⟨_, _, rfl, fun hl => ⟨g, 0, rfl, (Array.getElem?_eq_some_iff.1 hg).1, fun i hi => ?_⟩, fun ad e => by cases e; exact hb⟩
  have h1 := World.ownsRow.cells h0 (g := g) rfl i _ (nth_map hi)
  rwa [add_eq] at h1

theorem Own.nil (w : World) (base : Nat) : Own w base (.slice none 0 0) [] := World.ownsRow_nil w base 3 1

/-- What a call hands back that returns a slice that reads as xs. -/
def RSlice (w : World) (xs : List Int) (e : Ending) (w' : World) : Prop := ∃ A c, e = .returned (.slice A xs.length c) ∧ Rd w' w'.heap.size A xs ∧ Fresh w.heap.size A ∧ Below w.heap.size w w'
set_option maxHeartbeats 400000 in
theorem clone_any (b off c : Nat) (xs : List Int) (w : World) (h : Rd w w.heap.size (some ⟨b, off, none⟩) xs) (h0 : 0 < xs.length) (hm : xs.length ≤ 1000) :
  Calls Tryz.prog 42 #[.slice (some ⟨b, off, none⟩) xs.length c] w fun e w' => RSlice w xs e w' := by
 have q25 : ∀ (w : World) (a : Option Addr) (n c n' c' : Nat), (binOp .eql 28 (.slice a n c) (.slice none n' c')).run Tryz.prog w = .ok (.bool a.isNone) w := fun w a n c n' c' => Lib.run_eql_slice_nil w _ _ a n c n' c' Tryz.underlying28
 obtain ⟨i0, hi, hz0, hz1, hz2⟩ := info_parts info3
 go_enter Tryz.func42, Tryz.ntmps42
 go_wp2_with (at_builtin; refine wpList_append_own_at _ rfl _ _ 28 rfl (w.heap.size) 3 i0 (.int .i64 0) 1 8 Tryz.underlying28 hi hz0 hz1 hz2 rfl (by decide) _ 0 [] rfl ?c1 ⟨b, off, none⟩ xs.length c (xs.map (Value.int .i64)) rfl (by simp) ?c2 ?c3 ?c4 ?c5 ?c6 ?_)
 case c1 => exact World.ownsRow_made w #[] 0 (Nat.le_refl _) (by simp) rfl
 case c2 =>
  intro j u hj
  obtain ⟨hl, rfl⟩ := map_nth hj
  obtain ⟨b', off', e, hlb, hc⟩ := h h0
  simp only [Option.some.injEq, Addr.mk.injEq, and_true] at e
  obtain ⟨rfl, rfl⟩ := e
  rw [add_eq, World.cell?_alloc_past _ _ _ hlb]
  exact hc j hl
 case c3 => exact ints_oneCell _ _
 case c4 => unfold maxLen; omega
 case c5 => omega
 case c6 => simp
 intro v' w' hown hgrow _ _
 have hO : Own w' w.heap.size v' xs := hown
 obtain ⟨A, c', rfl, hrd, hfr⟩ := hO.rd
 have hb : Below w.heap.size w w' := (((Below.refl _ w).alloc (Nat.le_refl _) _).grown hgrow (by simp) (by intro k hk; simp [Value.ownBlock] at hk; omega))
 clear hown hgrow
 go_wp2
 go_ret
 exact ⟨A, c', rfl, hrd, hfr, hb⟩
end Go.Proofs.YtegmniphgahblaaGreat
