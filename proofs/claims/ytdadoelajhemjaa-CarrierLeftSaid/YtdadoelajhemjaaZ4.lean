/- Walks: the specification's Without (its errors); words for what it keeps. -/
import Derived.Test.YtdadoelajhemjaaZ2
import Derived.Test.YtdadoelajhemjaaC6
import Derived.Test.YtdadoelajhemjaaC7
import Derived.Test.YtdadoelajhemjaaN1
namespace Go.Proofs.Ytdadoelajhemjaa
open Go.RowKit Go.Shelf

/-- What the specification's Without returns. -/
def RWithR (w : World) (ws : List Car) (n : Int) (e : Ending) (w' : World) : Prop := ∃ A' c' ws', e = .returned (.agg #[.slice A' ws'.length c', .int .i64 (withE ws n)]) ∧ RdW w' w'.heap.size A' ws' ∧ contW ws' = withC ws n ∧ Below w.heap.size w w'
/-- Truths that may be written. -/
structure BolF (W : World) (g n : Nat) (f : Nat → Bool) : Prop where
 at_ : ∀ j, j < n → W.cell? ⟨g, j, none⟩ = some (.bool (f j))
 fz : ∀ o, W.frozen? ⟨g, o, none⟩ = false
theorem BolF.heap {W W' : World} {g n : Nat} {f : Nat → Bool} (h : BolF W g n f) (e : W'.heap[g]? = W.heap[g]?) : BolF W' g n f := ⟨fun j hj => (cell_of_heap e).trans (h.at_ j hj), fun o => by have := h.fz o; unfold World.frozen? at this ⊢; rw [e]; exact this⟩
theorem BolF.set {W : World} {g n i : Nat} {f f' : Nat → Bool} (h : BolF W g n f) (hi : i < n) (x : Bool) (hf : ∀ j, f' j = if j = i then x else f j) : BolF (W.setCell ⟨g, i, none⟩ (.bool x)) g n f' := by
 refine ⟨fun j hj => ?_, fun o => by rw [World.frozen?_setCell]; exact h.fz o⟩
 rw [hf]
 by_cases e : j = i
 ·subst e
  rw [if_pos rfl]
  exact World.cell?_setCell_same' _ _ _ (by rw [h.at_ j hj]; rfl)
 ·rw [if_neg e, cell_set_ne e]
  exact h.at_ j hj
theorem IntF.set2 {W : World} {g n i : Nat} {f f' : Nat → Int} (h : IntF W g n f) (hi : i < n) (x : Int) (hf : ∀ j, f' j = if j = i then x else f j) : IntF (W.setCell ⟨g, i, none⟩ (.int .i64 x)) g n f' := by
 have : f' = put f i x := funext fun j => hf j
 rw [this]
 exact h.set hi x
def goF (ws : List Car) (n : Int) (t j : Nat) : Bool := decide (j < t) && !stB ws n j
def noF (ws : List Car) (n : Int) (t j : Nat) : Int := if j < t then (cntB ws n j : Int) else 0
/-- The two lists of the specification, while they are made. -/
structure GoI (X Y : World) (gG gN : Nat) (ws : List Car) (n : Int) (t t' : Nat) : Prop where
 bl : Below X.heap.size X Y
 bg : BolF Y gG ws.length (goF ws n t)
 bn : IntF Y gN ws.length (noF ws n t')
 l1 : X.heap.size ≤ gG ∧ gG < Y.heap.size
 l2 : X.heap.size ≤ gN ∧ gN < Y.heap.size
 ne : gG ≠ gN
section
variable {X Y Z : World} {gG gN : Nat} {ws : List Car} {n : Int} {t t' : Nat}
theorem GoI.on (h : GoI X Y gG gN ws n t t') (hb : Below Y.heap.size Y Z) : GoI X Z gG gN ws n t t' :=
 ⟨h.bl.trans (hb.mono h.bl.size), h.bg.heap (hb.block _ h.l1.2), h.bn.heap (hb.block _ h.l2.2), ⟨h.l1.1, Nat.lt_of_lt_of_le h.l1.2 hb.size⟩, ⟨h.l2.1, Nat.lt_of_lt_of_le h.l2.2 hb.size⟩, h.ne⟩
theorem goF_next (ws : List Car) (n : Int) (t j : Nat) : goF ws n (t + 1) j = if j = t then !stB ws n t else goF ws n t j := by
 unfold goF
 by_cases e : j = t
 ·subst e; simp
 ·rw [if_neg e]
  have : decide (j < t + 1) = decide (j < t) := by
   by_cases h : j < t
   ·rw [decide_eq_true h, decide_eq_true (by omega)]
   ·rw [decide_eq_false h, decide_eq_false (by omega)]
  rw [this]
theorem noF_next (ws : List Car) (n : Int) (t j : Nat) : noF ws n (t + 1) j = if j = t then (cntB ws n t : Int) else noF ws n t j := by
 unfold noF
 by_cases e : j = t
 ·subst e; rw [if_pos (by omega), if_pos rfl]
 ·rw [if_neg e]
  by_cases h : j < t
  ·rw [if_pos h, if_pos (by omega)]
  ·rw [if_neg h, if_neg (by omega)]
theorem GoI.setG (h : GoI X Y gG gN ws n t t') (ht : t < ws.length) {b : Bool} (hb : b = !stB ws n t) : GoI X (Y.setCell ⟨gG, t, none⟩ (.bool b)) gG gN ws n (t + 1) t' := by
 have l1 := h.l1
 have l2 := h.l2
 have ne := h.ne
 subst hb
 exact ⟨h.bl.setCell (p := ⟨gG, t, none⟩) l1.1 _, h.bg.set ht _ (goF_next ws n t), h.bn.heap (Below.heap_setCell _ _ _ _ (by show gN ≠ gG; omega)), ⟨l1.1, by rw [World.size_setCell]; exact l1.2⟩, ⟨l2.1, by rw [World.size_setCell]; exact l2.2⟩, ne⟩
theorem GoI.setN (h : GoI X Y gG gN ws n t t') (ht : t' < ws.length) : GoI X (Y.setCell ⟨gN, t', none⟩ (.int .i64 (cntB ws n t' : Int))) gG gN ws n t (t' + 1) := by
 have l1 := h.l1
 have l2 := h.l2
 have ne := h.ne
 exact ⟨h.bl.setCell (p := ⟨gN, t', none⟩) l2.1 _, h.bg.heap (Below.heap_setCell _ _ _ _ (by show gG ≠ gN; omega)), h.bn.set2 ht _ (noF_next ws n t'), ⟨l1.1, by rw [World.size_setCell]; exact l1.2⟩, ⟨l2.1, by rw [World.size_setCell]; exact l2.2⟩, ne⟩
end
/-- The new number of what an outlet feeds. -/
theorem newInto_neg (ws : List Car) (n : Int) : newInto ws n (-1) = -1 := by unfold newInto anewF; rw [if_neg (by omega)]; rfl
theorem newInto_at {ws : List Car} {n : Int} {z : Nat} (h : z < ws.length) : newInto ws n (z : Int) = if stB ws n z = true then (cntB ws n z : Int) else -1 := by
 unfold newInto
 rw [anewF_at h]
 split <;> rfl
/-- The box of the carrier that is being made. -/
structure InX (W X : World) (g : Nat) (ws : List Car) (n : Int) (src : List Ot) (A : Option Addr) (c d : Nat) (os : List Ot) : Prop where
 bl : Below g W X
 bk : Blk X g #[.slice A d c] 38
 oi : OsI X (g + 1) (.slice A d c) os
 len : os.length = d
 co : os.map Ot.oc = (src.take d).map (turnO ws n)
 lt : g + 1 ≤ X.heap.size
theorem InX.on {W X Y : World} {g : Nat} {ws : List Car} {n : Int} {src : List Ot} {A : Option Addr} {c d : Nat} {os : List Ot} (h : InX W X g ws n src A c d os) (hb : Below X.heap.size X Y) : InX W Y g ws n src A c d os :=
 ⟨h.bl.trans (hb.mono (by have := h.lt; omega)), blk_on h.bk hb, h.oi.later hb, h.len, h.co, Nat.le_trans h.lt hb.size⟩
theorem InX.app {W X Y Z : World} {g : Nat} {ws : List Car} {n : Int} {src : List Ot} {A : Option Addr} {c d : Nat} {os : List Ot} (h : InX W X g ws n src A c d os) (hk : ∀ k, k < X.heap.size → Y.heap[k]? = X.heap[k]?) (hs : X.heap.size ≤ Y.heap.size) (hg : Y.grownBy Z (Value.slice A d c).ownBlock) : Blk Z g #[.slice A d c] 38 :=
 (hg.block g (by have := h.lt; omega) (fun e => by have := (row_lt h.oi.own e.symm).1; omega)).trans ((hk g (by have := h.lt; omega)).trans h.bk)
theorem InX.push {W X Y Z : World} {g : Nat} {ws : List Car} {n : Int} {src : List Ot} {A : Option Addr} {c d : Nat} {os : List Ot} (h : InX W X g ws n src A c d os) (hd : d < src.length) {P : Option Addr} {pc : Nat}
  (hY : Below g W Y) (hk : ∀ k, k < X.heap.size → Y.heap[k]? = X.heap[k]?) (hs : X.heap.size ≤ Y.heap.size) (hr : Rd Y Y.heap.size P (oAt src d).ps) (hf : Fresh X.heap.size P) {o : Ot} (ho : o = ⟨(oAt src d).id, newInto ws n (oAt src d).into, P, pc, (oAt src d).ps, (oAt src d).kl, (oAt src d).kh, (oAt src d).sl, (oAt src d).sh⟩) {A' : Option Addr} {c' : Nat}
  (hown : Z.ownsRow (g + 1) 42 7 (.slice A' (d + 1) c') (d + 1) (cellsO os ++ o.cells)) (hg : Y.grownBy Z (Value.slice A d c).ownBlock) (hb : (Value.slice A' (d + 1) c').ownBlock = (Value.slice A d c).ownBlock ∨ (Value.slice A' (d + 1) c').ownBlock = some Y.heap.size) :
  InX W (Z.setCell ⟨g, 0, none⟩ (.slice A' (d + 1) c')) g ws n src A' c' (d + 1) (os ++ [o]) := by
 have hl := h.len
 have hrow : ∀ k, (Value.slice A d c).ownBlock = some k → g + 1 ≤ k ∧ k < X.heap.size := fun k e => row_lt h.oi.own e
 have hX := h.lt
 have hzs := hg.size
 have ey : OsI Y (g + 1) (.slice A d c) os := h.oi.keep (fun k _ h2 => hk k h2) hs
 have hp : OsI Z (g + 1) (.slice A' (d + 1) c') (os ++ [o]) := ey.push (by rw [ho]; exact hr) (by
  rw [ho]
  exact fun _ ad e => ⟨Nat.le_trans hX (hf _ e), fun e2 => by have := (hrow _ e2).2; have := hf _ e; omega⟩) (by rw [hl]; exact hown) hg hb
 refine ⟨(hY.grown hg (by omega) (fun k e => by have := (hrow k e).1; omega)).setCell (p := ⟨g, 0, none⟩) (Nat.le_refl _) _, heap_setCell_same _ _ 0 _ _ _ (h.app hk hs hg), hp.keep (fun j h1 _ => Below.heap_setCell _ _ _ _ (by show j ≠ g; omega)) (by rw [World.size_setCell]; exact Nat.le_refl _), by rw [List.length_append, hl]; rfl, ?_, by rw [World.size_setCell]; omega⟩
 rw [List.map_append, h.co, List.take_add_one, List.map_append, List.getElem?_eq_getElem hd]
 have e : oAt src d = src[d] := by unfold oAt; rw [List.getD_eq_getElem?_getD, List.getElem?_eq_getElem hd]; rfl
 rw [ho, e]
 rfl
/-- The box of an outlet that is being turned, and its passes. -/
structure TuX (W wr X : World) (gx gB : Nat) (cs : Array Value) (PA : Option Addr) (ps : List Int) : Prop where
 b : Below gx W X
 o : ∀ k, k < wr.heap.size → X.heap[k]? = wr.heap[k]?
 s : wr.heap.size ≤ X.heap.size
 r : Rd X X.heap.size PA ps
 f : Fresh wr.heap.size PA
 f2 : Fresh (gB + 1) PA
 k : Blk X gB cs 42
 g : wr.heap.size ≤ gB ∧ gx ≤ gB
theorem TuX.set {W wr X : World} {gx gB : Nat} {cs : Array Value} {PA : Option Addr} {ps : List Int} (h : TuX W wr X gx gB cs PA ps) (j : Nat) (v : Value) : TuX W wr (X.setCell ⟨gB, j, none⟩ v) gx gB (cs.setIfInBounds j v) PA ps := by
 have g := h.g
 refine ⟨h.b.setCell (p := ⟨gB, j, none⟩) g.2 _, fun k hk => (Below.heap_setCell _ _ _ _ (by show k ≠ gB; omega)).trans (h.o k hk), by rw [World.size_setCell]; exact h.s, ?_, h.f, h.f2, heap_setCell_same _ _ j _ _ _ h.k, g⟩
 rw [World.size_setCell]
 exact h.r.setCell (fun ad e => by have := h.f2 _ e; show ad.block ≠ gB; omega) _
theorem own_ints4 {B : Nat} {w' : World} {v' : Value} {bo : List Int} (hown : w'.ownsRow B 3 1 v' (0 + bo.length) ([] ++ bo.map (Value.int .i64))) (h0 : 0 < bo.length) : ∃ g cap, v' = .slice (some ⟨g, 0, none⟩) bo.length cap ∧ B ≤ g ∧ g < w'.heap.size ∧ IntF w' g bo.length (nth bo) := by
 rw [Nat.zero_add, List.nil_append] at hown
 rcases hown.2 with ⟨e, hn⟩ | ⟨g, cap, cur, e, hbg, hg2, _⟩
 ·omega
 ·subst e
  exact ⟨g, cap, rfl, hbg, (Array.getElem?_eq_some_iff.1 hg2).1, fun j hj => by
   have h1 := World.ownsRow.cells hown (g := g) rfl j _ (nth_map hj)
   rw [add_eq, Nat.zero_add] at h1
   exact h1, fun o => by simp [World.frozen?, hg2]⟩
end Go.Proofs.Ytdadoelajhemjaa
