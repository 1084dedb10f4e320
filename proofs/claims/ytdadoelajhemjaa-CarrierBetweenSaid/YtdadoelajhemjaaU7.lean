/- Plain: the narrower case, and the box that it is written into. -/
import Derived.Test.YtdadoelajhemjaaU2
import Derived.Test.YtdadoelajhemjaaU3
namespace Go.Proofs.Ytdadoelajhemjaa
open Go.RowKit Go.Shelf

/-- The first t spans, narrowed by the pairs from off on. -/
def nrL (l : List Sp) (us : List Int) (off t : Nat) : List Sp := (List.range t).map fun k => (nrA (sAt l k).1 (sAt l k).2 (prA us (k + off)), nrB (sAt l k).1 (sAt l k).2 (prA us (k + off)) (prB us (k + off)))
theorem nrL_length (l : List Sp) (us : List Int) (off t : Nat) : (nrL l us off t).length = t := by simp [nrL]
theorem nrL_succ (l : List Sp) (us : List Int) (off t : Nat) : nrL l us off (t + 1) = nrL l us off t ++ [(nrA (sAt l t).1 (sAt l t).2 (prA us (t + off)), nrB (sAt l t).1 (sAt l t).2 (prA us (t + off)) (prB us (t + off)))] := by simp [nrL, List.range_succ]
theorem nrL_at (l : List Sp) (us : List Int) (off : Nat) {t i : Nat} (h : i < t) : sAt (nrL l us off t) i = (nrA (sAt l i).1 (sAt l i).2 (prA us (i + off)), nrB (sAt l i).1 (sAt l i).2 (prA us (i + off)) (prB us (i + off))) := by simp [nrL, sAt, h]
theorem nrL_inside {ws : List Car} {cs : Cs} (k : CsOk ws cs) (us : List Int) (A0 A1 : Option Addr) (c0 c1 : Nat) : Inside ws cs ⟨A0, A1, c0, c1, nrL cs.ri us 0 cs.ri.length, nrL cs.bo us cs.ri.length cs.bo.length⟩ := by
 refine ⟨nrL_length _ _ _ _, nrL_length _ _ _ _, fun i hi => ?_, fun i hi => ?_⟩
 ·have h := k.r0 i hi
  show _ ≤ (sAt (nrL cs.ri us 0 cs.ri.length) i).1 ∧ (sAt (nrL cs.ri us 0 cs.ri.length) i).1 ≤ (sAt (nrL cs.ri us 0 cs.ri.length) i).2 ∧ (sAt (nrL cs.ri us 0 cs.ri.length) i).2 ≤ _
  rw [nrL_at _ _ _ hi]
  exact ⟨(nr_in h.2.1).1, (nrB_in h.2.1).1, (nrB_in h.2.1).2⟩
 ·have h := k.r1 i (by rw [← k.l1]; exact hi)
  show _ ≤ (sAt (nrL cs.bo us cs.ri.length cs.bo.length) i).1 ∧ (sAt (nrL cs.bo us cs.ri.length cs.bo.length) i).1 ≤ (sAt (nrL cs.bo us cs.ri.length cs.bo.length) i).2 ∧ (sAt (nrL cs.bo us cs.ri.length cs.bo.length) i).2 ≤ _
  rw [nrL_at _ _ _ hi]
  exact ⟨(nr_in h.2.1).1, (nrB_in h.2.1).1, (nrB_in h.2.1).2⟩
/-- A box at g, one of whose slices is a list of the call's own that is being made. -/
structure LsI (w W X : World) (g : Nat) (cs : Array Value) (A : Option Addr) (c : Nat) (L : List Sp) : Prop where
 bl : Below g w X
 md : ∀ k, k < W.heap.size → k ≠ g → X.heap[k]? = W.heap[k]?
 bk : Blk X g cs 51
 ow : OwnS X W.heap.size (.slice A L.length c) L
 lt : W.heap.size ≤ X.heap.size
 gl : g < W.heap.size
section
variable {w W X Y : World} {g : Nat} {cs : Array Value} {A : Option Addr} {c : Nat} {L : List Sp}
theorem LsI.on (h : LsI w W X g cs A c L) (hb : Below X.heap.size X Y) : LsI w W Y g cs A c L :=
 ⟨h.bl.trans (hb.mono (by have := h.gl; have := h.lt; omega)), fun k h1 h2 => (hb.block k (by have := h.lt; omega)).trans (h.md k h1 h2), blk_on h.bk hb, h.ow.later hb, Nat.le_trans h.lt hb.size, h.gl⟩
theorem LsI.push (h : LsI w W X g cs A c L) {y : Sp} {n : Nat} (hn : L.length = n) {A' : Option Addr} {c' : Nat} (hg : X.grownBy Y (Value.slice A L.length c).ownBlock) (ho : OwnS Y W.heap.size (.slice A' (n + 1) c') (L ++ [y])) (j : Nat) :
  LsI w W (Y.setCell ⟨g, j, none⟩ (.slice A' (n + 1) c')) g (cs.setIfInBounds j (.slice A' (n + 1) c')) A' c' (L ++ [y]) := by
 subst hn
 have hgl := h.gl
 have hlt := h.lt
 have hne : ∀ k, (Value.slice A L.length c).ownBlock = some k → W.heap.size ≤ k := fun k e => (h.ow.blkIs e).1
 have hne2 : ∀ k, (Value.slice A' (L.length + 1) c').ownBlock = some k → k ≠ g := fun k e => by have := (ho.blkIs e).1; omega
 refine ⟨(h.bl.grown hg (by omega) (fun k e => by have := hne k e; omega)).setCell (p := ⟨g, j, none⟩) (Nat.le_refl _) _, fun k h1 h2 => (Below.heap_setCell _ _ _ _ h2).trans ((hg.block k (by omega) (fun e => by have := hne k e.symm; omega)).trans (h.md k h1 h2)), heap_setCell_same _ _ j _ _ _ ((hg.block g (by omega) (fun e => by have := hne g e.symm; omega)).trans h.bk), ?_, by rw [World.size_setCell]; exact Nat.le_trans hlt hg.size, hgl⟩
 rw [List.length_append]
 exact ho.blk fun k e => Below.heap_setCell _ _ _ _ (hne2 k e)
theorem LsI.app (h : LsI w W X g cs A c L) (hg : X.grownBy Y (Value.slice A L.length c).ownBlock) : Blk Y g cs 51 :=
 (hg.block g (by have := h.gl; have := h.lt; omega) (fun e => by have := (h.ow.blkIs e.symm).1; have := h.gl; omega)).trans h.bk
/-- A list that was made ahead stays as it reads. -/
theorem LsI.reads (h : LsI w W X g cs A c L) {B : Option Addr} {M : List Sp} (hr : RdS W W.heap.size B M) (hf : Fresh (g + 1) B) : RdS X X.heap.size B M := fun hn => by
 obtain ⟨b, off, e, hl, hc⟩ := hr hn
 have hb : b ≠ g := by have : g + 1 ≤ b := hf _ e; omega
 have hk := h.md b hl hb
 exact ⟨b, off, e, Nat.lt_of_lt_of_le hl h.lt, fun i hi => ⟨(cell_of_heap hk).trans (hc i hi).c0, (cell_of_heap hk).trans (hc i hi).c1⟩⟩
end
end Go.Proofs.Ytdadoelajhemjaa
