/- Plain: signs as the specification tells them; a state of two own lists and a box. -/
import Derived.Test.YtdadoelajhemjaaP5
import Derived.Test.YtdadoelajhemjaaE2
import Derived.Test.YtdadoelajhemjaaM7
namespace Go.Proofs.Ytdadoelajhemjaa
open Go.RowKit Go.Shelf

def ahAt (ws : List Car) (x k j : Nat) : Bool := decide (caAt ws ((pathN ws x).getD j 0) = caAt ws k) && decide (atAt ws k < atAt ws ((pathN ws x).getD j 0))
def ahTo (ws : List Car) (x k j : Nat) : Bool := (List.range j).any (ahAt ws x k)
theorem ahTo_succ (ws : List Car) (x k j : Nat) : ahTo ws x k (j + 1) = (ahTo ws x k j || ahAt ws x k j) := by
 unfold ahTo
 rw [List.range_succ, List.any_append]
 simp
def ahead (ws : List Car) (x k : Nat) : Bool := ahTo ws x k (pathN ws x).length
def itself (ws : List Car) (x k : Nat) : Bool := (pathI ws x).contains (k : Int)
theorem itself_iff {ws : List Car} {x k : Nat} : itself ws x k = true ↔ k ∈ upList ws x := by
 unfold itself pathI natI pathN
 rw [List.contains_iff_mem, List.mem_map]
 constructor
 ·rintro ⟨y, hy, e⟩
  have : y = k := by omega
  subst this
  exact List.mem_reverse.1 hy
 ·intro h
  exact ⟨k, List.mem_reverse.2 h, rfl⟩
theorem ahead_iff {ws : List Car} {x k : Nat} : ahead ws x k = true ↔ ∃ z ∈ upList ws x, caAt ws z = caAt ws k ∧ atAt ws k < atAt ws z := by
 unfold ahead ahTo ahAt
 rw [List.any_eq_true]
 constructor
 ·rintro ⟨j, hj, e⟩
  rw [Bool.and_eq_true, decide_eq_true_eq, decide_eq_true_eq] at e
  have hj := List.mem_range.1 hj
  refine ⟨_, ?_, e⟩
  have : (pathN ws x).getD j 0 ∈ pathN ws x := by
   rw [List.getD_eq_getElem?_getD, List.getElem?_eq_getElem hj]
   exact List.getElem_mem hj
  exact List.mem_reverse.1 this
 ·rintro ⟨z, hz, e⟩
  have hz' : z ∈ pathN ws x := List.mem_reverse.2 hz
  obtain ⟨j, hj, e2⟩ := List.getElem_of_mem hz'
  refine ⟨j, List.mem_range.2 hj, ?_⟩
  have e3 : (pathN ws x).getD j 0 = z := by rw [List.getD_eq_getElem?_getD, List.getElem?_eq_getElem hj]; exact e2
  rw [Bool.and_eq_true, decide_eq_true_eq, decide_eq_true_eq, e3]
  exact e
theorem one_on {ws : List Car} (g : Good ws) {x y z : Nat} (hy : y ∈ upList ws x) (hz : z ∈ upList ws x) (h : caAt ws y = caAt ws z) : y = z := by
 have h1 := on_mem g _ x rfl y hy
 have h2 := on_mem g _ x rfl z hz
 rw [h, h2] at h1
 exact (pl_inj (Option.some.inj h1)).symm
theorem at_inj {ws : List Car} {i j : Nat} (hi : i < (outs ws).length) (hj : j < (outs ws).length) (h1 : caAt ws i = caAt ws j) (h2 : atAt ws i = atAt ws j) : i = j := by
 rw [place_eq hi, place_eq hj, h1, h2]
def hatW (ws : List Car) (x k : Nat) : Int := if itself ws x k = true then 1 else if ahead ws x k = true then -1 else 0
def reaW (ws : List Car) (x k : Nat) : Int := if itself ws x k = true then -1 else if ahead ws x k = true then -1 else 0
theorem sign_hat {ws : List Car} (g : Good ws) {x k : Nat} (hx : x < (outs ws).length) (hk : k < (outs ws).length) : hatW ws x k = hatV ws x k ∧ reaW ws x k = reaV ws x k := by
 unfold hatW reaW
 by_cases hz : ∃ z ∈ upList ws x, caAt ws k = caAt ws z
 ·obtain ⟨z, hz, hc⟩ := hz
  have hzN := upList_mem g _ x rfl hx z hz
  obtain ⟨e1, e2⟩ := hat_on g hz hc
  rw [e1, e2]
  by_cases hi : k = z
  ·have hs : itself ws x k = true := itself_iff.2 (by rw [hi]; exact hz)
   rw [if_pos hs, if_pos hs, if_pos hi, if_pos (by rw [hi]; exact Nat.le_refl _)]
   exact ⟨rfl, rfl⟩
  ·have hs : ¬ itself ws x k = true := fun h => hi (one_on g (itself_iff.1 h) hz hc)
   have hne : atAt ws k ≠ atAt ws z := fun h => hi (at_inj hk hzN hc h)
   rw [if_neg hs, if_neg hs, if_neg hi]
   by_cases hl : atAt ws k < atAt ws z
   ·have ha : ahead ws x k = true := ahead_iff.2 ⟨z, hz, hc.symm, hl⟩
    rw [if_pos ha, if_pos (by omega)]
    exact ⟨rfl, rfl⟩
   ·have ha : ¬ ahead ws x k = true := fun h => by
     obtain ⟨z', hz', hc', hl'⟩ := ahead_iff.1 h
     have := one_on g hz' hz (hc'.trans hc)
     subst this
     exact hl hl'
    rw [if_neg ha, if_neg (by omega)]
    exact ⟨rfl, rfl⟩
 ·have hs : ¬ itself ws x k = true := fun h => hz ⟨k, itself_iff.1 h, rfl⟩
  have ha : ¬ ahead ws x k = true := fun h => by
   obtain ⟨z, h1, h2, _⟩ := ahead_iff.1 h
   exact hz ⟨z, h1, h2.symm⟩
  rw [if_neg hs, if_neg hs, if_neg ha]
  have hn : lastO ws x k = none := on_none g _ x rfl (caAt ws k) (fun z h e => hz ⟨z, h, e.symm⟩)
  unfold hatV reaV
  rw [hn]
  exact ⟨rfl, rfl⟩

/-- Two own lists, and a box. -/
structure FlG (W2 : World) (g : Nat) (ty : TypeId) (cs : Array Value) (vO vT : Value) (LO LT : List Int) (X : World) : Prop where
 bx : Blk X g cs ty
 oO : Own X W2.heap.size vO LO
 oT : Own X W2.heap.size vT LT
 ne : ∀ k, vO.ownBlock = some k → vT.ownBlock ≠ some k
 md : ∀ k, k < W2.heap.size → k ≠ g → X.heap[k]? = W2.heap[k]?
 bl : Below g W2 X
 sz : W2.heap.size ≤ X.heap.size
 gb : g < W2.heap.size
section
variable {W2 : World} {g : Nat} {ty : TypeId} {cs cs' : Array Value} {vO vT : Value} {LO LT : List Int} {X Y : World}
theorem FlG.on (h : FlG W2 g ty cs vO vT LO LT X) (hb : Below X.heap.size X Y) : FlG W2 g ty cs vO vT LO LT Y :=
 ⟨blk_on h.bx hb, h.oO.later hb, h.oT.later hb, h.ne, fun k h1 h2 => (hb.block k (Nat.lt_of_lt_of_le h1 h.sz)).trans (h.md k h1 h2), h.bl.trans (hb.mono (Nat.le_of_lt (Nat.lt_of_lt_of_le h.gb h.sz))), Nat.le_trans h.sz hb.size, h.gb⟩
theorem FlG.appO {v' : Value} {y : Int} (h : FlG W2 g ty cs vO vT LO LT X) (ho : Own Y W2.heap.size v' (LO ++ [y])) (hg : X.grownBy Y vO.ownBlock) (hb : v'.ownBlock = vO.ownBlock ∨ v'.ownBlock = some X.heap.size) : FlG W2 g ty cs v' vT (LO ++ [y]) LT Y := by
 have hgb := h.gb
 have hsz := h.sz
 have hr : ∀ k, vO.ownBlock = some k → W2.heap.size ≤ k := fun k e => (h.oO.blkIs e).1
 exact ⟨(hg.block g (by omega) (fun e => by have := hr _ e.symm; omega)).trans h.bx, ho, h.oT.blk (fun k e => hg.block k (h.oT.blkIs e).2.1 (fun e2 => h.ne k e2.symm e)),
  fun k e => by
   rcases hb with hb | hb
   ·exact h.ne k (hb ▸ e)
   ·intro e2
    have := (h.oT.blkIs e2).2.1
    rw [hb] at e; cases e; omega,
  fun k h1 h2 => (hg.block k (by omega) (fun e => by have := hr _ e.symm; omega)).trans (h.md k h1 h2), h.bl.grown hg (by omega) (fun k e => by have := hr k e; omega), Nat.le_trans hsz hg.size, hgb⟩
theorem FlG.swap (h : FlG W2 g ty cs vO vT LO LT X) : FlG W2 g ty cs vT vO LT LO X := ⟨h.bx, h.oT, h.oO, fun k e e2 => h.ne k e2 e, h.md, h.bl, h.sz, h.gb⟩
theorem FlG.appT {v' : Value} {y : Int} (h : FlG W2 g ty cs vO vT LO LT X) (ho : Own Y W2.heap.size v' (LT ++ [y])) (hg : X.grownBy Y vT.ownBlock) (hb : v'.ownBlock = vT.ownBlock ∨ v'.ownBlock = some X.heap.size) : FlG W2 g ty cs vO v' LO (LT ++ [y]) Y := (h.swap.appO ho hg hb).swap
theorem FlG.set (h : FlG W2 g ty cs vO vT LO LT X) {i : Nat} {u : Value} (hb : Blk (X.setCell ⟨g, i, none⟩ u) g cs' ty) : FlG W2 g ty cs' vO vT LO LT (X.setCell ⟨g, i, none⟩ u) := by
 have hgb := h.gb
 have hsz := h.sz
 have oth : ∀ k, k ≠ g → (X.setCell ⟨g, i, none⟩ u).heap[k]? = X.heap[k]? := fun k hk => Below.heap_setCell _ _ _ _ hk
 exact ⟨hb, h.oO.blk (fun k e => oth k (by have := (h.oO.blkIs e).1; omega)), h.oT.blk (fun k e => oth k (by have := (h.oT.blkIs e).1; omega)), h.ne, fun k h1 h2 => (oth k h2).trans (h.md k h1 h2),
  h.bl.setCell (p := ⟨g, i, none⟩) (Nat.le_refl _) _, by rw [World.size_setCell]; exact hsz, hgb⟩
theorem FlG.cell (h : FlG W2 g ty cs vO vT LO LT X) {a : Addr} {v : Value} (hc : W2.cell? a = some v) (hn : a.block ≠ g) : X.cell? a = some v := by
 have hl := lt_of_cell hc
 obtain ⟨b, o, s⟩ := a
 have e := h.md b hl hn
 rw [← hc]
 unfold World.cell?
 dsimp only
 rw [e]
end
end Go.Proofs.Ytdadoelajhemjaa
