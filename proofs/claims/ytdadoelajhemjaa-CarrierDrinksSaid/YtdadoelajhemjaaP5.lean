/- Plain: what the specification's flow goes by; its state in memory. -/
import Derived.Test.YtdadoelajhemjaaP4
import Derived.Test.YtdadoelajhemjaaM6
import Derived.Test.YtdadoelajhemjaaC3
namespace Go.Proofs.Ytdadoelajhemjaa
open Go.RowKit Go.Shelf

def FLto (ws : List Car) (s : Wt) (x : Nat) : List Int := (List.range x).map (flowF ws s)
def TLto (ws : List Car) (s : Wt) (c : Nat) : List Int := (List.range c).map fun j => flowF ws s (60 + j)
def LOto (ws : List Car) (s : Wt) (x : Nat) : Int := flowK ws s x 76
theorem FLto_length (ws : List Car) (s : Wt) (x : Nat) : (FLto ws s x).length = x := by simp [FLto]
theorem TLto_length (ws : List Car) (s : Wt) (x : Nat) : (TLto ws s x).length = x := by simp [TLto]
theorem FLto_succ (ws : List Car) (s : Wt) (x : Nat) : FLto ws s (x + 1) = FLto ws s x ++ [flowF ws s x] := by simp [FLto, List.range_succ]
theorem TLto_succ (ws : List Car) (s : Wt) (x : Nat) : TLto ws s (x + 1) = TLto ws s x ++ [flowF ws s (60 + x)] := by simp [TLto, List.range_succ]
theorem FLto_at {ws : List Car} {s : Wt} {x y : Nat} (h : y < x) : nth (FLto ws s x) y = flowF ws s y := nth_range _ h
def begA (ws : List Car) (s : Wt) (t j : Nat) : Int := beginTo (headsTo ws ws.length) s.ri j t
theorem begA_succ (ws : List Car) (s : Wt) (t j : Nat) : begA ws s t (j + 1) = if t = (headsTo ws ws.length).getD j 0 then nth s.ri j else begA ws s t j := rfl

/-- What one outlet does. -/
structure StepK (ws : List Car) (s : Wt) (x : Nat) (f f' n n' : Int) : Prop where
 f0 : 0 ≤ f ∧ f ≤ 1048576
 l0 : 0 ≤ nth s.lo x
 b0 : 0 ≤ nth s.bo x ∧ nth s.bo x < ((oAt (outs ws) x).ps.length : Int)
 p0 : 0 ≤ nth (oAt (outs ws) x).ps (nth s.bo x).toNat ∧ nth (oAt (outs ws) x).ps (nth s.bo x).toNat ≤ 1048576
 k0 : 0 ≤ nth s.lk x ∧ nth s.lk x ≤ 1048576
 n0 : 0 ≤ n ∧ n ≤ 100000000
 thr : flowF ws s x = min (f - min f (nth s.lo x)) (nth (oAt (outs ws) x).ps (nth s.bo x).toNat + nth s.lk x)
 f1 : f' = f - min f (nth s.lo x) - flowF ws s x
 n1 : n' = n + min f (nth s.lo x)
theorem stepK {ws : List Car} {s : Wt} (g : Good ws) (ok : Ok ws s) {t d : Nat} (ht : t < ws.length) (hd : d < (cAt ws t).os.length) :
  StepK ws s (start ws t + d) (tailTo ws s t (begF ws s t) d) (tailTo ws s t (begF ws s t) (d + 1)) (LOto ws s (start ws t + d)) (LOto ws s (start ws t + (d + 1))) := by
 have hx := start_lt ht hd
 have hca := caAt_start ht hd
 have hat := atAt_start ht hd
 have fi := g.fine hx
 have n1 := g.n1
 have n2 := g.n2
 have bd := flow_bounds g ok (firsts (outs ws).length (start ws t + d))
 rw [firsts_length (by omega)] at bd
 have e1 := tail_at (s := s) g ht d (by omega)
 have b1 := bd.t t (by omega)
 have e1' : flowL ws s (firsts (outs ws).length (start ws t + d)) (60 + t) = tailTo ws s t (begF ws s t) d := e1
 rw [e1'] at b1
 have r1 := ok.r1 _ hx
 have r2 := ok.r2 _ hx
 have r3 := ok.r3 _ hx
 have fk := fi.k
 have fs := fi.s
 have hth := flow_at (s := s) g hx
 rw [hca, hat] at hth
 refine ⟨b1, by omega, by omega, fi.p _ (by omega), by omega, ⟨bd.l.1, ?_⟩, hth, ?_, ?_⟩
 ·have := bd.l.2
  show flowL ws s (firsts (outs ws).length (start ws t + d)) 76 ≤ _
  omega
 ·rw [hth]; rfl
 ·have hf2 := fi.into
  have hc := fi.ca
  show flowK ws s (start ws t + d + 1) 76 = flowK ws s (start ws t + d) 76 + _
  rw [flowK_succ hx, flowStep_at, if_neg (by omega), if_neg (by omega), if_neg (by omega), if_pos rfl]
  show _ + lossOf s (flowK ws s (start ws t + d)) (caAt ws (start ws t + d)) (start ws t + d) = _
  unfold lossOf
  rw [hca, e1]

/-- The state of the specification's flow: its box, its two lists. -/
structure FlR (W2 : World) (g : Nat) (sO sT vO vT : Value) (LO LT : List Int) (n : Int) (X : World) : Prop where
 bx : Blk X g #[sO, sT, .int .i64 n] 128
 oO : Own X W2.heap.size vO LO
 oT : Own X W2.heap.size vT LT
 ne : ∀ k, vO.ownBlock = some k → vT.ownBlock ≠ some k
 md : ∀ k, k < W2.heap.size → k ≠ g → X.heap[k]? = W2.heap[k]?
 bl : Below g W2 X
 sz : W2.heap.size ≤ X.heap.size
 gb : g < W2.heap.size
section
variable {W2 : World} {g : Nat} {sO sT vO vT : Value} {LO LT : List Int} {n : Int} {X Y : World}
theorem FlR.on (h : FlR W2 g sO sT vO vT LO LT n X) (hb : Below X.heap.size X Y) : FlR W2 g sO sT vO vT LO LT n Y :=
 ⟨blk_on h.bx hb, h.oO.later hb, h.oT.later hb, h.ne, fun k h1 h2 => (hb.block k (Nat.lt_of_lt_of_le h1 h.sz)).trans (h.md k h1 h2), h.bl.trans (hb.mono (Nat.le_of_lt (Nat.lt_of_lt_of_le h.gb h.sz))), Nat.le_trans h.sz hb.size, h.gb⟩
theorem FlR.appO {v' : Value} {y : Int} (h : FlR W2 g sO sT vO vT LO LT n X) (ho : Own Y W2.heap.size v' (LO ++ [y])) (hg : X.grownBy Y vO.ownBlock) (hb : v'.ownBlock = vO.ownBlock ∨ v'.ownBlock = some X.heap.size) : FlR W2 g sO sT v' vT (LO ++ [y]) LT n Y := by
 have hgb := h.gb
 have hsz := h.sz
 have hr : ∀ k, vO.ownBlock = some k → W2.heap.size ≤ k := fun k e => (h.oO.blkIs e).1
 exact ⟨(hg.block g (by omega) (fun e => by have := hr _ e.symm; omega)).trans h.bx, ho, h.oT.blk (fun k e => hg.block k (h.oT.blkIs e).2.1 (fun e2 => h.ne k e2.symm e)),
  fun k e => by
   rcases hb with hb | hb
   ·exact h.ne k (hb ▸ e)
   ·intro e2
    have := (h.oT.blkIs e2).2.1
    rw [hb] at e; cases e; omega,
  fun k h1 h2 => (hg.block k (by omega) (fun e => by have := hr _ e.symm; omega)).trans (h.md k h1 h2), h.bl.grown hg (by omega) (fun k e => by have := hr k e; omega), Nat.le_trans hsz hg.size, hgb⟩
theorem FlR.appT {v' : Value} {y : Int} (h : FlR W2 g sO sT vO vT LO LT n X) (ho : Own Y W2.heap.size v' (LT ++ [y])) (hg : X.grownBy Y vT.ownBlock) (hb : v'.ownBlock = vT.ownBlock ∨ v'.ownBlock = some X.heap.size) : FlR W2 g sO sT vO v' LO (LT ++ [y]) n Y := by
 have hgb := h.gb
 have hsz := h.sz
 have hr : ∀ k, vT.ownBlock = some k → W2.heap.size ≤ k := fun k e => (h.oT.blkIs e).1
 exact ⟨(hg.block g (by omega) (fun e => by have := hr _ e.symm; omega)).trans h.bx, h.oO.blk (fun k e => hg.block k (h.oO.blkIs e).2.1 (fun e2 => h.ne k e e2.symm)), ho,
  fun k e => by
   rcases hb with hb | hb
   ·rw [hb]; exact h.ne k e
   ·intro e2
    have := (h.oO.blkIs e).2.1
    rw [hb] at e2; cases e2; omega,
  fun k h1 h2 => (hg.block k (by omega) (fun e => by have := hr _ e.symm; omega)).trans (h.md k h1 h2), h.bl.grown hg (by omega) (fun k e => by have := hr k e; omega), Nat.le_trans hsz hg.size, hgb⟩
theorem FlR.set (h : FlR W2 g sO sT vO vT LO LT n X) {sO' sT' : Value} {n' : Int} {i : Nat} {u : Value} (hb : Blk (X.setCell ⟨g, i, none⟩ u) g #[sO', sT', .int .i64 n'] 128) : FlR W2 g sO' sT' vO vT LO LT n' (X.setCell ⟨g, i, none⟩ u) := by
 have hgb := h.gb
 have hsz := h.sz
 have oth : ∀ k, k ≠ g → (X.setCell ⟨g, i, none⟩ u).heap[k]? = X.heap[k]? := fun k hk => Below.heap_setCell _ _ _ _ hk
 exact ⟨hb, h.oO.blk (fun k e => oth k (by have := (h.oO.blkIs e).1; omega)), h.oT.blk (fun k e => oth k (by have := (h.oT.blkIs e).1; omega)), h.ne, fun k h1 h2 => (oth k h2).trans (h.md k h1 h2),
  h.bl.setCell (p := ⟨g, i, none⟩) (Nat.le_refl _) _, by rw [World.size_setCell]; exact hsz, hgb⟩
theorem FlR.lost (h : FlR W2 g sO sT vO vT LO LT n X) (n' : Int) : FlR W2 g sO sT vO vT LO LT n' (X.setCell ⟨g, 2, none⟩ (.int .i64 n')) := h.set (heap_setCell_same _ _ 2 _ _ _ h.bx)
theorem FlR.putO (h : FlR W2 g sO sT vO vT LO LT n X) (u : Value) : FlR W2 g u sT vO vT LO LT n (X.setCell ⟨g, 0, none⟩ u) := h.set (heap_setCell_same _ _ 0 _ _ _ h.bx)
theorem FlR.putT (h : FlR W2 g sO sT vO vT LO LT n X) (u : Value) : FlR W2 g sO u vO vT LO LT n (X.setCell ⟨g, 1, none⟩ u) := h.set (heap_setCell_same _ _ 1 _ _ _ h.bx)
theorem FlR.cell (h : FlR W2 g sO sT vO vT LO LT n X) {a : Addr} {v : Value} (hc : W2.cell? a = some v) (hn : a.block ≠ g) : X.cell? a = some v := by
 have hl := lt_of_cell hc
 obtain ⟨b, o, s⟩ := a
 have e := h.md b hl hn
 rw [← hc]
 unfold World.cell?
 dsimp only
 rw [e]
end
end Go.Proofs.Ytdadoelajhemjaa
