/- Worlds that differ in chosen blocks alone; the marks that loops over iterators leave, many at a time. No program here. -/
import Derived.Test.YtegmniphgahblaaGreatW4
import Derived.RangeFuncLeaves
namespace Go.Proofs.YtegmniphgahblaaGreat
open Go.RowKit

/-- All blocks that lay, but those of a choice, lie as they lay. -/
structure ButB (p : Nat → Prop) (w W : World) : Prop where
 os : W.os = w.os
 tape : W.tape = w.tape
 output : W.output = w.output
 size : w.heap.size ≤ W.heap.size
 same : ∀ b, b < w.heap.size → ¬ p b → W.heap[b]? = w.heap[b]?
section
variable {p : Nat → Prop} {w W W' : World}
theorem ButB.refl (p : Nat → Prop) (w : World) : ButB p w w := ⟨rfl, rfl, rfl, Nat.le_refl _, fun _ _ _ => rfl⟩
theorem ButB.trans (h : ButB p w W) (k : ButB p W W') : ButB p w W' :=
 ⟨k.os.trans h.os, k.tape.trans h.tape, k.output.trans h.output, Nat.le_trans h.size k.size, fun b hb hp => (k.same b (Nat.lt_of_lt_of_le hb h.size) hp).trans (h.same b hb hp)⟩
theorem ButB.mono {q : Nat → Prop} (h : ButB p w W) (hq : ∀ b, p b → q b) : ButB q w W := ⟨h.os, h.tape, h.output, h.size, fun b hb hn => h.same b hb fun k => hn (hq b k)⟩
theorem ButB.of_below (h : Below w.heap.size w W) : ButB p w W := ⟨h.os, h.tape, h.output, h.size, fun b hb _ => h.block b hb⟩
theorem ButB.below {n : Nat} (h : ButB p w W) (hn : n ≤ w.heap.size) (hp : ∀ b, b < n → ¬ p b) : Below n w W := ⟨h.os, h.tape, h.output, h.size, fun b hb => h.same b (by omega) (hp b hb)⟩
theorem ButB.set (h : ButB p w W) {a : Addr} (ha : p a.block) (v : Value) : ButB p w (W.setCell a v) :=
 ⟨h.os, h.tape, h.output, by rw [World.size_setCell]; exact h.size, fun b hb hn => (Below.heap_setCell _ _ _ _ fun e => hn (by rw [e]; exact ha)).trans (h.same b hb hn)⟩
theorem ButB.alloc (h : ButB p w W) (o : Obj) : ButB p w (W.alloc o) := h.trans (.of_below ((Below.refl _ W).alloc (Nat.le_refl _) o))
theorem ButB.drew (h : ButB p w W) : ButB p w W.drew := ⟨h.os, h.tape, h.output, h.size, h.same⟩
theorem ButB.grown {row : Option Nat} (h : ButB p w W) (hg : W.grownBy W' row) (hr : ∀ r, row = some r → p r ∨ w.heap.size ≤ r) : ButB p w W' := by
 have hb := (Below.refl 0 W).grown hg (Nat.zero_le _) (fun k _ => Nat.zero_le k)
 exact ⟨hb.os.trans h.os, hb.tape.trans h.tape, hb.output.trans h.output, Nat.le_trans h.size hb.size, fun b hb' hn => (hg.block b (Nat.lt_of_lt_of_le hb' h.size) fun e => (hr b e.symm).elim hn (by omega)).trans (h.same b hb' hn)⟩
theorem ButB.cell (h : ButB p w W) {a : Addr} {v : Value} (hc : w.cell? a = some v) (hn : ¬ p a.block) : W.cell? a = some v := by
 obtain ⟨o, ho, _⟩ := cells_of_cell hc
 exact (World.cell?_of_block (h.same _ (Array.getElem?_eq_some_iff.1 ho).1 hn)).trans hc
theorem ButB.heap (h : ButB p w W) {b : Nat} {o : Obj} (ho : w.heap[b]? = some o) (hn : ¬ p b) : W.heap[b]? = some o := (h.same b (Array.getElem?_eq_some_iff.1 ho).1 hn).trans ho
theorem ButB.abide {β : Type} {B : Nat} {bs : Option Nat} (hB : w.heap.size ≤ B) (hb : ∀ b, bs = some b → p b) : Abide B bs (fun (_ : β) W => ButB p w W) := fun _ _ _ _ hs hg hr =>
 hs.grown hg fun r e => (hr r e).elim (fun h => .inl (hb r h)) fun h => .inr (Nat.le_trans hB h.1)
end
/-- The marks of loops that have been gone through: all their blocks are still there, empty. -/
def Mk (B : Nat) (W : World) (ds : List Deferred) : Prop := ∃ Ds : List Nat, ds = Ds.map (fun D => { target := .collected D, args := #[] }) ∧ Ds.Nodup ∧ ∀ D ∈ Ds, B ≤ D ∧ W.heap[D]? = some (.deferred (some []))
theorem Mk.nil (B : Nat) (W : World) : Mk B W [] := ⟨[], rfl, List.nodup_nil, fun _ h => by cases h⟩
theorem Mk.cons {B D : Nat} {W : World} {ds : List Deferred} (h : Mk B W ds) (hB : B ≤ D) (hk : W.heap[D]? = some (.deferred (some []))) (hn : ∀ D', { target := .collected D', args := #[] } ∈ ds → D' ≠ D) : Mk B W ({ target := .collected D, args := #[] } :: ds) := by
 obtain ⟨Ds, rfl, h1, h2⟩ := h
 refine ⟨D :: Ds, rfl, List.nodup_cons.2 ⟨fun e => hn D (List.mem_map.2 ⟨D, e, rfl⟩) rfl, h1⟩, fun D' hD => ?_⟩
 rcases List.mem_cons.1 hD with rfl | hD
 ·exact ⟨hB, hk⟩
 ·exact h2 D' hD
theorem Mk.lt {B : Nat} {W : World} {ds : List Deferred} (h : Mk B W ds) : ∀ D', { target := .collected D', args := #[] } ∈ ds → D' < W.heap.size := fun D' hD => by
 obtain ⟨Ds, rfl, h1, h2⟩ := h
 obtain ⟨D, hD1, e⟩ := List.mem_map.1 hD
 cases e
 exact (Array.getElem?_eq_some_iff.1 (h2 _ hD1).2).1
theorem Mk.but {B : Nat} {W W' : World} {ds : List Deferred} {p : Nat → Prop} (h : Mk B W ds) (hb : ButB p W W') (hp : ∀ b, p b → W.heap[b]? ≠ some (.deferred (some []))) : Mk B W' ds := by
 obtain ⟨Ds, e, h1, h2⟩ := h
 exact ⟨Ds, e, h1, fun D hD => ⟨(h2 D hD).1, hb.heap (h2 D hD).2 fun k => hp D k (h2 D hD).2⟩⟩
theorem not_def_of_cell {W : World} {a : Addr} {v : Value} (h : W.cell? a = some v) : W.heap[a.block]? ≠ some (.deferred (some [])) := fun e => by
 obtain ⟨o, ho, hc⟩ := cells_of_cell h
 rw [e] at ho; cases ho; cases hc
theorem mk_leaveL {F : Fence} {n : Nat} {P : Program} {fn : Func} {tmps : Array Value} {R : Ending → World → Prop} : ∀ (Ds : List Nat) (W : World), Ds.Nodup → (∀ D ∈ Ds, W.heap[D]? = some (.deferred (some []))) → (∀ W', ButB (fun b => b ∈ Ds) W W' → ∃ v, (results fn tmps).run P W' = .ok v W' ∧ R (.returned v) W') →
  LeavesInM F n P fn tmps R (Ds.map (fun D => { target := .collected D, args := #[] })) .returning W
 | [], W, _, _, h => h W (.refl _ _)
 | D :: Ds, W, hn, hd, h => by
  obtain ⟨h1, h2⟩ := List.nodup_cons.1 hn
  have hk := hd D List.mem_cons_self
  refine ⟨by simp, .inl ⟨D, _, rfl, run_takeDeferred hk, mk_leaveL Ds _ h2 (fun D' hD => ?_) fun W' hb => h W' ?_⟩⟩
  ·exact (World.putObj_heap_other (fun e => h1 (by rw [← e]; exact hD))).trans (hd D' (List.mem_cons_of_mem _ hD))
  ·exact ((ButB.refl _ W).grown (grownBy_putObj' W D _) fun r e => by cases e; exact .inl List.mem_cons_self).trans (hb.mono fun b e => List.mem_cons_of_mem _ e)
/-- At a function's return with such marks. -/
theorem mk_leave {F : Fence} {n B : Nat} {P : Program} {fn : Func} {R : Ending → World → Prop} {a : Act} {W : World} (h : Mk B W a.defers) (hr : ∀ W', ButB (fun b => B ≤ b ∧ W.heap[b]? = some (.deferred (some []))) W W' → ∃ v, (results fn a.tmps).run P W' = .ok v W' ∧ R (.returned v) W') : bodyPostM F n P fn R .ret a W := by
 obtain ⟨Ds, e, h1, h2⟩ := h
 show LeavesInM F n P fn a.tmps R a.defers .returning W
 rw [e]
 exact mk_leaveL Ds W h1 (fun D hD => (h2 D hD).2) fun W' hb => hr W' (hb.mono fun b hb => h2 b hb)
end Go.Proofs.YtegmniphgahblaaGreat
