/- Words: slices of the call's own, of structs of any size. -/
import Derived.Test.YtegmniphgahblaaGreatW5
namespace Go.Proofs.YtegmniphgahblaaGreat
open Go.RowKit Go.Shelf

/-- A slice of the call's own that holds some structs of k cells. -/
def OwnK {α : Type} (ty : TypeId) (k : Nat) (f : α → List Value) (w : World) (base : Nat) (v : Value) (l : List α) : Prop := w.ownsRow base ty k v l.length (l.flatMap f)
theorem flat_at {α : Type} {k : Nat} (f : α → List Value) (hf : ∀ x, (f x).length = k) (d : α) : ∀ (l : List α) (i j : Nat), i < l.length → j < k → (l.flatMap f)[i * k + j]? = (f (l.getD i d))[j]?
 | [], i, j, h, _ => absurd h (by simp)
 | x :: r, 0, j, _, hj => by
  rw [List.flatMap_cons, List.getElem?_append_left (by rw [hf]; omega)]
  simp
 | x :: r, i + 1, j, h, hj => by
  rw [List.flatMap_cons, show (i + 1) * k + j = (f x).length + (i * k + j) by rw [hf, Nat.add_mul]; omega, List.getElem?_append_right (by omega), Nat.add_sub_cancel_left, flat_at f hf d r i j (by simp at h; omega) hj]
  simp
section
variable {α : Type} {ty : TypeId} {k : Nat} {f : α → List Value} {w w' : World} {base : Nat} {v : Value} {l : List α}
theorem OwnK.nil (ty : TypeId) (k : Nat) (f : α → List Value) (w : World) (base : Nat) : OwnK ty k f w base (.slice none 0 0) [] := World.ownsRow_nil _ _ _ _
theorem OwnK.blkIs (h : OwnK ty k f w base v l) {b : Nat} (e : v.ownBlock = some b) : base ≤ b ∧ b < w.heap.size ∧ ∃ o, w.heap[b]? = some o ∧ o.isCells = true := by
 rcases h.2 with ⟨rfl, hn⟩ | ⟨g, cap, cur, rfl, hb, hg, hnc, _⟩
 ·cases e
 ·cases e; exact ⟨hb, (Array.getElem?_eq_some_iff.1 hg).1, _, hg, rfl⟩
theorem OwnK.slice (h : OwnK ty k f w base v l) {n : Nat} (hn : l.length = n) : ∃ A c, v = .slice A n c := by
 subst hn
 rcases h.2 with ⟨rfl, hn⟩ | ⟨g, cap, cur, rfl, _⟩
 ·exact ⟨none, 0, by rw [hn]⟩
 ·exact ⟨_, _, rfl⟩
theorem OwnK.rd (hf : ∀ x, (f x).length = k) (d : α) (h : OwnK ty k f w base v l) : ∃ A c, v = .slice A l.length c ∧ (0 < l.length → ∃ g, A = some ⟨g, 0, none⟩ ∧ base ≤ g ∧ g < w.heap.size ∧ ∀ i j u, i < l.length → j < k → (f (l.getD i d))[j]? = some u → w.cell? ⟨g, i * k + j, none⟩ = some u) := by
 have h0 := h
 rcases h.2 with ⟨rfl, hn⟩ | ⟨g, cap, cur, rfl, hb, hg, hnc, hcm, hcs, ht⟩
 ·exact ⟨none, 0, by rw [hn], fun hl => absurd hl (by omega)⟩
 ·refine ⟨_, _, rfl, fun hl => ⟨g, rfl, hb, (Array.getElem?_eq_some_iff.1 hg).1, fun i j u hi hj hu => ?_⟩⟩
  have h1 := World.ownsRow.cells h0 (g := g) rfl (i * k + j) u (by rw [flat_at f hf d l i j hi hj]; exact hu)
  rw [add_eq, Nat.zero_add] at h1
  exact h1
theorem OwnK.blk (h : OwnK ty k f w base v l) (hb : ∀ b, v.ownBlock = some b → w'.heap[b]? = w.heap[b]?) : OwnK ty k f w' base v l := by
 rcases h.2 with ⟨rfl, hn⟩ | ⟨g, cap, cur, rfl, hb', hg, hr⟩
 ·exact ⟨h.1, .inl ⟨rfl, hn⟩⟩
 ·exact ⟨h.1, .inr ⟨g, cap, cur, rfl, hb', (hb g rfl).trans hg, hr⟩⟩
theorem OwnK.later (h : OwnK ty k f w base v l) (hb : Below w.heap.size w w') : OwnK ty k f w' base v l := h.blk fun _ e => hb.block _ (h.blkIs e).2.1
theorem OwnK.of_row {n : Nat} {y : α} (h : w.ownsRow base ty k v n (l.flatMap f ++ f y)) (hn : n = l.length + 1) : OwnK ty k f w base v (l ++ [y]) := by
 subst hn
 unfold OwnK
 rw [List.flatMap_append, List.length_append]
 simpa using h
theorem OwnK.row {n : Nat} (h : OwnK ty k f w base v l) (hn : l.length = n) : w.ownsRow base ty k v n (l.flatMap f) := hn ▸ h
end
end Go.Proofs.YtegmniphgahblaaGreat
