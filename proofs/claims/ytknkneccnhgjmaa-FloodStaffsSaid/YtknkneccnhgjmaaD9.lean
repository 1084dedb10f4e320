/- Walks: the reference's Between. -/
import Derived.Test.YtknkneccnhgjmaaD8
namespace Go.Proofs.Ytknkneccnhgjmaa
open Go.RowKit Go.Shelf

def REnds (w : World) (xs ys : List Int) (E : Int) (e : Ending) (w' : World) : Prop :=
  ∃ A c A' c', e = .returned (.agg #[.slice A xs.length c, .slice A' ys.length c', .int .i64 E]) ∧ Rd w' w'.heap.size A xs ∧ Rd w' w'.heap.size A' ys ∧ Below w.heap.size w w'

/-- A variable of the call's own: two curves and an error; both curves are appended to. -/
structure Outs2 (w1 wr : World) (G : Nat) (o0 o1 : Value) (xs ys : List Int) : Prop where
  bl : Below G w1 wr
  own0 : Own wr (G + 1) o0 xs
  own1 : Own wr (G + 1) o1 ys
  ne : ∀ k, o0.ownBlock = some k → o1.ownBlock ≠ some k
  c0 : wr.cell? ⟨G, 0, none⟩ = some o0
  c1 : wr.cell? ⟨G, 1, none⟩ = some o1
  c2 : wr.cell? ⟨G, 2, none⟩ = some (.int .i64 0)
  fr : ∀ i, wr.frozen? ⟨G, i, none⟩ = false
  lt : G < wr.heap.size

theorem own_lt {w : World} {base k : Nat} {v : Value} {xs : List Int} (h : Own w base v xs) (e : v.ownBlock = some k) : k < w.heap.size := by
  rcases h.2 with ⟨rfl, _⟩ | ⟨g, cap, cur, rfl, _, hg, _⟩
  · simp [Value.ownBlock] at e
  · simp only [Value.ownBlock, Option.some.injEq] at e
    subst e
    exact (Array.getElem?_eq_some_iff.1 hg).1
theorem own_keep {w w2 : World} {base : Nat} {v : Value} {xs : List Int} (h : Own w base v xs) (hk : ∀ k, v.ownBlock = some k → w2.heap[k]? = w.heap[k]?) : Own w2 base v xs := by
  have h' := h
  rcases h.2 with ⟨e, hn⟩ | ⟨g, cap, cur, e, hbg, hg, hrest⟩
  · exact ⟨h.1, .inl ⟨e, hn⟩⟩
  · exact ⟨h.1, .inr ⟨g, cap, cur, e, hbg, (hk g (by rw [e]; rfl)).trans hg, hrest⟩⟩

theorem Outs2.later {w1 wr w2 : World} {G : Nat} {o0 o1 : Value} {xs ys : List Int} (h : Outs2 w1 wr G o0 o1 xs ys) (hb : Below wr.heap.size wr w2) : Outs2 w1 w2 G o0 o1 xs ys :=
  ⟨h.bl.trans (hb.mono (Nat.le_of_lt h.lt)), own_keep h.own0 (fun k e => hb.block k (own_lt h.own0 e)), own_keep h.own1 (fun k e => hb.block k (own_lt h.own1 e)), h.ne,
    (hb.cell (p := ⟨G, 0, none⟩) h.lt).trans h.c0, (hb.cell (p := ⟨G, 1, none⟩) h.lt).trans h.c1, (hb.cell (p := ⟨G, 2, none⟩) h.lt).trans h.c2, fun i => (hb.frozen (p := ⟨G, i, none⟩) h.lt).trans (h.fr i), Nat.lt_of_lt_of_le h.lt hb.size⟩

theorem Outs2.app0 {w1 W w2 : World} {G : Nat} {o0 o1 : Value} {xs ys : List Int} (h : Outs2 w1 W G o0 o1 xs ys) (hg : W.grownBy w2 o0.ownBlock) :
    w2.cell? ⟨G, 0, none⟩ = some o0 ∧ w2.cell? ⟨G, 1, none⟩ = some o1 ∧ w2.cell? ⟨G, 2, none⟩ = some (.int .i64 0) ∧ (∀ i, w2.frozen? ⟨G, i, none⟩ = false) ∧ Below G W w2 ∧ Own w2 (G + 1) o1 ys ∧ W.heap.size ≤ w2.heap.size := by
  have hne : ∀ k, o0.ownBlock = some k → G < k := fun k e => own_block h.own0 e
  have hn : some G ≠ o0.ownBlock := fun e => by have := hne G e.symm; omega
  exact ⟨(hg.cell_far ⟨G, 0, none⟩ h.lt hn).trans h.c0, (hg.cell_far ⟨G, 1, none⟩ h.lt hn).trans h.c1, (hg.cell_far ⟨G, 2, none⟩ h.lt hn).trans h.c2, fun i => (hg.frozen_far ⟨G, i, none⟩ h.lt hn).trans (h.fr i),
    (Below.refl _ W).grown hg (Nat.le_of_lt h.lt) (fun k e => Nat.le_of_lt (hne k e)), own_keep h.own1 (fun k e => hg.block k (own_lt h.own1 e) (fun e' => h.ne k e'.symm e)), hg.size⟩
theorem Outs2.app1 {w1 W w2 : World} {G : Nat} {o0 o1 : Value} {xs ys : List Int} (h : Outs2 w1 W G o0 o1 xs ys) (hg : W.grownBy w2 o1.ownBlock) :
    w2.cell? ⟨G, 0, none⟩ = some o0 ∧ w2.cell? ⟨G, 1, none⟩ = some o1 ∧ w2.cell? ⟨G, 2, none⟩ = some (.int .i64 0) ∧ (∀ i, w2.frozen? ⟨G, i, none⟩ = false) ∧ Below G W w2 ∧ Own w2 (G + 1) o0 xs ∧ W.heap.size ≤ w2.heap.size := by
  have hne : ∀ k, o1.ownBlock = some k → G < k := fun k e => own_block h.own1 e
  have hn : some G ≠ o1.ownBlock := fun e => by have := hne G e.symm; omega
  exact ⟨(hg.cell_far ⟨G, 0, none⟩ h.lt hn).trans h.c0, (hg.cell_far ⟨G, 1, none⟩ h.lt hn).trans h.c1, (hg.cell_far ⟨G, 2, none⟩ h.lt hn).trans h.c2, fun i => (hg.frozen_far ⟨G, i, none⟩ h.lt hn).trans (h.fr i),
    (Below.refl _ W).grown hg (Nat.le_of_lt h.lt) (fun k e => Nat.le_of_lt (hne k e)), own_keep h.own0 (fun k e => hg.block k (own_lt h.own0 e) (fun e' => h.ne k e e'.symm)), hg.size⟩

theorem Outs2.push0 {w1 W w2 : World} {G : Nat} {o0 o1 nv : Value} {xs ys : List Int} {x : Int} (h : Outs2 w1 W G o0 o1 xs ys) (hg : W.grownBy w2 o0.ownBlock)
    (ho : w2.ownsRow (G + 1) 3 1 nv (xs.length + 1) (xs.map (Value.int .i64) ++ [.int .i64 x])) (hv : nv.ownBlock = o0.ownBlock ∨ nv.ownBlock = some W.heap.size) : Outs2 w1 (w2.setCell ⟨G, 0, none⟩ nv) G nv o1 (xs ++ [x]) ys := by
  obtain ⟨d0, d1, d2, df, db, dn, ds⟩ := h.app0 hg
  have hown : Own w2 (G + 1) nv (xs ++ [x]) := by unfold Own; rw [List.length_append, List.map_append]; exact ho
  refine ⟨(h.bl.trans db).setCell (Nat.le_refl G) nv, ownsRow_setCell_below hown (by show G < G + 1; omega) nv, ownsRow_setCell_below dn (by show G < G + 1; omega) nv, fun k e e' => ?_, World.cell?_setCell_same' _ _ _ (by rw [d0]; rfl),
    (cell_ne (by omega) _ _).trans d1, (cell_ne (by omega) _ _).trans d2, fun i => by rw [World.frozen?_setCell]; exact df i, by simp only [World.size_setCell]; exact Nat.lt_of_lt_of_le h.lt ds⟩
  rcases hv with hv | hv
  · exact h.ne k (hv.symm.trans e) e'
  · have := own_lt h.own1 e'
    rw [hv] at e
    simp only [Option.some.injEq] at e
    omega
theorem Outs2.push1 {w1 W w2 : World} {G : Nat} {o0 o1 nv : Value} {xs ys : List Int} {x : Int} (h : Outs2 w1 W G o0 o1 xs ys) (hg : W.grownBy w2 o1.ownBlock)
    (ho : w2.ownsRow (G + 1) 3 1 nv (ys.length + 1) (ys.map (Value.int .i64) ++ [.int .i64 x])) (hv : nv.ownBlock = o1.ownBlock ∨ nv.ownBlock = some W.heap.size) : Outs2 w1 (w2.setCell ⟨G, 1, none⟩ nv) G o0 nv xs (ys ++ [x]) := by
  obtain ⟨d0, d1, d2, df, db, dn, ds⟩ := h.app1 hg
  have hown : Own w2 (G + 1) nv (ys ++ [x]) := by unfold Own; rw [List.length_append, List.map_append]; exact ho
  refine ⟨(h.bl.trans db).setCell (Nat.le_refl G) nv, ownsRow_setCell_below dn (by show G < G + 1; omega) nv, ownsRow_setCell_below hown (by show G < G + 1; omega) nv, fun k e e' => ?_, (cell_ne (by omega) _ _).trans d0,
    World.cell?_setCell_same' _ _ _ (by rw [d1]; rfl), (cell_ne (by omega) _ _).trans d2, fun i => by rw [World.frozen?_setCell]; exact df i, by simp only [World.size_setCell]; exact Nat.lt_of_lt_of_le h.lt ds⟩
  rcases hv with hv | hv
  · exact h.ne k e (hv.symm.trans e')
  · have := own_lt h.own0 e
    rw [hv] at e'
    simp only [Option.some.injEq] at e'
    omega

theorem anyWrong_hit {last : Int} {l : List Sv} {i : Nat} (hi : i < l.length) (h : wrongB last (nthS l i) = true) (hA : ∀ j, j < i → wrongB last (nthS l j) = false) : anyWrong last l = true := by
  unfold anyWrong
  rw [firstIdx_hit hi h hA, decide_eq_true_eq]
  omega
theorem anyWrong_miss {last : Int} {l : List Sv} (hA : ∀ j, j < l.length → wrongB last (nthS l j) = false) : anyWrong last l = false := by
  unfold anyWrong
  rw [firstIdx_miss hA]
  rfl
theorem nth_loL {l : List Sv} {n t : Nat} (h : t < n) : nth (loL l n) t = loTo l t l.length := by unfold loL; rw [nth_tab h]
theorem nth_hiL {l : List Sv} {n t : Nat} (h : t < n) : nth (hiL l n) t = hiTo l t l.length := by unfold hiL; rw [nth_tab h]
theorem clash_hit {l : List Sv} {n t : Nat} (ht : t < n) (h : hiTo l t l.length < loTo l t l.length) (hA : ∀ j, j < t → ¬ hiTo l j l.length < loTo l j l.length) : clashB (hiL l n) (loL l n) = true := by
  unfold clashB
  have e : firstIdx (earlyAt (hiL l n) (loL l n)) (hiL l n).length = t := firstIdx_hit (by rw [hiL_length]; exact ht) (by unfold earlyAt; rw [nth_loL ht, nth_hiL ht]; exact decide_eq_true h) (fun j hj => by unfold earlyAt; rw [nth_loL (by omega), nth_hiL (by omega)]; exact decide_eq_false (hA j hj))
  rw [e, decide_eq_true_eq]
  omega
theorem clash_miss {l : List Sv} {n : Nat} (hA : ∀ j, j < n → ¬ hiTo l j l.length < loTo l j l.length) : clashB (hiL l n) (loL l n) = false := by
  unfold clashB
  have e : firstIdx (earlyAt (hiL l n) (loL l n)) (hiL l n).length = -1 := firstIdx_miss (fun j hj => by rw [hiL_length] at hj; unfold earlyAt; rw [nth_loL hj, nth_hiL hj]; exact decide_eq_false (hA j hj))
  rw [e]
  rfl
end Go.Proofs.Ytknkneccnhgjmaa
