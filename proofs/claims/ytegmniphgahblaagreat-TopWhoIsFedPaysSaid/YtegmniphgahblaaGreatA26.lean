/- Walks: slices.Clone of ints and of spans, whose result may be written. -/
import Derived.Test.YtegmniphgahblaaGreatM8
namespace Go.Proofs.YtegmniphgahblaaGreat
open Go.RowKit Go.Shelf

/-- n ints in block g, from its begin on, that may be written. -/
structure IntF (W : World) (g n : Nat) (f : Nat → Int) : Prop where
 at_ : ∀ j, j < n → W.cell? ⟨g, j, none⟩ = some (.int .i64 (f j))
 fz : ∀ o, W.frozen? ⟨g, o, none⟩ = false
theorem IntF.heap {W W' : World} {g n : Nat} {f : Nat → Int} (h : IntF W g n f) (e : W'.heap[g]? = W.heap[g]?) : IntF W' g n f := ⟨fun j hj => (cell_of_heap e).trans (h.at_ j hj), fun o => by have := h.fz o; unfold World.frozen? at this ⊢; rw [e]; exact this⟩
theorem IntF.set {W : World} {g n i : Nat} {f : Nat → Int} (h : IntF W g n f) (hi : i < n) (x : Int) : IntF (W.setCell ⟨g, i, none⟩ (.int .i64 x)) g n (put f i x) := by
 refine ⟨fun j hj => ?_, fun o => by rw [World.frozen?_setCell]; exact h.fz o⟩
 unfold put
 by_cases e : j = i
 ·subst e
  rw [if_pos rfl]
  exact World.cell?_setCell_same' _ _ _ (by rw [h.at_ j hj]; rfl)
 ·rw [if_neg e]
  rw [cell_set_ne e]
  exact h.at_ j hj
theorem IntF.rd {W : World} {g : Nat} {xs : List Int} {f : Nat → Int} (h : IntF W g xs.length f) (hg : g < W.heap.size) (e : ∀ j, j < xs.length → f j = nth xs j) : Rd W W.heap.size (some ⟨g, 0, none⟩) xs := fun _ => ⟨g, 0, rfl, hg, fun i hi => by rw [Nat.zero_add, ← e i hi]; exact h.at_ i hi⟩

set_option maxHeartbeats 400000 in
theorem clone_ints (b off c : Nat) (xs : List Int) (w : World) (h : Rd w w.heap.size (some ⟨b, off, none⟩) xs) (h0 : 0 < xs.length) (hm : xs.length ≤ 1000) :
  Calls Tryz.prog 42 #[.slice (some ⟨b, off, none⟩) xs.length c] w fun e w' => ∃ g c', e = .returned (.slice (some ⟨g, 0, none⟩) xs.length c') ∧ w.heap.size ≤ g ∧ g < w'.heap.size ∧ IntF w' g xs.length (nth xs) ∧ Below w.heap.size w w' := by
 have q25 : ∀ (w : World) (a : Option Addr) (n c n' c' : Nat), (binOp .eql 28 (.slice a n c) (.slice none n' c')).run Tryz.prog w = .ok (.bool a.isNone) w := fun w a n c n' c' => Lib.run_eql_slice_nil w _ _ a n c n' c' Tryz.underlying28
 obtain ⟨i0, hi, hz0, hz1, hz2⟩ := info_parts info3
 go_enter Tryz.func42, Tryz.ntmps42
 go_wp2_with (at_builtin; refine wpList_append_own_at _ rfl _ _ 28 rfl (w.heap.size) 3 i0 (.int .i64 0) 1 8 Tryz.underlying28 hi hz0 hz1 hz2 rfl (by decide) _ 0 [] rfl ?c1 ⟨b, off, none⟩ xs.length c (xs.map (Value.int .i64)) rfl (by simp) ?c2 ?c3 ?c4 ?c5 ?c6 ?_)
 case c1 => exact World.ownsRow_made w #[] 0 (Nat.le_refl _) (by simp) rfl
 case c2 =>
  intro j u hj
  obtain ⟨hl, rfl⟩ := map_nth hj
  obtain ⟨b', off', e, hlb, hc⟩ := h h0
  simp only [Option.some.injEq, Addr.mk.injEq, and_true] at e
  obtain ⟨rfl, rfl⟩ := e
  rw [add_eq, World.cell?_alloc_past _ _ _ hlb]
  exact hc j hl
 case c3 => exact ints_oneCell _ _
 case c4 => unfold maxLen; omega
 case c5 => omega
 case c6 => simp
 intro v' w' hown hgrow _ _
 have hO : Own w' w.heap.size v' xs := hown
 have hb : Below w.heap.size w w' := (((Below.refl _ w).alloc (Nat.le_refl _) _).grown hgrow (by simp) (by intro k hk; simp [Value.ownBlock] at hk; omega))
 rcases hO.2 with ⟨e, hn⟩ | ⟨g, cap, cur, e, hbg, hg2, _⟩
 ·omega
 ·subst e
  have hf : IntF w' g xs.length (nth xs) := ⟨fun j hj => by
   have h1 := World.ownsRow.cells hO (g := g) rfl j _ (nth_map hj)
   rw [add_eq, Nat.zero_add] at h1
   exact h1, fun o => by simp [World.frozen?, hg2]⟩
  have hgl := (Array.getElem?_eq_some_iff.1 hg2).1
  have HF := hd4 hbg hgl hf hb
  clear hown hgrow hO hb hg2 hf hbg hgl
  go_wp2
  go_ret
  exact ⟨g, cap, rfl, HF.out⟩
end Go.Proofs.YtegmniphgahblaaGreat
