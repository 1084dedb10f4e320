/- Walks: slices.Clone, each. -/
import Derived.Test.YtknkneccnhgjmaaA1
import Derived.Maps.AppendAt
import Derived.Lib.SliceRun
namespace Go.Proofs.Ytknkneccnhgjmaa
open Go.RowKit

theorem info3 : (Try.prog.info? 3).map (fun i => (i.zero, i.size, i.bytes)) = some (some (.int .i64 0), 1, 8) := by kernel_rfl

/-- A slice of the call's own that holds xs. -/
def Own (w : World) (base : Nat) (v : Value) (xs : List Int) : Prop := w.ownsRow base 3 1 v xs.length (xs.map (Value.int .i64))

theorem nth_map {xs : List Int} {i : Nat} (h : i < xs.length) : (xs.map (Value.int .i64))[i]? = some (.int .i64 (nth xs i)) := by
  rw [List.getElem?_map, List.getElem?_eq_getElem h]
  simp [nth, List.getD, List.getElem?_eq_getElem h]

theorem add_eq (g o i : Nat) : (⟨g, o, none⟩ : Addr).add i = ⟨g, o + i, none⟩ := by unfold Addr.add; split <;> simp_all
theorem map_nth {xs : List Int} {j : Nat} {u : Value} (h : (xs.map (Value.int .i64))[j]? = some u) : j < xs.length ∧ u = .int .i64 (nth xs j) := by
  have hl : j < xs.length := by have := (List.getElem?_eq_some_iff.1 h).1; simpa using this
  rw [nth_map hl] at h
  exact ⟨hl, (Option.some.inj h).symm⟩

theorem Own.rd {w : World} {base : Nat} {v : Value} {xs : List Int} (h : Own w base v xs) : ∃ A c, v = .slice A xs.length c ∧ Rd w w.heap.size A xs ∧ Fresh base A := by
  have h0 := h
  rcases h.2 with ⟨rfl, hn⟩ | ⟨g, cap, cur, rfl, hb, hg, hnc, hcm, hcs, ht⟩
  · refine ⟨none, 0, by rw [hn], fun hl => absurd hl (by omega), fun _ e => by cases e⟩
  · refine ⟨_, _, rfl, fun hl => ⟨g, 0, rfl, (Array.getElem?_eq_some_iff.1 hg).1, fun i hi => ?_⟩, fun ad e => by cases e; exact hb⟩
    have h1 := World.ownsRow.cells h0 (g := g) rfl i _ (nth_map hi)
    rwa [add_eq] at h1

theorem Own.nil (w : World) (base : Nat) : Own w base (.slice none 0 0) [] := World.ownsRow_nil w base 3 1

/-- What a call hands back that returns a slice that reads as xs. -/
def RSlice (w : World) (xs : List Int) (e : Ending) (w' : World) : Prop := ∃ A c, e = .returned (.slice A xs.length c) ∧ Rd w' w'.heap.size A xs ∧ Fresh w.heap.size A ∧ Below w.heap.size w w'
/-- .. a curve. -/
def RCurve (w : World) (xs : List Int) (e : Ending) (w' : World) : Prop := ∃ A c, e = .returned (.agg #[.slice A xs.length c]) ∧ Rd w' w'.heap.size A xs ∧ Fresh w.heap.size A ∧ Below w.heap.size w w'

set_option maxHeartbeats 400000 in
theorem clone_any (b off c : Nat) (xs : List Int) (w : World) (h : Rd w w.heap.size (some ⟨b, off, none⟩) xs) (h0 : 0 < xs.length) (hm : xs.length ≤ 1000) :
    Calls Try.prog 114 #[.slice (some ⟨b, off, none⟩) xs.length c] w fun e w' => RSlice w xs e w' := by
  have q24 : ∀ (w : World) (a : Option Addr) (n c n' c' : Nat), (binOp .eql 24 (.slice a n c) (.slice none n' c')).run Try.prog w = .ok (.bool a.isNone) w := fun w a n c n' c' => Lib.run_eql_slice_nil w _ _ a n c n' c' Try.underlying24
  obtain ⟨i0, hi, hz0, hz1, hz2⟩ := info_parts info3
  go_enter Try.func114, Try.ntmps114
  go_wp2_with (at_builtin; refine wpList_append_own_at _ rfl _ _ 24 rfl (w.heap.size) 3 i0 (.int .i64 0) 1 8 Try.underlying24 hi hz0 hz1 hz2 rfl (by decide) _ 0 [] rfl ?c1 ⟨b, off, none⟩ xs.length c (xs.map (Value.int .i64)) rfl (by simp) ?c2 ?c3 ?c4 ?c5 ?c6 ?_)
  case c1 => exact World.ownsRow_made w #[] 0 (Nat.le_refl _) (by simp) rfl
  case c2 =>
    intro j u hj
    obtain ⟨hl, rfl⟩ := map_nth hj
    obtain ⟨b', off', e, hlb, hc⟩ := h h0
    simp only [Option.some.injEq, Addr.mk.injEq, and_true] at e
    obtain ⟨rfl, rfl⟩ := e
    rw [add_eq, World.cell?_alloc_past _ _ _ hlb]
    exact hc j hl
  case c3 => exact ints_oneCell _ _
  case c4 => unfold maxLen; omega
  case c5 => omega
  case c6 => simp
  intro v' w' hown hgrow _ _
  have hO : Own w' w.heap.size v' xs := hown
  obtain ⟨A, c', rfl, hrd, hfr⟩ := hO.rd
  have hb : Below w.heap.size w w' := (((Below.refl _ w).alloc (Nat.le_refl _) _).grown hgrow (by simp) (by intro k hk; simp [Value.ownBlock] at hk; omega))
  clear hown hgrow
  go_wp2
  go_ret
  exact ⟨A, c', rfl, hrd, hfr, hb⟩
end Go.Proofs.Ytknkneccnhgjmaa
