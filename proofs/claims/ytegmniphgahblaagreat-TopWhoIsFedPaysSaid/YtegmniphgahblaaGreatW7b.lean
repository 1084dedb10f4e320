/- Arrays of 24 ints: loaded, stored, returned whole. -/
import Derived.Test.YtegmniphgahblaaGreatW7
import Derived.Test.YtegmniphgahblaaGreatW5
namespace Go.Proofs.YtegmniphgahblaaGreat
open Go.RowKit Go.Shelf

def arL (f : Nat → Int) : List Value := (List.range 24).map fun j => Value.int .i64 (f j)
def arV (f : Nat → Int) : Value := .agg (arL f).toArray
section
variable {W : World} {g : Nat} {f f0 : Nat → Int}
theorem arL_length (f : Nat → Int) : (arL f).length = 24 := by simp [arL]
theorem arL_one (f : Nat → Int) : (arL f).toArray.all (·.oneCell') = true := all_oneCell_toArray fun v hv => by
 obtain ⟨j, _, rfl⟩ := List.mem_map.1 hv
 rfl
theorem arL_congr {f h : Nat → Int} (e : ∀ j, j < 24 → f j = h j) : arL f = arL h := by
 unfold arL
 refine List.map_congr_left fun j hj => ?_
 rw [e j (List.mem_range.1 hj)]
theorem arV_congr {f h : Nat → Int} (e : ∀ j, j < 24 → f j = h j) : arV f = arV h := by
 unfold arV
 rw [arL_congr e]
theorem arr_range (h : ArrAt W g 125 24 f) : W.rangeAt g 0 (arL f) := by
 have := h.range 0 24 (Nat.le_refl _)
 simp only [Nat.zero_add] at this
 exact this
theorem arr_info (f : Nat → Int) : (Tryz.prog.info? 125).map (·.size) = some (arL f).length := by rw [arL_length]; kernel_rfl
theorem arr_load (h : ArrAt W g 125 24 f) : (Instr.loadAt 125 (.pointer (some ⟨g, 0, none⟩))).run Tryz.prog W = .ok (arV f) W :=
 run_loadAt_mid W _ _ _ (arL f) _ (arr_range h) Tryz.underlying125 (by rfl) (arr_info f)
theorem arr_var (h : ArrAt W g 125 24 f) : (loadVar 125 ⟨g, 0, none⟩).run Tryz.prog W = .ok (arV f) W := run_loadVar_mid _ _ _ _ (arL f) _ (arr_range h) Tryz.underlying125 (by rfl) (arr_info f)
theorem sets_but {p : Nat → Prop} (hp : p g) : ∀ (vs : List Value) (o : Nat) (W0 W' : World), ButB p W0 W' → ButB p W0 (W'.setCells g o vs)
 | [], _, _, _, h => h
 | v :: r, o, W0, W', h => by rw [World.setCells]; exact sets_but hp r (o + 1) W0 _ (h.set (a := ⟨g, o, none⟩) hp v)
theorem sets_size : ∀ (vs : List Value) (o : Nat) (W' : World), (W'.setCells g o vs).heap.size = W'.heap.size
 | [], _, _ => rfl
 | v :: r, o, W' => by rw [World.setCells, sets_size r, World.size_setCell]
theorem arr_store (h : ArrAt W g 125 24 f0) (f : Nat → Int) : ∃ W', (Instr.storeAt 125 (.pointer (some ⟨g, 0, none⟩)) (arV f)).run Tryz.prog W = .ok () W' ∧ ArrAt W' g 125 24 f ∧ ButB (fun b => b = g) W W' ∧ W'.heap.size = W.heap.size := by
 refine ⟨W.setCells g 0 (arL f), ?_, ?_, sets_but (p := fun b => b = g) rfl _ _ _ _ (ButB.refl _ _), sets_size _ _ _⟩
 ·unfold arV
  have := run_storeAt_mid (P := Tryz.prog) W g 0 125 (arL f).toArray (by rw [show (arL f).toArray.size = 24 by rw [List.size_toArray, arL_length]]; exact h.there 0 24 (Nat.le_refl _)) (by rw [show (arL f).toArray.size = 24 by rw [List.size_toArray, arL_length]]; kernel_rfl) (arL_one f)
  simpa using this
 ·have := ArrAt.sets ((List.range 24).map f) 0 W f0 h (by simp)
  rw [List.map_map] at this
  obtain ⟨cs2, u1, u2, u3⟩ := this
  refine ⟨cs2, u1, u2, fun j hj => ?_⟩
  rw [u3 j hj, puts_at, if_pos (by simp; omega)]
  simp [nth, hj]
end
/-- A new array, stored at once. -/
theorem arr_new (w : World) (f : Nat → Int) : ∃ W', (Instr.storeAt 125 (.pointer (some ⟨w.heap.size, 0, none⟩)) (arV f)).run Tryz.prog (w.alloc (.cells (#[.int .i64 0, .int .i64 0, .int .i64 0, .int .i64 0, .int .i64 0, .int .i64 0, .int .i64 0, .int .i64 0, .int .i64 0, .int .i64 0, .int .i64 0, .int .i64 0, .int .i64 0, .int .i64 0, .int .i64 0, .int .i64 0, .int .i64 0, .int .i64 0, .int .i64 0, .int .i64 0, .int .i64 0, .int .i64 0, .int .i64 0, .int .i64 0] : Array Value) 125)) = .ok () W' ∧ ArrAt W' w.heap.size 125 24 f ∧ Below w.heap.size w W' ∧ W'.heap.size = w.heap.size + 1 := by
 rw [show (#[.int .i64 0, .int .i64 0, .int .i64 0, .int .i64 0, .int .i64 0, .int .i64 0, .int .i64 0, .int .i64 0, .int .i64 0, .int .i64 0, .int .i64 0, .int .i64 0, .int .i64 0, .int .i64 0, .int .i64 0, .int .i64 0, .int .i64 0, .int .i64 0, .int .i64 0, .int .i64 0, .int .i64 0, .int .i64 0, .int .i64 0, .int .i64 0] : Array Value) = (List.replicate 24 (Value.int .i64 0)).toArray from rfl]
 obtain ⟨W', h1, h2, h3, h4⟩ := arr_store (arr_zero w 24 125) f
 exact ⟨W', h1, h2, ((Below.refl _ w).alloc (Nat.le_refl _) _).trans (h3.below (by simp) (by intro b hb e; omega)), by rw [h4]; simp⟩
end Go.Proofs.YtegmniphgahblaaGreat
