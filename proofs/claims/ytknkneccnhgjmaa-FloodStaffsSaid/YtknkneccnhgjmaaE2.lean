/- Walks: the laws' examples: curve, Limit, Service, Course. -/
import Derived.Test.YtknkneccnhgjmaaE1
namespace Go.Proofs.Ytknkneccnhgjmaa
open Go.RowKit Go.Shelf

theorem rd_of_block {w : World} {g : Nat} {xs : List Int} {ty : TypeId} (h : w.heap[g]? = some (.cells (xs.map (Value.int .i64)).toArray ty (0, 0))) : Rd w w.heap.size (some ⟨g, 0, none⟩) xs := fun _ =>
  ⟨g, 0, rfl, (Array.getElem?_eq_some_iff.1 h).1, fun i hi => by
    rw [Nat.zero_add, cell_of_row w g i _ _ _ h]
    simpa using nth_map hi⟩

theorem curve_any (A : Option Addr) (n c : Nat) (w : World) : Calls Try.prog 66 #[.slice A n c] w fun e w' => e = .returned (.agg #[.slice A n c]) ∧ Below w.heap.size w w' := by
  have hb : Below w.heap.size w (w.alloc (.cells #[.slice A n c] 26)) := (Below.refl _ w).alloc (Nat.le_refl _) _
  go_enter Try.func66, Try.ntmps66
  go_wp2
  exact bodyPost_ret (v := .agg #[.slice A n c]) (by simp [results, Try.results66, go_sem]) rfl ⟨rfl, hb⟩

/-- The world in which curve is called by such an example. -/
def wEx (w : World) (xs : List Int) : World := (w.alloc (.cells #[.slice none 0 0] 26)).alloc (.cells (xs.map (Value.int .i64)).toArray 3)
theorem wEx_known (w : World) (xs : List Int) : Rd (wEx w xs) (wEx w xs).heap.size (some ⟨w.heap.size + 1, 0, none⟩) xs ∧ Below w.heap.size w (wEx w xs) ∧ (wEx w xs).cell? ⟨w.heap.size, 0, none⟩ = some (.slice none 0 0) ∧ (wEx w xs).frozen? ⟨w.heap.size, 0, none⟩ = false ∧ (wEx w xs).heap.size = w.heap.size + 1 + 1 := by
  refine ⟨rd_of_block (ty := 3) ?_, ((Below.refl _ w).alloc (Nat.le_refl _) _).alloc (by simp) _, by simp [wEx, go_sem], by simp [wEx, go_sem], by simp [wEx]⟩
  have := heap_alloc_new (w.alloc (.cells #[.slice none 0 0] 26)) (.cells (xs.map (Value.int .i64)).toArray 3)
  have hs1 : (w.alloc (.cells #[.slice none 0 0] 26)).heap.size = w.heap.size + 1 := by simp
  rwa [hs1] at this

theorem ex_fin {w w1 : World} {xs : List Int} (hb : Below (wEx w xs).heap.size (wEx w xs) w1) (n : Nat) (hn : n = xs.length) :
    (w1.setCell ⟨w.heap.size, 0, none⟩ (.slice (some ⟨w.heap.size + 1, 0, none⟩) n n)).cell? ⟨w.heap.size, 0, none⟩ = some (.slice (some ⟨w.heap.size + 1, 0, none⟩) n n) ∧
    RCurve w xs (.returned (.agg #[.slice (some ⟨w.heap.size + 1, 0, none⟩) n n])) (w1.setCell ⟨w.heap.size, 0, none⟩ (.slice (some ⟨w.heap.size + 1, 0, none⟩) n n)) := by
  obtain ⟨hrd, hb0, hc, hf, hs⟩ := wEx_known w xs
  subst hn
  refine ⟨World.cell?_setCell_same' _ _ _ (by rw [hb.cell (p := ⟨w.heap.size, 0, none⟩) (show w.heap.size < _ by omega), hc]; rfl), ?_⟩
  exact ⟨_, _, rfl, by rw [World.size_setCell]; exact (hrd.ext hb).setCell (fun ad e => by cases e; show w.heap.size + 1 ≠ w.heap.size; omega) _, fun ad e => by cases e; show w.heap.size ≤ w.heap.size + 1; omega, (hb0.trans (hb.mono (by omega))).setCell (by exact Nat.le_refl _) _⟩

def exLimit : List Int := [0, 4, 6, 7, 8]
def exService : List Int := [0, 0, 1, 3, 6]
def exCourse : List Int := [0, 3, 5, 7, 8]

set_option maxHeartbeats 800000 in
theorem Limit_any (w : World) : Calls Try.prog 64 #[] w fun e w' => RCurve w exLimit e w' := by
  have hc := curve_any (some ⟨w.heap.size + 1, 0, none⟩) 5 5 (wEx w exLimit)
  have HC := Lib.hid hc
  obtain ⟨_, _, h1, h2, hs⟩ := wEx_known w exLimit
  clear hc
  go_enter Try.func64, Try.ntmps64
  go_wp2_with (go_at_call 66; refine HC.out.mono ?_; rintro e w1 ⟨rfl, hb⟩; have c1 := (hb.cell (p := ⟨w.heap.size, 0, none⟩) (by rw [hs]; show w.heap.size < _; omega)).trans h1; have f1 := (hb.frozen (p := ⟨w.heap.size, 0, none⟩) (by rw [hs]; show w.heap.size < _; omega)).trans h2; have HF := Lib.hid (ex_fin hb 5 rfl); clear hb)
  obtain ⟨q1, HF⟩ := HF.out
  exact bodyPost_ret (v := .agg #[.slice (some ⟨w.heap.size + 1, 0, none⟩) 5 5]) (by simp [results, Try.results64, go_sem, q1]) rfl HF
set_option maxHeartbeats 800000 in
theorem Service_any (w : World) : Calls Try.prog 65 #[] w fun e w' => RCurve w exService e w' := by
  have hc := curve_any (some ⟨w.heap.size + 1, 0, none⟩) 5 5 (wEx w exService)
  have HC := Lib.hid hc
  obtain ⟨_, _, h1, h2, hs⟩ := wEx_known w exService
  clear hc
  go_enter Try.func65, Try.ntmps65
  go_wp2_with (go_at_call 66; refine HC.out.mono ?_; rintro e w1 ⟨rfl, hb⟩; have c1 := (hb.cell (p := ⟨w.heap.size, 0, none⟩) (by rw [hs]; show w.heap.size < _; omega)).trans h1; have f1 := (hb.frozen (p := ⟨w.heap.size, 0, none⟩) (by rw [hs]; show w.heap.size < _; omega)).trans h2; have HF := Lib.hid (ex_fin hb 5 rfl); clear hb)
  obtain ⟨q1, HF⟩ := HF.out
  exact bodyPost_ret (v := .agg #[.slice (some ⟨w.heap.size + 1, 0, none⟩) 5 5]) (by simp [results, Try.results65, go_sem, q1]) rfl HF
set_option maxHeartbeats 800000 in
theorem Course_any (w : World) : Calls Try.prog 67 #[] w fun e w' => RCurve w exCourse e w' := by
  have hc := curve_any (some ⟨w.heap.size + 1, 0, none⟩) 5 5 (wEx w exCourse)
  have HC := Lib.hid hc
  obtain ⟨_, _, h1, h2, hs⟩ := wEx_known w exCourse
  clear hc
  go_enter Try.func67, Try.ntmps67
  go_wp2_with (go_at_call 66; refine HC.out.mono ?_; rintro e w1 ⟨rfl, hb⟩; have c1 := (hb.cell (p := ⟨w.heap.size, 0, none⟩) (by rw [hs]; show w.heap.size < _; omega)).trans h1; have f1 := (hb.frozen (p := ⟨w.heap.size, 0, none⟩) (by rw [hs]; show w.heap.size < _; omega)).trans h2; have HF := Lib.hid (ex_fin hb 5 rfl); clear hb)
  obtain ⟨q1, HF⟩ := HF.out
  exact bodyPost_ret (v := .agg #[.slice (some ⟨w.heap.size + 1, 0, none⟩) 5 5]) (by simp [results, Try.results67, go_sem, q1]) rfl HF
end Go.Proofs.Ytknkneccnhgjmaa
