/- Walk: each. -/
import Derived.Test.YtknkneccnhgjmaaA2
import Derived.Shelf.Abstract
namespace Go.Proofs.Ytknkneccnhgjmaa
open Go.RowKit

/-- All blocks from H on that lay in w lie as they lay; the streams too. -/
structure Above (H : Nat) (w w' : World) : Prop where
  size : w.heap.size ≤ w'.heap.size
  block : ∀ k, H ≤ k → k < w.heap.size → w'.heap[k]? = w.heap[k]?

theorem Above.of_below {H : Nat} {w w' : World} (h : Below w.heap.size w w') : Above H w w' := ⟨h.size, fun k _ hk => h.block k hk⟩
theorem Above.refl (H : Nat) (w : World) : Above H w w := ⟨Nat.le_refl _, fun _ _ _ => rfl⟩
theorem Above.trans {H : Nat} {a b c : World} (h : Above H a b) (k : Above H b c) : Above H a c :=
  ⟨Nat.le_trans h.size k.size, fun i hi hl => (k.block i hi (Nat.lt_of_lt_of_le hl h.size)).trans (h.block i hi hl)⟩

/-- What a function value gives that is asked for numbers, one by one: state 'I t' before it is asked for the t-th. -/
def Tells (g : Nat) (caps : Array Value) (n H : Nat) (F : Nat → Int) (I : Nat → World → Prop) : Prop :=
  (∀ t W W', I t W → Below H W W' → I t W') ∧
  ∀ (t : Nat) (W : World), t < n → I t W → H ≤ W.heap.size → Calls Try.prog g (#[.int .i64 t] ++ caps) W fun e W' => e = .returned (.int .i64 (F t)) ∧ I (t + 1) W' ∧ Above H W W'

theorem row_at {H g t : Nat} {ty : TypeId} {w w1 : World} {cs : Array Value} (h : w.heap[g]? = some (.cells cs ty (0, 0))) (hA : Above H w w1) (hg : H ≤ g) (ht : t < cs.size) :
    w1.heap[g]? = some (.cells cs ty (0, 0)) ∧ (∃ v, w1.cell? ⟨g, t, none⟩ = some v) ∧ w1.frozen? ⟨g, t, none⟩ = false := by
  have h1 : w1.heap[g]? = some (.cells cs ty (0, 0)) := (hA.block g hg (Array.getElem?_eq_some_iff.1 h).1).trans h
  exact ⟨h1, ⟨cs[t], by rw [cell_of_row w1 g t cs ty (0, 0) h1, Array.getElem?_eq_getElem ht]⟩, frozen_of_row w1 g t cs ty h1⟩

def REach (H n : Nat) (F : Nat → Int) (I : Nat → World → Prop) (e : Ending) (w' : World) : Prop :=
  ∃ A c, e = .returned (.agg #[.slice A n c]) ∧ Rd w' w'.heap.size A ((List.range n).map F) ∧ Fresh H A ∧ I n w'

set_option maxHeartbeats 400000 in
theorem each_any (g : Nat) (caps : Array Value) (eg : ∀ args w, (callFunc g args).run Try.prog w = .ok (.enter g args) w) (n : Nat) (h1 : 1 ≤ n) (hn : n ≤ 121) (F : Nat → Int) (I : Nat → World → Prop) (w : World)
    (h0 : I 0 w) (hT : Tells g caps n w.heap.size F I) : Calls Try.prog 71 #[.int .i64 n, .func (.func g) #[] caps] w fun e w' => REach w.heap.size n F I e w' := by
  have hz : Try.zeroCells118.size = 121 := by kernel_rfl
  obtain ⟨hI, hC⟩ := hT
  go_enter Try.func71, Try.ntmps71
  go_wp2_with fail
  go_loopg [8] n (fun gk i wr => ∃ t : Nat, t ≤ n ∧ n - t ≤ gk ∧ i = .int .i64 t ∧ Aside (I t wr) ∧ w.heap.size + 2 ≤ wr.heap.size ∧ wr.heap[w.heap.size]? = some (.cells #[.slice none 0 0] 26 (0, 0)) ∧
      ∃ cs : Array Value, wr.heap[w.heap.size + 1]? = some (.cells cs 118 (0, 0)) ∧ cs.size = 121 ∧ Aside (∀ j, j < t → cs[j]? = some (.int .i64 (F j))))
  case atStart =>
    refine ⟨0, Nat.zero_le _, by omega, rfl, hI 0 _ _ h0 (((Below.refl _ w).alloc (Nat.le_refl _) _).alloc (by simp) _), by simp, heap_alloc2_old _ _ _, Try.zeroCells118, heap_alloc2_new _ _ _, hz, fun j hj => absurd hj (Nat.not_lt_zero _)⟩
  case round =>
    obtain ⟨t, ht, hg, rfl, hIt, hsz, hb0, cs, hcs, hcn, hF⟩ := hrel
    by_cases hlt : t < n
    · have hc := hC t wr hlt hIt.out (by omega)
      have HcI := Lib.hid hI
      have Hcn := Lib.hid hcn
      have Hb0 := Lib.hid hb0
      have Hcs := Lib.hid hcs
      have ht121 : (t : Int) < 121 := by omega
      clear hI hcn hb0 hcs
      go_wp2_with (go_at_fn g; refine hc.mono ?_; rintro e w1 ⟨rfl, hI1, hA1⟩; obtain ⟨h1, ⟨v1, c1⟩, f1⟩ := row_at Hcs.out hA1 (show w.heap.size ≤ w.heap.size + 1 by omega) (show t < cs.size by rw [Hcn.out]; omega); have H1 := Lib.hid h1; clear h1)
      go_roundg (n - (t + 1))
      case measure => omega
      case rel =>
        have hb1 : w1.heap[w.heap.size]? = some (.cells #[.slice none 0 0] 26 (0, 0)) := (hA1.block _ (Nat.le_refl _) (by omega)).trans Hb0.out
        refine ⟨t + 1, by omega, by omega, by go_num, ?_, by rw [World.size_setCell]; have := hA1.size; omega, (heap_setCell_other _ _ _ _ (by simp)).trans hb1, _, heap_setCell_same _ _ _ _ _ _ H1.out, by rw [Array.size_setIfInBounds]; exact Hcn.out, fun j hj => ?_⟩
        · exact HcI.out _ _ _ hI1 ((Below.refl _ _).setCell (by simp) _)
        · rw [Array.getElem?_setIfInBounds]
          split
          · rename_i e; subst e; rw [if_pos (by rw [Hcn.out]; omega)]
          · exact hF.out j (by omega)
    · obtain rfl : t = n := by omega
      have hge : ¬ (t : Int) < (t : Int) := by omega
      have hT1 : (t : Int) ≤ 121 := by omega
      have HF := Lib.hid hF.out
      have hrd : Rd wr wr.heap.size (some ⟨w.heap.size + 1, 0, none⟩) ((List.range t).map F) := fun _ => ⟨_, _, rfl, by omega, fun i hi => by
        have hi' : i < t := by simpa using hi
        rw [Nat.zero_add, cell_of_row wr _ i cs _ _ hcs, HF.out i hi']
        simp [nth, List.getD, hi']⟩
      have hcl := clone_any (w.heap.size + 1) 0 t ((List.range t).map F) wr hrd (by simp; omega) (by simp; omega)
      have c0 : wr.cell? ⟨w.heap.size, 0, none⟩ = some (.slice none 0 0) := by rw [cell_of_row wr _ 0 _ _ _ hb0]; rfl
      have f0 : wr.frozen? ⟨w.heap.size, 0, none⟩ = false := frozen_of_row wr _ 0 _ _ hb0
      simp only [List.length_map, List.length_range] at hcl
      have HI := Lib.hid hI
      clear hcs hb0 hcn hF hI
      go_wp2_with (go_at_call 114; refine hcl.mono ?_)
      rintro e w1 ⟨A, c, rfl, hrd1, hfr1, hb1⟩
      simp only [List.length_map, List.length_range] at *
      have c1 := (hb1.cell (p := ⟨w.heap.size, 0, none⟩) (by show w.heap.size < _; omega)).trans c0
      have f1 := (hb1.frozen (p := ⟨w.heap.size, 0, none⟩) (by show w.heap.size < _; omega)).trans f0
      have hfin : REach w.heap.size t F I (.returned (.agg #[.slice A t c])) (w1.setCell ⟨w.heap.size, 0, none⟩ (.slice A t c)) :=
        ⟨A, c, rfl, by rw [World.size_setCell]; exact hrd1.setCell (fun ad e => by have := hfr1 ad e; show ad.block ≠ w.heap.size; omega) _, hfr1.mono (by omega), HI.out _ _ _ (HI.out _ _ _ hIt.out (hb1.mono (by omega))) ((Below.refl _ w1).setCell (p := ⟨w.heap.size, 0, none⟩) (Nat.le_refl w.heap.size) _)⟩
      have Hfin := Lib.hid hfin
      clear hfin hrd1 hfr1 hb1 hcl hrd
      go_wp2
      exact bodyPost_ret (v := .agg #[.slice A t c]) (by simp [results, Try.results71, go_sem, c1]) rfl Hfin.out
end Go.Proofs.Ytknkneccnhgjmaa
