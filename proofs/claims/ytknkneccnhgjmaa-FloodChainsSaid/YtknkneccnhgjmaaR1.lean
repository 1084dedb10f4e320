/- Opens what comes into a law: a curve, a surge, a list of curves, a list of readings. -/
import Derived.Test.YtknkneccnhgjmaaF3
import Derived.Test.YtknkneccnhgjmaaRows
import Derived.ProofKit
import Derived.OpenShut
import Derived.ChangeOld
import Derived.Deep.Slices
namespace Go.Proofs.Ytknkneccnhgjmaa
open Go.ChangeShapes Go.WideShapes Go.ChangeAt Go.RowKit Go.Shelf

theorem own_knob : ownKnob Try.prog.godebug = none := by kernel_rfl
theorem laid_out : laidOutB Try.prog = true := by kernel_rfl
theorem cells24 : Try.prog.cellsOf 24 = 1 := by kernel_rfl
theorem cells26 : Try.prog.cellsOf 26 = 1 := by kernel_rfl
theorem cells3 : Try.prog.cellsOf 3 = 1 := by kernel_rfl
theorem cells45 : Try.prog.cellsOf 45 = 3 := by kernel_rfl
theorem cells86 : Try.prog.cellsOf 86 = 3 := by kernel_rfl
theorem cells73 : Try.prog.cellsOf 73 = 2 := by kernel_rfl

theorem lt_of_cell {w : World} {a : Addr} {v : Value} (hc : w.cell? a = some v) : a.block < w.heap.size := by
  rcases Nat.lt_or_ge a.block w.heap.size with h | h
  · exact h
  · have : w.heap[a.block]? = none := by simp [h]
    simp [World.cell?, this] at hc

section
variable {H : Type} {enc : TypeId × Value → H} {w : World} {sp : Nat → Bool} {held : Bool}

theorem open_rd {fuel : Nat} {c : Value} {y : DataW H × List MemPlace} (h : DataW.trod enc Try.prog w 0 sp held fuel 24 [c] = some y) :
    ∃ (A : Option Addr) (k : Nat) (xs : List Int), c = .slice A xs.length k ∧ Rd w w.heap.size A xs ∧ xs.length ≤ maxLen := by
  rcases open_ints Try.underlying24 Try.underlying3 cells3 h with ⟨hcs, _⟩ | ⟨a, l, k, zs, hcs, _, hl, hm, hz, _, hcell, _⟩
  · obtain rfl : c = .slice none 0 0 := by simpa using hcs
    exact ⟨none, 0, [], rfl, Rd.nil, Nat.zero_le _⟩
  · obtain rfl : c = .slice (some a) l k := by simpa using hcs
    have hzl : l ≤ zs.length := by rw [hz]; split <;> omega
    have hlen : (zs.take l).length = l := by rw [List.length_take]; omega
    refine ⟨some a, k, zs.take l, by rw [hlen], fun h0 => ?_, by omega⟩
    rw [hlen] at h0
    obtain ⟨b, off, s⟩ := a
    have hc0 := hcell 0 (by omega)
    have hs := World.cell?_spot hc0
    simp only [Addr.add] at hs
    obtain rfl : s = none := by simpa using hs
    refine ⟨b, off, rfl, by have := lt_of_cell hc0; simpa [Addr.add] using this, fun i hi => ?_⟩
    rw [hlen] at hi
    have := hcell i (by omega)
    rw [add_eq] at this
    rw [this]
    simp [nth, List.getD, hi]

set_option maxRecDepth 100000 in
theorem open_curve {r : Reach} {b0 : Nat} {v : Value} {d : DataW H} {p : List MemPlace} (hv : Value.okWide Try.prog w r b0 26 v) (h : DataW.Trod enc Try.prog w 0 sp held 26 v d p) :
    ∃ (A : Option Addr) (k : Nat) (xs : List Int), v = .agg #[.slice A xs.length k] ∧ Rd w w.heap.size A xs ∧ xs.length ≤ maxLen := by
  obtain ⟨cs, rfl, hsz⟩ := okWide_struct Try.underlying26 hv
  obtain ⟨l⟩ := cs
  match l, hsz.trans cells26 with
  | [c0], _ =>
    obtain ⟨fuel, hf⟩ := h
    obtain ⟨y0, n, _, _, h0⟩ := trod_struct1 Try.underlying26 hf
    have h1 : DataW.trod enc Try.prog w 0 sp held n 24 [c0] = some y0 := h0
    obtain ⟨A, k, xs, rfl, hr, hm⟩ := open_rd h1
    exact ⟨A, k, xs, rfl, hr, hm⟩
end
end Go.Proofs.Ytknkneccnhgjmaa
