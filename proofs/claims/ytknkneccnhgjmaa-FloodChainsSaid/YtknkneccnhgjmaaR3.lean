/- Opens what comes into a law: a surge, a list of curves, a list of numbers. -/
import Derived.Test.YtknkneccnhgjmaaR2
import Derived.Deep.Strs
namespace Go.Proofs.Ytknkneccnhgjmaa
open Go.ChangeShapes Go.WideShapes Go.ChangeAt Go.RowKit Go.Shelf

section
variable {H : Type} {enc : TypeId × Value → H} {w : World} {sp : Nat → Bool} {held : Bool}

set_option maxRecDepth 100000 in
theorem open_curve1 {fuel : Nat} {c : Value} {y : DataW H × List MemPlace} (h : DataW.trod enc Try.prog w 0 sp held fuel 26 [c] = some y) :
    ∃ (A : Option Addr) (k : Nat) (xs : List Int), c = .slice A xs.length k ∧ Rd w w.heap.size A xs ∧ xs.length ≤ maxLen := by
  obtain ⟨y0, n, _, _, h0⟩ := trod_struct1 Try.underlying26 h
  have h1 : DataW.trod enc Try.prog w 0 sp held n 24 [c] = some y0 := h0
  exact open_rd h1

set_option maxRecDepth 100000 in
theorem open_surge {r : Reach} {b0 : Nat} {v : Value} {d : DataW H} {p : List MemPlace} (hv : Value.okWide Try.prog w r b0 45 v) (h : DataW.Trod enc Try.prog w 0 sp held 45 v d p) :
    ∃ (A : Option Addr) (k : Nat) (xs : List Int) (B : Option Addr) (j : Nat) (ys : List Int) (n : Int), v = .agg #[.slice A xs.length k, .slice B ys.length j, .int .i64 n] ∧ Rd w w.heap.size A xs ∧ xs.length ≤ maxLen ∧ Rd w w.heap.size B ys ∧ ys.length ≤ maxLen := by
  obtain ⟨cs, rfl, hsz⟩ := okWide_struct Try.underlying45 hv
  obtain ⟨l⟩ := cs
  match l, hsz.trans cells45 with
  | [a, b, c], _ =>
    obtain ⟨fuel, hf⟩ := h
    obtain ⟨y0, y1, y2, n, _, _, h0, h1, h2⟩ := Go.Deep.trod_struct3 Try.underlying45 hf
    have k0 : DataW.trod enc Try.prog w 0 sp held n 26 [a] = some y0 := by simpa [Value.cells, cells26] using h0
    have k1 : DataW.trod enc Try.prog w 0 sp held n 26 [b] = some y1 := by simpa [Value.cells, cells26] using h1
    have k2 : DataW.trod enc Try.prog w 0 sp held n 3 [c] = some y2 := by simpa [Value.cells, cells3] using h2
    obtain ⟨A, k, xs, rfl, r1, m1⟩ := open_curve1 k0
    obtain ⟨B, j, ys, rfl, r2, m2⟩ := open_curve1 k1
    obtain ⟨n, e, _, _⟩ := DataW.trod_int Try.underlying3 k2
    simp only [List.cons.injEq, and_true] at e
    subst e
    exact ⟨A, k, xs, B, j, ys, n, rfl, r1, m1, r2, m2⟩

set_option maxRecDepth 100000 in
theorem open_intlist {r : Reach} {b0 : Nat} {v : Value} {d : DataW H} {p : List MemPlace} (hv : Value.okWide Try.prog w r b0 24 v) (h : DataW.Trod enc Try.prog w 0 sp held 24 v d p) :
    ∃ (A : Option Addr) (k : Nat) (xs : List Int), v = .slice A xs.length k ∧ Rd w w.heap.size A xs ∧ xs.length ≤ maxLen := by
  obtain ⟨A, n, k, rfl⟩ := okWide_slice Try.underlying24 hv
  obtain ⟨fuel, hf⟩ := h
  have h1 : DataW.trod enc Try.prog w 0 sp held fuel 24 [.slice A n k] = some (d, p) := hf
  exact open_rd h1
end
end Go.Proofs.Ytknkneccnhgjmaa
