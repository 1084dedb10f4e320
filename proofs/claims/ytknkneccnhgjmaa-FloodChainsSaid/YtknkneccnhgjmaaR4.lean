/- Opens what comes into a law: a list of curves. -/
import Derived.Test.YtknkneccnhgjmaaR3
namespace Go.Proofs.Ytknkneccnhgjmaa
open Go.ChangeShapes Go.WideShapes Go.ChangeAt Go.RowKit Go.Shelf

section
variable {H : Type} {enc : TypeId × Value → H} {w : World} {sp : Nat → Bool} {held : Bool}

theorem getD_bang {l : List Cv} {i : Nat} : l[i]! = l.getD i ⟨none, 0, []⟩ := by
  simp [List.getD, getElem!_def]
  cases l[i]? <;> rfl

set_option maxRecDepth 100000 in
theorem open_curves {r : Reach} {b0 : Nat} {v : Value} {d : DataW H} {p : List MemPlace} (hv : Value.okWide Try.prog w r b0 66 v) (h : DataW.Trod enc Try.prog w 0 sp held 66 v d p) :
    ∃ (A : Option Addr) (k : Nat) (l : List Cv), v = .slice A l.length k ∧ RdC w w.heap.size A l ∧ (l.length ≤ maxLen ∧ l.length ≤ k ∧ ∀ i, i < l.length → l[i]!.xs.length ≤ maxLen) := by
  obtain ⟨A, n, k, rfl⟩ := okWide_slice Try.underlying66 hv
  obtain ⟨fuel, hf⟩ := h
  rcases Go.Deep.open_slice Try.underlying66 hf with ⟨hcs, _⟩ | ⟨a, l, c, m, n', D, Pl, hcs, _, hl, hm, hmm, _, hi⟩
  · obtain ⟨rfl, rfl, rfl⟩ : A = none ∧ n = 0 ∧ k = 0 := by simpa [Value.cells] using hcs
    exact ⟨none, 0, [], rfl, ⟨fun h0 => absurd h0 (by simp), fun i hi => absurd hi (Nat.not_lt_zero i)⟩, Nat.zero_le _, Nat.le_refl _, fun i hi => absurd hi (Nat.not_lt_zero i)⟩
  · obtain ⟨rfl, rfl, rfl⟩ : A = some a ∧ n = l ∧ k = c := by simpa [Value.cells] using hcs
    have hnm : n ≤ m := by rw [hmm]; split <;> omega
    obtain ⟨b, off, s⟩ := a
    rcases Nat.eq_zero_or_pos n with rfl | hpos
    · exact ⟨_, k, [], rfl, ⟨fun h0 => absurd h0 (by simp), fun i hi => absurd hi (Nat.not_lt_zero i)⟩, Nat.zero_le _, Nat.zero_le _, fun i hi => absurd hi (Nat.not_lt_zero i)⟩
    have one : ∀ i, i < n → ∃ x : Cv, w.cell? (Addr.add ⟨b, off, s⟩ i) = some x.v ∧ Rd w w.heap.size x.A x.xs ∧ x.xs.length ≤ maxLen := fun i hin => by
      obtain ⟨cs', hc, ht⟩ := hi i (by omega)
      rw [cells26] at hc
      obtain ⟨hlen, _, hat⟩ := World.cells?_some hc
      match cs', hlen with
      | [c], _ =>
        obtain ⟨A', k', xs, rfl, r1, m1⟩ := open_curve1 ht
        have a0 := hat 0 (by decide)
        exact ⟨⟨A', k', xs⟩, by simpa [Cv.v, Addr.add] using a0, r1, m1⟩
    have hs : s = none := by
      obtain ⟨x, h1, _⟩ := one 0 hpos
      have a0 := World.cell?_spot h1
      simpa [Addr.add] using a0
    subst hs
    have each : ∀ i, i < n → ∃ x : Cv, b < w.heap.size ∧ w.cell? ⟨b, off + i, none⟩ = some x.v ∧ Rd w w.heap.size x.A x.xs ∧ x.xs.length ≤ maxLen := fun i hin => by
      obtain ⟨x, h1, h2, h3⟩ := one i hin
      have lt := lt_of_cell h1
      rw [add_eq] at h1 lt
      exact ⟨x, lt, h1, h2, h3⟩
    obtain ⟨ls, hlen, hP⟩ := list_of ⟨none, 0, []⟩ _ n each
    refine ⟨some ⟨b, off, none⟩, k, ls, by rw [hlen], ⟨fun h0 => ?_, fun i hi => ?_⟩, by omega, by omega, fun i hi => ?_⟩
    · rw [hlen] at h0 ⊢
      obtain ⟨lb, _⟩ := hP 0 h0
      exact ⟨b, off, rfl, lb, fun i hi => by obtain ⟨_, h1, _, _⟩ := hP i hi; rw [getD_bang]; exact h1⟩
    · rw [hlen] at hi
      rw [getD_bang]
      exact (hP i hi).2.2.1
    · rw [hlen] at hi
      rw [getD_bang]
      exact (hP i hi).2.2.2
end
end Go.Proofs.Ytknkneccnhgjmaa
