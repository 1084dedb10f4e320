/- Opens what comes into a law: a list of readings, a surge, a list of curves, a list of numbers. -/
import Derived.Test.YtknkneccnhgjmaaR1
namespace Go.Proofs.Ytknkneccnhgjmaa
open Go.ChangeShapes Go.WideShapes Go.ChangeAt Go.RowKit Go.Shelf

section
variable {H : Type} {enc : TypeId × Value → H} {w : World} {sp : Nat → Bool} {held : Bool}

set_option maxRecDepth 100000 in
theorem open_staff {fuel : Nat} {cs : List Value} {y : DataW H × List MemPlace} (h : DataW.trod enc Try.prog w 0 sp held fuel 86 cs = some y) :
    ∃ s : Sv, cs = [.int .i64 s.step, .int .i64 s.lo, .int .i64 s.hi] := by
  obtain ⟨y0, y1, n, _, hl, h0, h1⟩ := trod_struct2 Try.underlying86 h
  match cs, hl.trans cells86 with
  | [a, b, c], _ =>
    have k0 : DataW.trod enc Try.prog w 0 sp held n 3 [a] = some y0 := by simpa [cells3] using h0
    have k1 : DataW.trod enc Try.prog w 0 sp held n 73 [b, c] = some y1 := by simpa [cells73] using h1
    obtain ⟨z0, z1, m, _, _, g0, g1⟩ := trod_struct2 Try.underlying73 k1
    have k2 : DataW.trod enc Try.prog w 0 sp held m 3 [b] = some z0 := by simpa [cells3] using g0
    have k3 : DataW.trod enc Try.prog w 0 sp held m 3 [c] = some z1 := by simpa [cells3] using g1
    obtain ⟨a, e0, _, _⟩ := DataW.trod_int Try.underlying3 k0
    obtain ⟨b, e1, _, _⟩ := DataW.trod_int Try.underlying3 k2
    obtain ⟨c, e2, _, _⟩ := DataW.trod_int Try.underlying3 k3
    simp only [List.cons.injEq, and_true] at e0 e1 e2
    subst e0 e1 e2
    exact ⟨⟨a, b, c⟩, rfl⟩

theorem list_of {α : Type} (d : α) (P : Nat → α → Prop) : ∀ (n : Nat), (∀ i, i < n → ∃ x, P i x) → ∃ l : List α, l.length = n ∧ ∀ i, i < n → P i (l.getD i d)
  | 0, _ => ⟨[], rfl, fun i hi => absurd hi (Nat.not_lt_zero i)⟩
  | n + 1, h => by
    obtain ⟨l, hl, hP⟩ := list_of d P n fun i hi => h i (by omega)
    obtain ⟨x, hx⟩ := h n (by omega)
    refine ⟨l ++ [x], by simp [hl], fun i hi => ?_⟩
    rcases Nat.lt_or_ge i n with e | e
    · have : (l ++ [x]).getD i d = l.getD i d := by simp [List.getD, List.getElem?_append_left (show i < l.length by omega)]
      rw [this]
      exact hP i e
    · obtain rfl : i = n := by omega
      have : (l ++ [x]).getD i d = x := by subst hl; simp [List.getD]
      rw [this]
      exact hx

set_option maxRecDepth 100000 in
theorem open_staffs {r : Reach} {b0 : Nat} {v : Value} {d : DataW H} {p : List MemPlace} (hv : Value.okWide Try.prog w r b0 22 v) (h : DataW.Trod enc Try.prog w 0 sp held 22 v d p) :
    ∃ (A : Option Addr) (k : Nat) (l : List Sv), v = .slice A l.length k ∧ RdS w w.heap.size A l ∧ l.length ≤ maxLen := by
  obtain ⟨A, n, k, rfl⟩ := okWide_slice Try.underlying22 hv
  obtain ⟨fuel, hf⟩ := h
  rcases Go.Deep.open_slice Try.underlying22 hf with ⟨hcs, _⟩ | ⟨a, l, c, m, n', D, Pl, hcs, _, hl, hm, hmm, _, hi⟩
  · obtain ⟨rfl, rfl, rfl⟩ : A = none ∧ n = 0 ∧ k = 0 := by simpa [Value.cells] using hcs
    exact ⟨none, 0, [], rfl, fun h0 => absurd h0 (by simp), Nat.zero_le _⟩
  · obtain ⟨rfl, rfl, rfl⟩ : A = some a ∧ n = l ∧ k = c := by simpa [Value.cells] using hcs
    have hnm : n ≤ m := by rw [hmm]; split <;> omega
    obtain ⟨b, off, s⟩ := a
    rcases Nat.eq_zero_or_pos n with rfl | hpos
    · exact ⟨_, k, [], rfl, fun h0 => absurd h0 (by simp), Nat.zero_le _⟩
    have hs : s = none := by
      obtain ⟨cs', hc, ht⟩ := hi 0 (by omega)
      obtain ⟨x, rfl⟩ := open_staff ht
      rw [cells86] at hc
      obtain ⟨_, _, hat⟩ := World.cells?_some hc
      have a0 := World.cell?_spot (hat 0 (by decide))
      simpa [Addr.add] using a0
    subst hs
    have each : ∀ i, i < n → ∃ x : Sv, b < w.heap.size ∧ w.cell? ⟨b, off + i * 3, none⟩ = some (.int .i64 x.step) ∧ w.cell? ⟨b, off + i * 3 + 1, none⟩ = some (.int .i64 x.lo) ∧ w.cell? ⟨b, off + i * 3 + 2, none⟩ = some (.int .i64 x.hi) := fun i hin => by
      obtain ⟨cs', hc, ht⟩ := hi i (by omega)
      obtain ⟨x, rfl⟩ := open_staff ht
      rw [cells86] at hc
      obtain ⟨_, _, hat⟩ := World.cells?_some hc
      have a0 := hat 0 (by decide)
      have a1 := hat 1 (by decide)
      have a2 := hat 2 (by decide)
      have lt := lt_of_cell a1
      simp only [add_eq] at a0 a1 a2 lt
      exact ⟨x, lt, by simpa using a0, by simpa using a1, by simpa using a2⟩
    obtain ⟨ls, hlen, hP⟩ := list_of ⟨0, 0, 0⟩ _ n each
    refine ⟨some ⟨b, off, none⟩, k, ls, by rw [hlen], fun h0 => ?_, by omega⟩
    rw [hlen] at h0 ⊢
    obtain ⟨lb, _⟩ := hP 0 h0
    exact ⟨b, off, rfl, lb, fun i hi => by obtain ⟨_, h1, h2, h3⟩ := hP i hi; exact ⟨h1, h2, h3⟩⟩
end
end Go.Proofs.Ytknkneccnhgjmaa
