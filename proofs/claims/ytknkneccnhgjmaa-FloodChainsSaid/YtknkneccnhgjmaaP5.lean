/- Plain: what can lie in a reach at most. No program is walked here. -/
import Derived.Test.YtknkneccnhgjmaaP2
import Derived.Test.YtknkneccnhgjmaaG7
import Derived.Test.YtknkneccnhgjmaaG8
namespace Go.Proofs.Ytknkneccnhgjmaa

theorem back_apart {L S : List Int} : (backTop L S).2 = (apartT (closedL L) S).2 := by
  unfold apartT
  rw [closedL_length]
  refine Int.le_antisymm (back_le (topI_nonneg _ _) fun t ht => ?_) (topI_le (back_nonneg _ _) fun t ht => ?_)
  · have := topI_ge (fun t => nth (closedL L) t - nth S t) ht
    simp only [nth_closedL ht] at this
    exact this
  · have := back_at (S := S) ht
    simp only [nth_closedL ht]
    exact this
theorem leastL_valid {xs ys : List Int} (vx : Valid xs) (vy : Valid ys) (he : ys.length = xs.length) : Valid (leastL xs ys) := by
  have hl := vx.1
  refine ⟨by rw [leastL_length]; exact vx.1, by rw [leastL_length]; exact vx.2.1, fun i hi => ?_, (leastL_bd vx.bd vy.bd _).1, (leastL_bd vx.bd vy.bd _).2⟩
  rw [leastL_length] at hi
  rw [nth_leastL (by omega), nth_leastL hi]
  have := vx.2.2.1 i hi
  have := joinAt_step vx.2.2.1 vy.2.2.1 he hi
  omega
theorem brk_none_iff {a L : List Int} : brk a L = none ↔ ∀ t, t < a.length → ∀ s, s < t → nth a t - nth a s ≤ nth L (t - s) := by
  constructor
  · intro h t ht s hs
    rcases Int.lt_or_le (nth L (t - s)) (nth a t - nth a s) with e | e
    · exfalso
      have hb : brkAt a L t s = true := decide_eq_true e
      obtain ⟨t0, ⟨h1, s0, h2, h3⟩, h4⟩ := exists_least (p := fun t => t < a.length ∧ ∃ s, s < t ∧ brkAt a L t s = true) ⟨t, ht, s, hs, hb⟩
      obtain ⟨s1, ⟨h5, h6⟩, h7⟩ := exists_least (p := fun s => s < t0 ∧ brkAt a L t0 s = true) ⟨s0, h2, h3⟩
      have hsome := brk_some h1 h5 h6 (fun t' ht' s' hs' => by
        cases hq : brkAt a L t' s'
        · rfl
        · have := h4 t' ⟨by omega, s', hs', hq⟩; omega) (fun s' hs' => by
        cases hq : brkAt a L t0 s'
        · rfl
        · have := h7 s' ⟨by omega, hq⟩; omega)
      rw [h] at hsome
      cases hsome
    · exact e
  · intro h
    exact brk_none fun t ht s hs => by
      have := h t ht s hs
      unfold brkAt
      rw [decide_eq_false_iff_not]
      omega
theorem failsI_neg_iff {xs ys zs : List Int} : failsI xs ys zs < 0 ↔ ∀ t, t < xs.length → nth ys t ≤ nth xs t ∧ nth (leastL xs zs) t ≤ nth ys t := by
  unfold failsI
  rcases firstIdx_cases (failAt xs ys (leastL xs zs)) xs.length with ⟨e, h⟩ | ⟨t, ht, e, hp, _⟩
  · rw [e]
    constructor
    · intro _ t ht
      have := h t ht
      unfold failAt at this
      rw [Bool.or_eq_false_iff, decide_eq_false_iff_not, decide_eq_false_iff_not] at this
      omega
    · intro _; omega
  · rw [e]
    constructor
    · intro h'; omega
    · intro h
      have := h t ht
      unfold failAt at hp
      rw [Bool.or_eq_true, decide_eq_true_eq, decide_eq_true_eq] at hp
      omega
theorem least_le {xs ys : List Int} (t : Nat) (ht : t < xs.length) : nth (leastL xs ys) t ≤ nth xs t := by rw [nth_leastL ht]; omega
/-- The surge that Backlog returns is accepted. -/
theorem back_shown {L S : List Int} (vL : Valid L) (vS : Valid S) (he : S.length = L.length) : cbE L S (backTop L S).2 (closedL L) (backOut L S) ((backTop L S).1 : Nat) = 0 := by
  have vC := closedL_valid vL
  have hl := vL.1
  have hSC : S.length = (closedL L).length := by rw [closedL_length]; exact he
  have vO : Valid (backOut L S) := leastL_valid vC vS hSC
  have hO : (backOut L S).length = L.length := by unfold backOut; rw [leastL_length, closedL_length]
  have h1 : ok2 L S = true := ok2_iff.2 ⟨vL, vS, he⟩
  have h2 : ok3' L (closedL L) (backOut L S) = true := by
    unfold ok3'
    rw [ok2_iff.2 ⟨vL, vC, closedL_length L⟩, ok2_iff.2 ⟨vL, vO, hO⟩]
    rfl
  have hat := topI_at (fun t => nth (closedL L) t - nth (leastL (closedL L) S) t) L.length
  have h00 : nth (closedL L) 0 = 0 := by rw [nth_closedL (by omega), closAt_zero]
  have h3 : withinB ((backTop L S).1 : Nat) 0 ((L.length : Int) - 1) = true := by
    unfold withinB
    rw [decide_eq_true_eq]
    unfold backTop
    omega
  have h4 : brk (closedL L) L = none := brk_none_iff.2 fun t ht s hs => by
    rw [closedL_length] at ht
    rw [nth_closedL ht, nth_closedL (by omega)]
    have := closAt_le L (t := t) (p := t - s) (by omega) (by omega)
    rw [show t - (t - s) = s by omega] at this
    omega
  have h5 : servedOk (closedL L) (backOut L S) S = true := by
    unfold servedOk
    rw [decide_eq_true_eq, failsI_neg_iff]
    exact fun t ht => ⟨least_le t ht, Int.le_refl _⟩
  have h6 : nth (closedL L) ((backTop L S).1 : Int).toNat - nth (backOut L S) ((backTop L S).1 : Int).toNat = (backTop L S).2 := by
    rw [Int.toNat_natCast]
    rcases hat with ⟨e1, e2⟩ | ⟨_, _, e, _⟩
    · unfold backTop backOut
      rw [e1, e2, nth_leastL (by rw [closedL_length]; omega), h00]
      have h7 := splitAt_le (closedL L) S 0
      have h8 : joinAt (closedL L) S 0 = nth (closedL L) (splitAt (closedL L) S 0) + nth S (0 - splitAt (closedL L) S 0) := rfl
      have h9 : splitAt (closedL L) S 0 = 0 := by omega
      rw [h9, h00] at h8
      have := (vS.bd (0 - 0)).1
      omega
    · exact e
  unfold cbE cbB
  rw [if_pos h1, h2, h3, h4, h5, decide_eq_true h00, decide_eq_true h6]
  rfl
end Go.Proofs.Ytknkneccnhgjmaa
