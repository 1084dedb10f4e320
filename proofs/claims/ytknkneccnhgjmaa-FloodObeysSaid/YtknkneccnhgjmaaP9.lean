/- Plain: what obeys a limit; a limit, closed. No program is walked here. -/
import Derived.Test.YtknkneccnhgjmaaP8
namespace Go.Proofs.Ytknkneccnhgjmaa

theorem obeysB_iff {a L : List Int} : obeysB a L = true ↔ ∀ t, t < a.length → ∀ s, s < t → nth a t - nth a s ≤ nth L (t - s) := by
  unfold obeysB
  rw [Option.isNone_iff_eq_none, brk_none_iff]
theorem clos_clos_at (L : List Int) (t : Nat) : t < L.length → closAt (closedL L) t = closAt L t := by
  induction t using Nat.strongRecOn with
  | _ t ih =>
    intro ht
    rcases Nat.eq_zero_or_pos t with rfl | h0
    · rw [closAt_zero, closAt_zero]
    · have h1 := closAt_limit (closedL L) h0
      rw [nth_closedL ht] at h1
      have hb := lastAt_bd (closedL L) h0
      have h2 := closAt_last (closedL L) h0
      generalize lastAt (closedL L) t = p at *
      rw [ih (t - p) (by omega) (by omega), nth_closedL (by omega)] at h2
      have h3 := closAt_add L (t - p) p
      rw [show t - p + p = t by omega] at h3
      omega
theorem clos_clos (L : List Int) : closedL (closedL L) = closedL L := by
  refine nth_ext (by rw [closedL_length]) fun i hi => ?_
  rw [closedL_length, closedL_length] at hi
  rw [nth_closedL (by rw [closedL_length]; exact hi), nth_closedL hi]
  exact clos_clos_at L i hi
theorem clos_atMost {L : List Int} (v : Valid L) : atMostB (closedL L) L = true := atMostB_iff.2 ⟨(closedL_length L).symm, fun i hi => by
  rw [closedL_length] at hi
  rw [nth_closedL hi]
  rcases Nat.eq_zero_or_pos i with rfl | h0
  · rw [closAt_zero]; exact (v.bd 0).1
  · exact closAt_limit L h0⟩
theorem obeys_closed {a L : List Int} (hl : L.length = a.length) : obeysB a (closedL L) = obeysB a L := by
  have h : obeysB a (closedL L) = true ↔ obeysB a L = true := by
    rw [obeysB_iff, obeysB_iff]
    constructor
    · intro h t ht s hs
      have h1 := h t ht s hs
      rw [nth_closedL (by omega)] at h1
      have := closAt_limit L (t := t - s) (by omega)
      omega
    · intro h t ht s hs
      rw [nth_closedL (by omega)]
      exact obeys_clos h (t - s) t s ht (by omega)
  cases h1 : obeysB a (closedL L) <;> cases h2 : obeysB a L
  · rfl
  · rw [h2] at h; rw [h.2 rfl] at h1; cases h1
  · rw [h1] at h; rw [h.1 rfl] at h2; cases h2
  · rfl
theorem tight_obeys (a : List Int) : obeysB a (leadL a a) = true := obeysB_iff.2 fun t ht s hs => by
  rw [nth_leadL (by omega)]
  have := leadAt_ge a a (t := t - s) (u := s) (by omega)
  rw [show t - s + s = t by omega] at this
  exact this
theorem tight_most {a L : List Int} (v : Valid L) (hl : L.length = a.length) (h : obeysB a L = true) : atMostB (leadL a a) L = true := atMostB_iff.2 ⟨by rw [leadL_length]; exact hl, fun i hi => by
  rw [leadL_length] at hi
  rw [nth_leadL hi]
  refine leadAt_le (v.bd i).1 fun u hu => ?_
  rcases Nat.eq_zero_or_pos i with rfl | h0
  · rw [Nat.zero_add]; have := (v.bd 0).1; omega
  · have := obeysB_iff.1 h (i + u) hu u (by omega)
    rw [show i + u - u = i by omega] at this
    exact this⟩
end Go.Proofs.Ytknkneccnhgjmaa
