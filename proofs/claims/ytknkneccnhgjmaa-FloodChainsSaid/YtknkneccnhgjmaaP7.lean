/- Plain: what a course that obeys a limit, and that a service serves, keeps. No program is walked here. -/
import Derived.Test.YtknkneccnhgjmaaP6
namespace Go.Proofs.Ytknkneccnhgjmaa

theorem obeys_clos {a L : List Int} (h : ∀ t, t < a.length → ∀ s, s < t → nth a t - nth a s ≤ nth L (t - s)) (m : Nat) : ∀ t s, t < a.length → t = s + m → nth a t - nth a s ≤ closAt L m := by
  induction m using Nat.strongRecOn with
  | _ m ih =>
    intro t s ht e
    rcases Nat.eq_zero_or_pos m with rfl | hm
    · rw [closAt_zero, show s = t by omega]; omega
    · have hb := lastAt_bd L hm
      rw [closAt_last L hm]
      generalize lastAt L m = p at *
      have h1 := ih (m - p) (by omega) (t - p) s (by omega) (by omega)
      have h2 := h t ht (t - p) (by omega)
      rw [show t - (t - p) = p by omega] at h2
      omega
theorem served_cases {a d S : List Int} (h : ∀ t, t < a.length → nth d t ≤ nth a t ∧ nth (leastL a S) t ≤ nth d t) {t : Nat} (ht : t < a.length) : nth a t ≤ nth d t ∨ ∃ s, s ≤ t ∧ nth a s + nth S (t - s) ≤ nth d t := by
  have h1 := (h t ht).2
  rw [nth_leastL ht, joinAt_eq] at h1
  have h2 := splitAt_le a S t
  by_cases c : nth a t ≤ nth d t
  · exact .inl c
  · exact .inr ⟨splitAt a S t, h2, by omega⟩
theorem mostAt_le (xs ys : List Int) : mostAt xs ys ≤ xs.length - 1 := argb_le _ _ _
theorem holds_stored {a d L S : List Int} (hn : 1 ≤ a.length) (hl : L.length = a.length) (ho : ∀ t, t < a.length → ∀ s, s < t → nth a t - nth a s ≤ nth L (t - s))
    (hs : ∀ t, t < a.length → nth d t ≤ nth a t ∧ nth (leastL a S) t ≤ nth d t) : liesAt a d (mostAt a d) ≤ (backTop L S).2 := by
  have ht := mostAt_le a d
  generalize mostAt a d = t at *
  show nth a t - nth d t ≤ _
  rcases served_cases hs (t := t) (by omega) with h | ⟨s, h1, h2⟩
  · have := back_nonneg L S; omega
  · have h3 := obeys_clos ho (t - s) t s (by omega) (by omega)
    have h4 := back_at (L := L) (S := S) (t := t - s) (by omega)
    omega
theorem mono_le {xs : List Int} (h : Mono xs) {i j : Nat} (hij : i ≤ j) (hj : j < xs.length) : nth xs i ≤ nth xs j := by
  induction j with
  | zero => rw [show i = 0 by omega]; exact Int.le_refl _
  | succ j ih =>
    rcases Nat.lt_or_ge j i with e | e
    · rw [show i = j + 1 by omega]; exact Int.le_refl _
    · have := ih e (by omega); have := h j hj; omega
theorem holds_waited {a d L S : List Int} (va : Valid a) (vS : Valid S) (hl : L.length = a.length) (ho : ∀ t, t < a.length → ∀ s, s < t → nth a t - nth a s ≤ nth L (t - s))
    (hs : ∀ t, t < a.length → nth d t ≤ nth a t ∧ nth (leastL a S) t ≤ nth d t) : waitI a d ≤ delayI L S := by
  obtain ⟨w, e1, _, _, h1⟩ := waitI_spec a d
  obtain ⟨W, e2, _, h2, _⟩ := waitI_spec (closedL L) S
  unfold delayI
  rw [e1, e2]
  rcases Nat.lt_or_ge W w with c | c
  · exfalso
    obtain ⟨t, h3, h4⟩ := h1 W c
    have hm := mono_le va.2.2.1 (i := t) (j := t + W) (by omega) h3
    rcases served_cases hs h3 with h | ⟨s, h5, h6⟩
    · omega
    · have hS := (vS.bd (t + W - s)).1
      rcases Nat.lt_or_ge s t with e | e
      · have h7 := obeys_clos ho (t - s) t s (by omega) (by omega)
        have h8 := h2 (t - s) (by rw [closedL_length]; omega)
        rw [nth_closedL (by omega), show t - s + W = t + W - s by omega] at h8
        omega
      · have := mono_le va.2.2.1 (i := t) (j := s) e (by omega)
        omega
  · omega
theorem behindAt_ge {L S : List Int} {t : Nat} (ht : t < L.length) : closAt L t ≤ behindAt L S t ∧ ∀ u, t + u < L.length → closAt L (t + u) - nth S u ≤ behindAt L S t := by
  unfold behindAt
  rw [nth_closedL ht, nth_leadL (by rw [closedL_length]; exact ht)]
  refine ⟨by omega, fun u hu => ?_⟩
  have h := leadAt_ge (closedL L) S (t := t) (u := u) (by rw [closedL_length]; exact hu)
  rw [nth_closedL hu] at h
  omega
theorem nth_behindL {L S : List Int} {t : Nat} (ht : t < L.length) : nth (behindL L S) t = behindAt L S t := nth_tab (by rw [closedL_length]; exact ht)
theorem behindL_valid {L S : List Int} (vL : Valid L) (vS : Valid S) (he : S.length = L.length) : Valid (behindL L S) := by
  have vC := closedL_valid vL
  have vD := leadL_valid vC vS (by rw [closedL_length]; exact he)
  have hl := behindL_length L S
  have hc := closedL_length L
  have h1 := vL.1
  have hd : (leadL (closedL L) S).length = L.length := by rw [leadL_length, hc]
  refine ⟨by omega, by have := vL.2.1; omega, fun i hi => ?_, ?_, ?_⟩
  · rw [nth_behindL (by omega), nth_behindL (by omega)]
    unfold behindAt
    have := vC.2.2.1 i (by omega)
    have := vD.2.2.1 i (by omega)
    omega
  · rw [nth_behindL (by omega)]
    unfold behindAt
    have := (vC.bd 0).1
    omega
  · rw [hl, nth_behindL (by omega)]
    unfold behindAt
    have := (vC.bd (L.length - 1)).2
    have := (vD.bd (L.length - 1)).2
    omega
theorem holds_behind {a d L S : List Int} (hl : L.length = a.length) (ho : ∀ t, t < a.length → ∀ s, s < t → nth a t - nth a s ≤ nth L (t - s))
    (hs : ∀ t, t < a.length → nth d t ≤ nth a t ∧ nth (leastL a S) t ≤ nth d t) : ∀ t, t < a.length → ∀ s, s < t → nth d t - nth d s ≤ nth (behindL L S) (t - s) := fun t ht s hst => by
  rw [nth_behindL (by omega)]
  have hb := behindAt_ge (L := L) (S := S) (t := t - s) (by omega)
  have hda := (hs t ht).1
  rcases served_cases hs (t := s) (by omega) with h | ⟨r, h1, h2⟩
  · have := obeys_clos ho (t - s) t s ht (by omega)
    have := hb.1
    omega
  · have h3 := obeys_clos ho (t - r) t r ht (by omega)
    have h4 := hb.2 (s - r) (by omega)
    rw [show t - s + (s - r) = t - r by omega] at h4
    omega
/-- What lies in the surge that Backlog returns. -/
theorem surge_stored {L S : List Int} (vL : Valid L) (vS : Valid S) (he : S.length = L.length) : flowE (closedL L) (backOut L S) = 0 ∧ liesAt (closedL L) (backOut L S) (mostAt (closedL L) (backOut L S)) = (backTop L S).2 ∧ mostAt (closedL L) (backOut L S) = (backTop L S).1 := by
  have vC := closedL_valid vL
  have hSC : S.length = (closedL L).length := by rw [closedL_length]; exact he
  have vO : Valid (backOut L S) := leastL_valid vC vS hSC
  have hO : (backOut L S).length = (closedL L).length := by unfold backOut; rw [leastL_length]
  have ho : ok2 (closedL L) (backOut L S) = true := ok2_iff.2 ⟨vC, vO, hO⟩
  have hc : clashB (closedL L) (backOut L S) = false := by
    cases h : clashB (closedL L) (backOut L S)
    · rfl
    · obtain ⟨t, ht, hlt⟩ := clashB_iff.1 h
      have := least_le (xs := closedL L) (ys := S) t ht
      unfold backOut at hlt
      omega
  have hf : flowE (closedL L) (backOut L S) = 0 := by
    unfold flowE
    rw [ho, hc]
    rfl
  have h := stored_same hf
  have e : apartT (closedL L) (backOut L S) = backTop L S := by
    unfold apartT backTop backOut
    rw [closedL_length]
  rw [e] at h
  rw [h]
  exact ⟨hf, rfl, rfl⟩
end Go.Proofs.Ytknkneccnhgjmaa
