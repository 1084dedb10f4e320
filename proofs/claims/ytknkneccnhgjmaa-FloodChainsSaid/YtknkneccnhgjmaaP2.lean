/- Plain: closed limits, the greatest difference, the wait; sums of limits. No program is walked here. -/
import Derived.Test.YtknkneccnhgjmaaP1
namespace Go.Proofs.Ytknkneccnhgjmaa

theorem minPart_min {L : List Int} {o : Nat → Int} {t : Nat} (k : Nat) : (minPart L o t k).2 ≤ nth L t ∧ ∀ p, 1 ≤ p → p ≤ k → (minPart L o t k).2 ≤ o (t - p) + nth L p := by
  induction k with
  | zero => exact ⟨Int.le_refl _, fun p h1 h2 => by omega⟩
  | succ k ih =>
    unfold minPart
    split
    · rename_i c
      refine ⟨by have := ih.1; simp only; omega, fun p h1 h2 => ?_⟩
      rcases Nat.lt_or_ge k p with e | e
      · obtain rfl : p = k + 1 := by omega
        exact Int.le_refl _
      · have := ih.2 p h1 e; simp only; omega
    · rename_i c
      refine ⟨ih.1, fun p h1 h2 => ?_⟩
      rcases Nat.lt_or_ge k p with e | e
      · obtain rfl : p = k + 1 := by omega
        omega
      · exact ih.2 p h1 e
theorem minPart_at {L : List Int} {o : Nat → Int} {t : Nat} (h0 : o 0 = 0) (k : Nat) : (minPart L o t k).2 = o (t - (minPart L o t k).1) + nth L (minPart L o t k).1 := by
  induction k with
  | zero =>
    show nth L t = o (t - t) + nth L t
    rw [Nat.sub_self, h0]
    omega
  | succ k ih =>
    unfold minPart
    split
    · rfl
    · exact ih

theorem closAt_le (L : List Int) {t p : Nat} (h1 : 1 ≤ p) (h2 : p ≤ t) : closAt L t ≤ closAt L (t - p) + nth L p := by
  rw [closAt_eq L (show 0 < t by omega)]
  rcases Nat.lt_or_ge p t with e | e
  · exact (minPart_min (t - 1)).2 p h1 (by omega)
  · obtain rfl : p = t := by omega
    rw [Nat.sub_self, closAt_zero]
    have := (minPart_min (L := L) (o := closAt L) (t := p) (p - 1)).1
    omega
theorem closAt_last (L : List Int) {t : Nat} (h : 0 < t) : closAt L t = closAt L (t - lastAt L t) + nth L (lastAt L t) := by
  rw [closAt_eq L h]
  unfold lastAt
  rw [if_neg (by omega)]
  exact minPart_at (closAt_zero L) (t - 1)
theorem closAt_limit (L : List Int) {t : Nat} (h : 1 ≤ t) : closAt L t ≤ nth L t := by
  have := closAt_le L h (Nat.le_refl t)
  rw [Nat.sub_self, closAt_zero] at this
  omega
/-- A closed limit divides: what passes in two steps together is at most both. -/
theorem closAt_add (L : List Int) (s t : Nat) : closAt L (s + t) ≤ closAt L s + closAt L t := by
  induction t using Nat.strongRecOn with
  | _ t ih =>
    rcases Nat.eq_zero_or_pos t with rfl | h
    · rw [Nat.add_zero, closAt_zero]; omega
    · have hb := lastAt_bd L h
      rw [closAt_last L h]
      generalize lastAt L t = p at *
      have h1 := ih (t - p) (by omega)
      have h2 := closAt_le L (t := s + t) hb.1 (by omega)
      rw [show s + t - p = s + (t - p) by omega] at h2
      omega
theorem closAt_mono_limit {L L' : List Int} (h : ∀ i, nth L i ≤ nth L' i) (t : Nat) : closAt L t ≤ closAt L' t := by
  induction t using Nat.strongRecOn with
  | _ t ih =>
    rcases Nat.eq_zero_or_pos t with rfl | ht
    · rw [closAt_zero, closAt_zero]; omega
    · have hb := lastAt_bd L' ht
      rw [closAt_last L' ht]
      generalize lastAt L' t = p at *
      have h1 := closAt_le L hb.1 hb.2
      have h2 := ih (t - p) (by omega)
      have h3 := h p
      omega
theorem closAt_step {L : List Int} (v : Valid L) (t : Nat) (ht : t + 1 < L.length) : closAt L t ≤ closAt L (t + 1) := by
  induction t using Nat.strongRecOn with
  | _ t ih =>
    have hb := lastAt_bd L (t := t + 1) (by omega)
    rw [closAt_last L (t := t + 1) (by omega)]
    generalize lastAt L (t + 1) = p at *
    rcases Nat.lt_or_ge t p with e | e
    · obtain rfl : p = t + 1 := by omega
      rw [Nat.sub_self, closAt_zero]
      rcases Nat.eq_zero_or_pos t with rfl | h
      · rw [closAt_zero]; have := (v.bd (0 + 1)).1; omega
      · have h1 := closAt_limit L (t := t) h
        have h2 := v.2.2.1 t ht
        omega
    · have h1 := closAt_le L (t := t) hb.1 e
      have h2 := ih (t - p) (by omega) (by omega)
      rw [show t + 1 - p = t - p + 1 by omega]
      omega
theorem closedL_valid {L : List Int} (v : Valid L) : Valid (closedL L) := by
  refine ⟨by rw [closedL_length]; exact v.1, by rw [closedL_length]; exact v.2.1, fun i hi => ?_, (closedL_bd v _).1, (closedL_bd v _).2⟩
  rw [closedL_length] at hi
  rw [nth_closedL (by omega), nth_closedL hi]
  exact closAt_step v i hi

theorem topI_nonneg (h : Nat → Int) (k : Nat) : 0 ≤ (topI h k).2 := by
  induction k with
  | zero => exact Int.le_refl _
  | succ k ih =>
    unfold topI
    split
    · simp only; omega
    · exact ih
theorem topI_ge (h : Nat → Int) {k i : Nat} (hi : i < k) : h i ≤ (topI h k).2 := by
  induction k with
  | zero => omega
  | succ k ih =>
    unfold topI
    split
    · rename_i c
      rcases Nat.lt_or_ge i k with e | e
      · have := ih e; simp only; omega
      · obtain rfl : i = k := by omega
        exact Int.le_refl _
    · rename_i c
      rcases Nat.lt_or_ge i k with e | e
      · exact ih e
      · obtain rfl : i = k := by omega
        omega
/-- Either nothing is above 0, or the greatest one stands at the place that is told, and none before it is so great. -/
theorem topI_at (h : Nat → Int) (k : Nat) : ((topI h k).2 = 0 ∧ (topI h k).1 = 0) ∨ ((topI h k).1 < k ∧ 0 < (topI h k).2 ∧ h (topI h k).1 = (topI h k).2 ∧ ∀ j, j < (topI h k).1 → h j < (topI h k).2) := by
  induction k with
  | zero => exact .inl ⟨rfl, rfl⟩
  | succ k ih =>
    have hge := fun i (hi : i < k) => topI_ge h hi
    have hnn := topI_nonneg h k
    unfold topI
    split
    · rename_i c
      exact .inr ⟨by simp, by simp only; omega, rfl, fun j hj => by have := hge j hj; simp only; omega⟩
    · rcases ih with ih | ⟨a, b, c, d⟩
      · exact .inl ih
      · exact .inr ⟨by omega, b, c, d⟩
theorem topI_le {h : Nat → Int} {M : Int} (h0 : 0 ≤ M) {k : Nat} (hh : ∀ i, i < k → h i ≤ M) : (topI h k).2 ≤ M := (topI_bd h M h0 k hh).2.1

/-- No step is late. -/
theorem lateB_false {a b : List Int} {w : Nat} : lateB a b w = false ↔ ∀ t, t + w < a.length → nth a t ≤ nth b (t + w) := by
  unfold lateB lateTo
  rw [← Bool.not_eq_true, List.any_eq_true]
  constructor
  · intro h t ht
    rcases Int.lt_or_le (nth b (t + w)) (nth a t) with e | e
    · exact absurd ⟨t, List.mem_range.2 (by omega), by simpa using e⟩ h
    · exact e
  · rintro h ⟨t, ht, hx⟩
    have := h t (by rw [List.mem_range] at ht; omega)
    have : nth b (t + w) < nth a t := by simpa using hx
    omega
theorem waitI_spec (a b : List Int) : ∃ w : Nat, waitI a b = w ∧ w ≤ a.length ∧ (∀ t, t + w < a.length → nth a t ≤ nth b (t + w)) ∧ ∀ u, u < w → ∃ t, t + u < a.length ∧ nth b (t + u) < nth a t := by
  have hend : (fun w => !lateB a b w) a.length = true := by
    have : lateB a b a.length = false := lateB_false.2 fun t ht => by omega
    simp [this]
  rcases firstIdx_cases (fun w => !lateB a b w) (a.length + 1) with ⟨_, h⟩ | ⟨w, hw, e, hp, hb⟩
  · exact Bool.noConfusion (hend.symm.trans (h a.length (by omega)))
  · refine ⟨w, e, by omega, lateB_false.1 (by simpa using hp), fun u hu => ?_⟩
    have h1 : lateB a b u = true := by simpa using hb u hu
    unfold lateB lateTo at h1
    rw [List.any_eq_true] at h1
    obtain ⟨t, ht, hx⟩ := h1
    rw [List.mem_range] at ht
    exact ⟨t, by omega, by simpa using hx⟩
theorem waitI_mono {a b a' b' : List Int} (hl : a.length = a'.length) (ha : ∀ i, nth a i ≤ nth a' i) (hb : ∀ i, nth b' i ≤ nth b i) : waitI a b ≤ waitI a' b' := by
  obtain ⟨w, e, hw, h1, h2⟩ := waitI_spec a b
  obtain ⟨w', e', hw', h1', h2'⟩ := waitI_spec a' b'
  rw [e, e']
  rcases Nat.lt_or_ge w' w with h | h
  · obtain ⟨t, ht, hlt⟩ := h2 w' h
    have := h1' t (by omega)
    have := ha t
    have := hb (t + w')
    omega
  · omega

theorem nth_sumL {xs ys : List Int} {t : Nat} (h : t < xs.length) : nth (sumL xs ys) t = nth xs t + nth ys t := nth_tab h
theorem nth_lowerL {xs ys : List Int} {t : Nat} (h : t < xs.length) : nth (lowerL xs ys) t = min (nth xs t) (nth ys t) := nth_tab h
theorem sumL_valid {xs ys : List Int} (vx : Valid xs) (vy : Valid ys) (he : ys.length = xs.length) (hf : fitB (sumL xs ys) = true) : Valid (sumL xs ys) := by
  have hl := vx.1
  refine ⟨by rw [sumL_length]; exact vx.1, by rw [sumL_length]; exact vx.2.1, fun i hi => ?_, ?_, fitB_iff.1 hf⟩
  · rw [sumL_length] at hi
    rw [nth_sumL (by omega), nth_sumL hi]
    have := vx.2.2.1 i hi
    have := vy.2.2.1 i (by omega)
    omega
  · rw [nth_sumL (by omega)]
    have := (vx.bd 0).1
    have := (vy.bd 0).1
    omega
theorem lowerL_valid {xs ys : List Int} (vx : Valid xs) (vy : Valid ys) (he : ys.length = xs.length) : Valid (lowerL xs ys) := by
  have hl := vx.1
  refine ⟨by rw [lowerL_length]; exact vx.1, by rw [lowerL_length]; exact vx.2.1, fun i hi => ?_, ?_, ?_⟩
  · rw [lowerL_length] at hi
    rw [nth_lowerL (by omega), nth_lowerL hi]
    have := vx.2.2.1 i hi
    have := vy.2.2.1 i (by omega)
    omega
  · rw [nth_lowerL (by omega)]
    have := (vx.bd 0).1
    have := (vy.bd 0).1
    omega
  · rw [lowerL_length, nth_lowerL (by omega)]
    have := (vx.bd (xs.length - 1)).2
    omega

/-- The most that lies in a reach: what the limit, closed, is above the service. -/
theorem back_ge {L S : List Int} {t s : Nat} (ht : t < L.length) (hs : s ≤ t) : closAt L t - closAt L s - nth S (t - s) ≤ (backTop L S).2 := by
  have h1 := topI_ge (fun t => nth (closedL L) t - nth (leastL (closedL L) S) t) ht
  have h2 := joinAt_le (closedL L) S (s := s) (t := t) hs
  rw [nth_closedL (show s < L.length by omega)] at h2
  have h3 : nth (leastL (closedL L) S) t = min (nth (closedL L) t) (joinAt (closedL L) S t) := nth_leastL (by rw [closedL_length]; exact ht)
  simp only [h3, nth_closedL ht] at h1
  unfold backTop
  omega
theorem back_le {L S : List Int} {M : Int} (h0 : 0 ≤ M) (hh : ∀ t, t < L.length → closAt L t - nth S t ≤ M) : (backTop L S).2 ≤ M := by
  refine topI_le h0 fun t ht => ?_
  have h3 : nth (leastL (closedL L) S) t = min (nth (closedL L) t) (joinAt (closedL L) S t) := nth_leastL (by rw [closedL_length]; exact ht)
  have h4 := splitAt_le (closedL L) S t
  simp only [h3, joinAt_eq, nth_closedL ht]
  generalize splitAt (closedL L) S t = s at *
  rw [nth_closedL (show s < L.length by omega)]
  have h5 := closAt_add L s (t - s)
  rw [show s + (t - s) = t by omega] at h5
  have h6 := hh (t - s) (by omega)
  omega
theorem back_nonneg (L S : List Int) : 0 ≤ (backTop L S).2 := topI_nonneg _ _
theorem back_at {L S : List Int} {t : Nat} (ht : t < L.length) : closAt L t - nth S t ≤ (backTop L S).2 := by
  have := back_ge (S := S) ht (Nat.zero_le t)
  rw [closAt_zero, Nat.sub_zero] at this
  omega
theorem back_mono {L S L' S' : List Int} (hl : L.length = L'.length) (hL : ∀ i, nth L i ≤ nth L' i) (hS : ∀ i, nth S' i ≤ nth S i) : (backTop L S).2 ≤ (backTop L' S').2 :=
  back_le (back_nonneg _ _) fun t ht => by
    have := back_at (S := S') (show t < L'.length by omega)
    have := closAt_mono_limit hL t
    have := hS t
    omega
theorem delay_mono {L S L' S' : List Int} (hl : L.length = L'.length) (hL : ∀ i, nth L i ≤ nth L' i) (hS : ∀ i, nth S' i ≤ nth S i) : delayI L S ≤ delayI L' S' :=
  waitI_mono (by rw [closedL_length, closedL_length]; exact hl) (fun i => by
    rcases Nat.lt_or_ge i L.length with h | h
    · rw [nth_closedL h, nth_closedL (by omega)]; exact closAt_mono_limit hL i
    · rw [nth_out (by rw [closedL_length]; exact h), nth_out (by rw [closedL_length]; omega)]; exact Int.le_refl _) hS

theorem nth_leftL {S L : List Int} {t : Nat} (h : t < S.length) : nth (leftL S L) t = leftAt S L t := nth_tab h
theorem left_service {S L : List Int} (vs : Valid S) (hL : ∀ i, 0 ≤ nth L i) : AtMost (leftL S L) S := by
  refine ⟨(leftL_length S L).symm, fun t ht => ?_⟩
  rw [leftL_length] at ht
  rw [nth_leftL ht]
  refine maxTo_le (vs.bd t).1 fun i hi => ?_
  have := vs.2.2.1.le (show i ≤ t by omega) ht
  have := hL i
  omega
theorem left_mono {S L L' : List Int} (hL : ∀ i, nth L i ≤ nth L' i) : AtMost (leftL S L') (leftL S L) := by
  refine ⟨by rw [leftL_length, leftL_length], fun t ht => ?_⟩
  rw [leftL_length] at ht
  rw [nth_leftL ht, nth_leftL ht]
  refine maxTo_le (maxTo_nonneg _ _) fun i hi => ?_
  have h1 := maxTo_ge (fun s => nth S s - nth L s) (k := t + 1) hi
  have h2 := hL i
  have h3 : leftAt S L t = maxTo (fun s => nth S s - nth L s) (t + 1) := rfl
  omega
end Go.Proofs.Ytknkneccnhgjmaa
