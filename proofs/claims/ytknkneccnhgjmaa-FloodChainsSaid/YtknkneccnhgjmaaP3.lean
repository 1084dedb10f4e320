/- Plain: courses between readings. No program is walked here. -/
import Derived.Test.YtknkneccnhgjmaaP2
import Derived.Test.YtknkneccnhgjmaaF4
namespace Go.Proofs.Ytknkneccnhgjmaa

theorem loTo_ge {l : List Sv} {t : Int} {k i : Nat} (hi : i < k) (ht : (nthS l i).step ≤ t) : (nthS l i).lo ≤ loTo l t k := by
  induction k with
  | zero => omega
  | succ k ih =>
    unfold loTo
    rcases Nat.lt_or_ge i k with e | e
    · have := ih e
      split <;> omega
    · obtain rfl : i = k := by omega
      rw [if_pos ht]
      omega
theorem loTo_nonneg (l : List Sv) (t : Int) (k : Nat) : 0 ≤ loTo l t k := by
  induction k with
  | zero => exact Int.le_refl _
  | succ k ih =>
    unfold loTo
    split <;> omega
theorem loTo_le {l : List Sv} {t M : Int} (h0 : 0 ≤ M) {k : Nat} (h : ∀ i, i < k → (nthS l i).step ≤ t → (nthS l i).lo ≤ M) : loTo l t k ≤ M := by
  induction k with
  | zero => exact h0
  | succ k ih =>
    have := ih fun i hi => h i (by omega)
    unfold loTo
    split
    · rename_i c
      have := h k (by omega) c
      omega
    · exact this
theorem loTo_mono (l : List Sv) {t u : Int} (h : t ≤ u) (k : Nat) : loTo l t k ≤ loTo l u k :=
  loTo_le (loTo_nonneg _ _ _) fun _ hi hs => loTo_ge hi (by omega)
theorem hiTo_le {l : List Sv} {t : Int} {k i : Nat} (hi : i < k) (ht : t ≤ (nthS l i).step) : hiTo l t k ≤ (nthS l i).hi := by
  induction k with
  | zero => omega
  | succ k ih =>
    unfold hiTo
    rcases Nat.lt_or_ge i k with e | e
    · have := ih e
      split <;> omega
    · obtain rfl : i = k := by omega
      rw [if_pos ht]
      omega
theorem hiTo_top (l : List Sv) (t : Int) (k : Nat) : hiTo l t k ≤ 1073741824 := by
  induction k with
  | zero => exact Int.le_refl _
  | succ k ih =>
    unfold hiTo
    split <;> omega
theorem hiTo_ge {l : List Sv} {t M : Int} (h0 : M ≤ 1073741824) {k : Nat} (h : ∀ i, i < k → t ≤ (nthS l i).step → M ≤ (nthS l i).hi) : M ≤ hiTo l t k := by
  induction k with
  | zero => exact h0
  | succ k ih =>
    have := ih fun i hi => h i (by omega)
    unfold hiTo
    split
    · rename_i c
      have := h k (by omega) c
      omega
    · exact this
theorem hiTo_mono (l : List Sv) {t u : Int} (h : t ≤ u) (k : Nat) : hiTo l t k ≤ hiTo l u k :=
  hiTo_ge (hiTo_top _ _ _) fun _ hi hs => hiTo_le hi (by omega)

/-- A course lies in the spans of readings. -/
def Fits (l : List Sv) (xs : List Int) : Prop := ∀ i, i < l.length → 0 ≤ (nthS l i).step ∧ (nthS l i).step < xs.length ∧ (nthS l i).lo ≤ nth xs (nthS l i).step.toNat ∧ nth xs (nthS l i).step.toNat ≤ (nthS l i).hi
def fitAt (l : List Sv) (xs : List Int) (i : Nat) : Bool := decide (0 ≤ (nthS l i).step) && decide ((nthS l i).step < xs.length) && decide ((nthS l i).lo ≤ nth xs (nthS l i).step.toNat) && decide (nth xs (nthS l i).step.toNat ≤ (nthS l i).hi)
def fitsB (l : List Sv) (xs : List Int) : Bool := (List.range l.length).all (fitAt l xs)
theorem fitAt_iff {l : List Sv} {xs : List Int} {i : Nat} : fitAt l xs i = true ↔ 0 ≤ (nthS l i).step ∧ (nthS l i).step < xs.length ∧ (nthS l i).lo ≤ nth xs (nthS l i).step.toNat ∧ nth xs (nthS l i).step.toNat ≤ (nthS l i).hi := by
  unfold fitAt
  simp only [Bool.and_eq_true, decide_eq_true_eq]
  constructor
  · rintro ⟨⟨⟨a, b⟩, c⟩, d⟩; exact ⟨a, b, c, d⟩
  · rintro ⟨a, b, c, d⟩; exact ⟨⟨⟨a, b⟩, c⟩, d⟩
theorem fitsB_iff {l : List Sv} {xs : List Int} : fitsB l xs = true ↔ Fits l xs := by
  unfold fitsB Fits
  rw [List.all_eq_true]
  constructor
  · intro h i hi; exact fitAt_iff.1 (h i (List.mem_range.2 hi))
  · intro h i hi; exact fitAt_iff.2 (h i (List.mem_range.1 hi))
theorem fitsB_miss {l : List Sv} {xs : List Int} {i : Nat} (hi : i < l.length) (h : fitAt l xs i = false) : fitsB l xs = false := by
  cases hq : fitsB l xs
  · rfl
  · have := fitAt_iff.2 (fitsB_iff.1 hq i hi)
    rw [h] at this
    cases this
theorem fitsB_hit {l : List Sv} {xs : List Int} (h : ∀ i, i < l.length → fitAt l xs i = true) : fitsB l xs = true := by
  unfold fitsB
  rw [List.all_eq_true]
  exact fun i hi => h i (List.mem_range.1 hi)

/-- What is known of readings that are right. -/
theorem betE_right {l : List Sv} {last : Int} (h : betE l last = 0 ∨ betE l last = 9) : l.length ≤ 60 ∧ 0 ≤ last ∧ last ≤ 120 ∧ ∀ i, i < l.length → 0 ≤ (nthS l i).step ∧ (nthS l i).step ≤ last ∧ 0 ≤ (nthS l i).lo ∧ (nthS l i).lo ≤ (nthS l i).hi ∧ (nthS l i).hi ≤ 1073741824 := by
  unfold betE at h
  split at h
  · omega
  · rename_i h60
    split at h
    · omega
    · rename_i hw
      split at h
      · omega
      · rename_i ha
        have hw' : withinB last 0 120 = true := by simpa using hw
        unfold withinB at hw'
        rw [decide_eq_true_eq] at hw'
        refine ⟨by omega, hw'.1, hw'.2, fun i hi => ?_⟩
        have h1 : wrongB last (nthS l i) = false := by
          cases hq : wrongB last (nthS l i)
          · rfl
          · exfalso
            apply ha
            unfold anyWrong
            rw [decide_eq_true_eq]
            rcases firstIdx_cases (fun i => wrongB last (nthS l i)) l.length with ⟨_, hb⟩ | ⟨t, _, e, _⟩
            · have := hb i hi
              rw [hq] at this
              cases this
            · omega
        unfold wrongB withinB at h1
        simp only [Bool.or_eq_false_iff, Bool.not_eq_false', decide_eq_true_eq, decide_eq_false_iff_not] at h1
        omega
theorem clashB_iff {xs ys : List Int} : clashB xs ys = true ↔ ∃ t, t < xs.length ∧ nth xs t < nth ys t := by
  unfold clashB
  rw [decide_eq_true_eq]
  rcases firstIdx_cases (earlyAt xs ys) xs.length with ⟨e, h⟩ | ⟨t, ht, e, hp, _⟩
  · constructor
    · intro h'; omega
    · rintro ⟨t, ht, hlt⟩
      have h1 := h t ht
      unfold earlyAt at h1
      rw [decide_eq_false_iff_not] at h1
      exact absurd hlt h1
  · constructor
    · intro _
      exact ⟨t, ht, by unfold earlyAt at hp; simpa using hp⟩
    · intro _; omega
theorem betE_clash {l : List Sv} {last : Int} : (betE l last = 0 → clashB (hiL l (last.toNat + 1)) (loL l (last.toNat + 1)) = false) ∧ (betE l last = 9 → clashB (hiL l (last.toNat + 1)) (loL l (last.toNat + 1)) = true) := by
  constructor
  · intro h
    unfold betE at h
    split at h
    · omega
    · split at h
      · omega
      · split at h
        · omega
        · split at h
          · omega
          · rename_i hc; simpa using hc
  · intro h
    unfold betE at h
    split at h
    · omega
    · split at h
      · omega
      · split at h
        · omega
        · split at h
          · rename_i hc; exact hc
          · omega

theorem loL_valid {l : List Sv} {n : Nat} (h1 : 1 ≤ n) (hn : n ≤ 121) (h : ∀ i, i < l.length → (nthS l i).lo ≤ 1073741824) : Valid (loL l n) := by
  refine ⟨by rw [loL_length]; exact h1, by rw [loL_length]; exact hn, fun i hi => ?_, ?_, ?_⟩
  · rw [loL_length] at hi
    rw [nth_loL (by omega), nth_loL hi]
    exact loTo_mono l (by omega) _
  · rw [nth_loL (by omega)]; exact loTo_nonneg _ _ _
  · rw [loL_length, nth_loL (by omega)]
    exact loTo_le (by omega) fun i hi _ => h i hi
theorem hiL_valid {l : List Sv} {n : Nat} (h1 : 1 ≤ n) (hn : n ≤ 121) (h : ∀ i, i < l.length → 0 ≤ (nthS l i).hi) : Valid (hiL l n) := by
  refine ⟨by rw [hiL_length]; exact h1, by rw [hiL_length]; exact hn, fun i hi => ?_, ?_, ?_⟩
  · rw [hiL_length] at hi
    rw [nth_hiL (by omega), nth_hiL hi]
    exact hiTo_mono l (by omega) _
  · rw [nth_hiL (by omega)]; exact hiTo_ge (by omega) fun i hi _ => h i hi
  · rw [hiL_length, nth_hiL (by omega)]
    exact hiTo_top _ _ _

/-- What Between gives, where it gives no error. -/
theorem among_ok {l : List Sv} {last : Int} (h : betE l last = 0) : Valid (loL l (last.toNat + 1)) ∧ Valid (hiL l (last.toNat + 1)) ∧ Fits l (loL l (last.toNat + 1)) ∧ Fits l (hiL l (last.toNat + 1)) := by
  obtain ⟨_, h0, h120, hr⟩ := betE_right (.inl h)
  have hc := betE_clash.1 h
  have hle : ∀ t, t < last.toNat + 1 → loTo l t l.length ≤ hiTo l t l.length := fun t ht => by
    rcases Int.lt_or_le (hiTo l t l.length) (loTo l t l.length) with e | e
    · have := (clashB_iff (xs := hiL l (last.toNat + 1)) (ys := loL l (last.toNat + 1))).2 ⟨t, by rw [hiL_length]; exact ht, by rw [nth_hiL ht, nth_loL ht]; exact e⟩
      rw [hc] at this
      cases this
    · exact e
  refine ⟨loL_valid (by omega) (by omega) fun i hi => by have := hr i hi; omega, hiL_valid (by omega) (by omega) fun i hi => by have := hr i hi; omega, fun i hi => ?_, fun i hi => ?_⟩
  · obtain ⟨a, b, c, d, e⟩ := hr i hi
    have ht : (nthS l i).step.toNat < last.toNat + 1 := by omega
    rw [loL_length, nth_loL ht]
    have h1 := loTo_ge (l := l) (t := (nthS l i).step.toNat) hi (by omega)
    have h2 := hiTo_le (l := l) (t := (nthS l i).step.toNat) hi (by omega)
    have h3 := hle _ ht
    exact ⟨a, by omega, h1, by omega⟩
  · obtain ⟨a, b, c, d, e⟩ := hr i hi
    have ht : (nthS l i).step.toNat < last.toNat + 1 := by omega
    rw [hiL_length, nth_hiL ht]
    have h1 := loTo_ge (l := l) (t := (nthS l i).step.toNat) hi (by omega)
    have h2 := hiTo_le (l := l) (t := (nthS l i).step.toNat) hi (by omega)
    have h3 := hle _ ht
    exact ⟨a, by omega, by omega, h2⟩
/-- A course that lies in the spans of all readings lies between both. -/
theorem among_lies {l : List Sv} {xs : List Int} (v : Valid xs) (hf : Fits l xs) : AtMost (loL l xs.length) xs ∧ AtMost xs (hiL l xs.length) := by
  refine ⟨⟨(loL_length l xs.length).symm, fun t ht => ?_⟩, ⟨hiL_length l xs.length, fun t ht => ?_⟩⟩
  · rw [loL_length] at ht
    rw [nth_loL ht]
    refine loTo_le (v.bd t).1 fun i hi hs => ?_
    obtain ⟨a, b, c, d⟩ := hf i hi
    have := v.2.2.1.le (show (nthS l i).step.toNat ≤ t by omega) ht
    omega
  · rw [nth_hiL ht]
    refine hiTo_ge (v.bd t).2 fun i hi hs => ?_
    obtain ⟨a, b, c, d⟩ := hf i hi
    have := v.2.2.1.le (show t ≤ (nthS l i).step.toNat by omega) (by omega)
    omega
/-- Where the readings clash no course lies in them. -/
theorem among_clash {l : List Sv} {last : Int} {xs : List Int} (h : betE l last = 9) (v : Valid xs) (hl : (xs.length : Int) = last + 1) (hf : Fits l xs) : False := by
  obtain ⟨t, ht, hlt⟩ := clashB_iff.1 (betE_clash.2 h)
  have he : last.toNat + 1 = xs.length := by have := v.1; omega
  rw [he] at ht hlt
  obtain ⟨⟨_, h1⟩, ⟨_, h2⟩⟩ := among_lies v hf
  rw [hiL_length] at ht
  have := h1 t (by rw [loL_length]; exact ht)
  have := h2 t ht
  omega
end Go.Proofs.Ytknkneccnhgjmaa
