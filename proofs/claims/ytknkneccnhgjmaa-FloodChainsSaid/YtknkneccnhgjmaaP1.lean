/- Plain: curves joined, the curve by which one leads another, closed limits. No program is walked here. -/
import Derived.Test.YtknkneccnhgjmaaF3
namespace Go.Proofs.Ytknkneccnhgjmaa

theorem argb_min (h : Nat → Int) (k : Nat) : ∀ s, s ≤ k → h (argb ltB h k) ≤ h s := by
  induction k with
  | zero =>
    intro s hs
    obtain rfl : s = 0 := by omega
    exact Int.le_refl _
  | succ k ih =>
    intro s hs
    unfold argb
    split
    · rename_i c
      have c' : h (k + 1) < h (argb ltB h k) := by simpa [ltB] using c
      rcases Nat.lt_or_ge k s with e | e
      · obtain rfl : s = k + 1 := by omega
        exact Int.le_refl _
      · have := ih s e; omega
    · rename_i c
      have c' : ¬ h (k + 1) < h (argb ltB h k) := by simpa [ltB] using c
      rcases Nat.lt_or_ge k s with e | e
      · obtain rfl : s = k + 1 := by omega
        omega
      · exact ih s e

theorem splitAt_le (xs ys : List Int) (t : Nat) : splitAt xs ys t ≤ t := argb_le _ _ _
theorem joinAt_eq (xs ys : List Int) (t : Nat) : joinAt xs ys t = nth xs (splitAt xs ys t) + nth ys (t - splitAt xs ys t) := rfl
theorem joinAt_le (xs ys : List Int) {t s : Nat} (h : s ≤ t) : joinAt xs ys t ≤ nth xs s + nth ys (t - s) := argb_min (divAt xs ys t) t s h
theorem nth_joinL {xs ys : List Int} {t : Nat} (h : t < xs.length) : nth (joinL xs ys) t = joinAt xs ys t := nth_tab h

theorem joinAt_comm (xs ys : List Int) (t : Nat) : joinAt xs ys t = joinAt ys xs t := by
  have key : ∀ (xs ys : List Int), joinAt xs ys t ≤ joinAt ys xs t := fun xs ys => by
    have h := splitAt_le ys xs t
    have h1 := joinAt_le xs ys (s := t - splitAt ys xs t) (t := t) (by omega)
    rw [show t - (t - splitAt ys xs t) = splitAt ys xs t by omega] at h1
    rw [joinAt_eq ys xs]
    omega
  exact Int.le_antisymm (key _ _) (key _ _)
theorem joinL_comm {xs ys : List Int} (h : ys.length = xs.length) : joinL xs ys = joinL ys xs := by
  unfold joinL
  rw [h]
  congr 1
  funext t
  exact joinAt_comm xs ys t

theorem joinAt_assoc (xs ys zs : List Int) (hy : ys.length = xs.length) {t : Nat} (ht : t < xs.length) : joinAt (joinL xs ys) zs t = joinAt xs (joinL ys zs) t := by
  refine Int.le_antisymm ?_ ?_
  · have h1 := splitAt_le xs (joinL ys zs) t
    rw [joinAt_eq xs (joinL ys zs)]
    generalize splitAt xs (joinL ys zs) t = s at *
    rw [nth_joinL (show t - s < ys.length by omega)]
    have h2 := splitAt_le ys zs (t - s)
    rw [joinAt_eq ys zs]
    generalize splitAt ys zs (t - s) = r at *
    have h3 := joinAt_le (joinL xs ys) zs (s := s + r) (t := t) (by omega)
    rw [nth_joinL (show s + r < xs.length by omega)] at h3
    have h4 := joinAt_le xs ys (s := s) (t := s + r) (by omega)
    rw [show s + r - s = r by omega] at h4
    rw [show t - s - r = t - (s + r) by omega]
    omega
  · have h1 := splitAt_le (joinL xs ys) zs t
    rw [joinAt_eq (joinL xs ys) zs]
    generalize splitAt (joinL xs ys) zs t = s at *
    rw [nth_joinL (show s < xs.length by omega)]
    have h2 := splitAt_le xs ys s
    rw [joinAt_eq xs ys]
    generalize splitAt xs ys s = r at *
    have h3 := joinAt_le xs (joinL ys zs) (s := r) (t := t) (by omega)
    rw [nth_joinL (show t - r < ys.length by omega)] at h3
    have h4 := joinAt_le ys zs (s := s - r) (t := t - r) (by omega)
    rw [show t - r - (s - r) = t - s by omega] at h4
    omega
theorem tab_congr {n : Nat} {F G : Nat → Int} (h : ∀ t, t < n → F t = G t) : tab n F = tab n G := by
  unfold tab
  exact List.map_congr_left fun t ht => h t (List.mem_range.1 ht)
theorem joinL_assoc (xs ys zs : List Int) (hy : ys.length = xs.length) : joinL (joinL xs ys) zs = joinL xs (joinL ys zs) := by
  show tab (joinL xs ys).length _ = tab xs.length _
  rw [joinL_length]
  exact tab_congr fun t ht => joinAt_assoc xs ys zs hy ht

theorem joinAt_bd {xs ys : List Int} (hx : ∀ i, 0 ≤ nth xs i) (hy : ∀ i, 0 ≤ nth ys i) (t : Nat) : 0 ≤ joinAt xs ys t := by
  have := hx (splitAt xs ys t)
  have := hy (t - splitAt xs ys t)
  rw [joinAt_eq]
  omega
theorem joinAt_step {xs ys : List Int} (hx : Mono xs) (hy : Mono ys) (he : ys.length = xs.length) {t : Nat} (ht : t + 1 < xs.length) : joinAt xs ys t ≤ joinAt xs ys (t + 1) := by
  have h1 := splitAt_le xs ys (t + 1)
  rw [joinAt_eq xs ys (t + 1)]
  generalize splitAt xs ys (t + 1) = s at *
  rcases Nat.lt_or_ge t s with e | e
  · obtain rfl : s = t + 1 := by omega
    have h2 := joinAt_le xs ys (s := t) (t := t) (Nat.le_refl _)
    have h3 := hx t ht
    rw [Nat.sub_self] at h2 ⊢
    omega
  · have h2 := joinAt_le xs ys (s := s) (t := t) e
    have h3 := hy (t - s) (by omega)
    rw [show t + 1 - s = t - s + 1 by omega]
    omega
theorem joinL_mono {xs ys : List Int} (hx : Mono xs) (hy : Mono ys) (he : ys.length = xs.length) : Mono (joinL xs ys) := fun i hi => by
  rw [joinL_length] at hi
  rw [nth_joinL (by omega), nth_joinL hi]
  exact joinAt_step hx hy he hi
theorem fitB_iff {xs : List Int} : fitB xs = true ↔ nth xs (xs.length - 1) ≤ 1073741824 := by unfold fitB; rw [decide_eq_true_eq]
theorem joinL_valid {xs ys : List Int} (vx : Valid xs) (vy : Valid ys) (he : ys.length = xs.length) (hf : fitB (joinL xs ys) = true) : Valid (joinL xs ys) := by
  refine ⟨by rw [joinL_length]; exact vx.1, by rw [joinL_length]; exact vx.2.1, joinL_mono vx.2.2.1 vy.2.2.1 he, ?_, fitB_iff.1 hf⟩
  rw [nth_joinL (by have := vx.1; omega)]
  exact joinAt_bd (fun i => (vx.bd i).1) (fun i => (vy.bd i).1) 0

theorem maxTo_nonneg (h : Nat → Int) (k : Nat) : 0 ≤ maxTo h k := by
  induction k with
  | zero => exact Int.le_refl _
  | succ k ih => unfold maxTo; omega
theorem maxTo_ge (h : Nat → Int) {k i : Nat} (hi : i < k) : h i ≤ maxTo h k := by
  induction k with
  | zero => omega
  | succ k ih =>
    unfold maxTo
    rcases Nat.lt_or_ge i k with e | e
    · have := ih e; omega
    · obtain rfl : i = k := by omega
      omega
theorem maxTo_le {h : Nat → Int} {M : Int} (h0 : 0 ≤ M) {k : Nat} (hh : ∀ i, i < k → h i ≤ M) : maxTo h k ≤ M := (maxTo_bd h M h0 k hh).2

theorem leadAt_ge (xs ys : List Int) {t u : Nat} (h : t + u < xs.length) : nth xs (t + u) - nth ys u ≤ leadAt xs ys t :=
  maxTo_ge (fun u => nth xs (t + u) - nth ys u) (k := xs.length - t) (i := u) (by omega)
theorem leadAt_le {xs ys : List Int} {t : Nat} {M : Int} (h0 : 0 ≤ M) (hh : ∀ u, t + u < xs.length → nth xs (t + u) - nth ys u ≤ M) : leadAt xs ys t ≤ M :=
  maxTo_le h0 fun i hi => hh i (by omega)
theorem leadAt_nonneg (xs ys : List Int) (t : Nat) : 0 ≤ leadAt xs ys t := maxTo_nonneg _ _

theorem leadL_mono {xs ys : List Int} (hx : Mono xs) (hy : Mono ys) (he : ys.length = xs.length) : Mono (leadL xs ys) := fun t ht => by
  rw [leadL_length] at ht
  rw [nth_leadL (by omega), nth_leadL ht]
  refine leadAt_le (leadAt_nonneg _ _ _) fun u hu => ?_
  rcases Nat.lt_or_ge (t + u + 1) xs.length with e | e
  · have h1 := leadAt_ge xs ys (t := t + 1) (u := u) (by omega)
    have h2 := hx (t + u) e
    rw [show t + 1 + u = t + u + 1 by omega] at h1
    omega
  · have h1 := leadAt_ge xs ys (t := t + 1) (u := u - 1) (by omega)
    have h2 := hy (u - 1) (by omega)
    rw [show t + 1 + (u - 1) = t + u by omega] at h1
    rw [show u - 1 + 1 = u by omega] at h2
    omega
theorem leadL_valid {xs ys : List Int} (vx : Valid xs) (vy : Valid ys) (he : ys.length = xs.length) : Valid (leadL xs ys) := by
  have hl := vx.1
  refine ⟨by rw [leadL_length]; exact vx.1, by rw [leadL_length]; exact vx.2.1, leadL_mono vx.2.2.1 vy.2.2.1 he, ?_, ?_⟩
  · rw [nth_leadL (by omega)]; exact leadAt_nonneg _ _ _
  · rw [leadL_length, nth_leadL (by omega)]; exact (leadAt_bd vx.bd vy.bd _).2

/-- A curve is at most another one of the same length. -/
def AtMost (xs ys : List Int) : Prop := ys.length = xs.length ∧ ∀ i, i < xs.length → nth xs i ≤ nth ys i
def atMostB (xs ys : List Int) : Bool := decide (ys.length = xs.length) && (List.range xs.length).all fun i => decide (nth xs i ≤ nth ys i)
theorem atMostB_iff {xs ys : List Int} : atMostB xs ys = true ↔ AtMost xs ys := by
  unfold atMostB AtMost
  rw [Bool.and_eq_true, decide_eq_true_eq, List.all_eq_true]
  constructor
  · rintro ⟨h1, h2⟩
    exact ⟨h1, fun i hi => by simpa using h2 i (List.mem_range.2 hi)⟩
  · rintro ⟨h1, h2⟩
    exact ⟨h1, fun i hi => by simpa using h2 i (List.mem_range.1 hi)⟩

/-- f is at most h and g joined exactly if the curve by which f leads g is at most h. -/
theorem leads_law {xs ys zs : List Int} (vz : Valid zs) (_hy : ys.length = xs.length) (hz : zs.length = xs.length) : atMostB xs (joinL zs ys) = atMostB (leadL xs ys) zs := by
  rw [Bool.eq_iff_iff, atMostB_iff, atMostB_iff]
  constructor
  · rintro ⟨_, h⟩
    refine ⟨by rw [leadL_length]; exact hz, fun t ht => ?_⟩
    rw [leadL_length] at ht
    rw [nth_leadL ht]
    refine leadAt_le (vz.bd t).1 fun u hu => ?_
    have h1 := h (t + u) hu
    rw [nth_joinL (by omega)] at h1
    have h2 := joinAt_le zs ys (s := t) (t := t + u) (by omega)
    rw [show t + u - t = u by omega] at h2
    omega
  · rintro ⟨_, h⟩
    refine ⟨by rw [joinL_length]; exact hz, fun t ht => ?_⟩
    rw [nth_joinL (by omega), joinAt_eq]
    have h1 := splitAt_le zs ys t
    generalize splitAt zs ys t = s at *
    have h2 := h s (by rw [leadL_length]; omega)
    rw [nth_leadL (by omega)] at h2
    have h3 := leadAt_ge xs ys (t := s) (u := t - s) (by omega)
    rw [show s + (t - s) = t by omega] at h3
    omega

theorem ok2_comm (xs ys : List Int) : ok2 xs ys = ok2 ys xs := by
  rw [Bool.eq_iff_iff, ok2_iff, ok2_iff]
  constructor
  · rintro ⟨a, b, c⟩; exact ⟨b, a, c.symm⟩
  · rintro ⟨a, b, c⟩; exact ⟨b, a, c.symm⟩
end Go.Proofs.Ytknkneccnhgjmaa
