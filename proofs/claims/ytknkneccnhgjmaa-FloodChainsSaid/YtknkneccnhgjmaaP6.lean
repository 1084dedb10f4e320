/- Plain: the two ways to find the most that lies in a reach; lengths. No program is walked here. -/
import Derived.Test.YtknkneccnhgjmaaP5
import Derived.Test.YtknkneccnhgjmaaG10
namespace Go.Proofs.Ytknkneccnhgjmaa

theorem topI_argb {h : Nat → Int} (k : Nat) (h0 : ∀ i, i ≤ k → 0 ≤ h i) : topI h (k + 1) = (argb gtB h k, h (argb gtB h k)) := by
  induction k with
  | zero =>
    have := h0 0 (Nat.le_refl _)
    show (if (0 : Int) < h 0 then (0, h 0) else (0, 0)) = (0, h 0)
    split
    · rfl
    · rw [show h 0 = 0 by omega]
  | succ k ih =>
    have ih := ih fun i hi => h0 i (by omega)
    show (if (topI h (k + 1)).2 < h (k + 1) then (k + 1, h (k + 1)) else topI h (k + 1)) = _
    rw [ih]
    show (if h (argb gtB h k) < h (k + 1) then (k + 1, h (k + 1)) else (argb gtB h k, h (argb gtB h k))) = (argb gtB h (k + 1), h (argb gtB h (k + 1)))
    have ha : argb gtB h (k + 1) = if gtB (h (k + 1)) (h (argb gtB h k)) then k + 1 else argb gtB h k := rfl
    rw [ha]
    by_cases hq : h (argb gtB h k) < h (k + 1)
    · have hd : gtB (h (k + 1)) (h (argb gtB h k)) = true := decide_eq_true hq
      rw [if_pos hq, if_pos hd]
    · have hd : ¬ gtB (h (k + 1)) (h (argb gtB h k)) = true := fun e => hq (of_decide_eq_true e)
      rw [if_neg hq, if_neg hd]
theorem flowE_zero {xs ys : List Int} (h : flowE xs ys = 0) : Valid xs ∧ Valid ys ∧ ys.length = xs.length ∧ ∀ t, t < xs.length → nth ys t ≤ nth xs t := by
  rcases flowE_cases xs ys with ⟨_, e⟩ | ⟨_, _, e⟩ | ⟨ho, hc, _⟩
  · omega
  · omega
  · obtain ⟨a, b, c⟩ := ok2_iff.1 ho
    refine ⟨a, b, c, fun t ht => ?_⟩
    rcases Int.lt_or_le (nth xs t) (nth ys t) with e | e
    · rw [clashB_iff.2 ⟨t, ht, e⟩] at hc
      cases hc
    · exact e
theorem stored_same {xs ys : List Int} (h : flowE xs ys = 0) : apartT xs ys = (mostAt xs ys, liesAt xs ys (mostAt xs ys)) := by
  obtain ⟨v, _, _, hle⟩ := flowE_zero h
  have hl := v.1
  have := topI_argb (h := fun t => nth xs t - nth ys t) (xs.length - 1) fun i hi => by have := hle i (by omega); show 0 ≤ nth xs i - nth ys i; omega
  unfold apartT mostAt liesAt
  rw [show xs.length - 1 + 1 = xs.length by omega] at this
  exact this
theorem pick_valid {b : Bool} {xs : List Int} (h : b = true → xs.length ≤ 121) : (pick b xs).length ≤ 1000 := by
  cases b
  · exact Nat.zero_le _
  · have := h rfl
    show xs.length ≤ 1000
    omega
end Go.Proofs.Ytknkneccnhgjmaa
