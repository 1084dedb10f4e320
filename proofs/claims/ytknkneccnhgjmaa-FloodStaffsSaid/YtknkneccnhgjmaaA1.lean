/- Walks: within, isNaN, Less, IsSorted, Check. -/
import Derived.Test.YtknkneccnhgjmaaBase
import Derived.Test.YtknkneccnhgjmaaProg
namespace Go.Proofs.Ytknkneccnhgjmaa
open Go.RowKit

def withinB (n lo hi : Int) : Bool := decide (lo ≤ n ∧ n ≤ hi)

theorem within_any (n lo hi : Int) (w : World) : Calls Try.prog 69 #[.int .i64 n, .int .i64 lo, .int .i64 hi] w fun e w' => e = .returned (.bool (withinB n lo hi)) ∧ w = w' := by
  by_cases h1 : lo ≤ n <;> by_cases h2 : n ≤ hi
  all_goals
    go_enter Try.func69, Try.ntmps69
    go_wp2
    go_ret
    exact ⟨by simp [withinB, h1, h2], rfl⟩

theorem less_any (x y : Int) (w : World) : Calls Try.prog 119 #[.int .i64 x, .int .i64 y] w fun e w' => e = .returned (.bool (decide (x < y))) ∧ w = w' := by
  go_enter Try.func119, Try.ntmps119
  go_wp2
  go_ret
  exact ⟨rfl, rfl⟩

/-- No number is less than the one before it. -/
def Mono (xs : List Int) : Prop := ∀ i, i + 1 < xs.length → nth xs i ≤ nth xs (i + 1)
def sortedB (xs : List Int) : Bool := (List.range (xs.length - 1)).all fun i => decide (nth xs i ≤ nth xs (i + 1))
theorem sortedB_iff (xs : List Int) : sortedB xs = true ↔ Mono xs := by
  unfold sortedB Mono
  rw [List.all_eq_true]
  constructor
  · intro h i hi
    simpa using h i (by rw [List.mem_range]; omega)
  · intro h i hi
    rw [List.mem_range] at hi
    simpa using h i (by omega)

set_option maxHeartbeats 400000 in
theorem sorted_any (A : Option Addr) (c : Nat) (xs : List Int) (w : World) (h : Rd w w.heap.size A xs) (hm : xs.length ≤ maxLen) :
    Calls Try.prog 82 #[.slice A xs.length c] w fun e w' => e = .returned (.bool (sortedB xs)) ∧ Below w.heap.size w w' := by
  unfold maxLen at hm
  go_enter Try.func82, Try.ntmps82
  go_wp2
  go_loopw [3] (fun i wr => ∃ k : Int, k < xs.length ∧ -1 ≤ k ∧ i = .int .i64 k ∧ Aside (∀ j : Nat, k ≤ j → j + 1 < xs.length → nth xs j ≤ nth xs (j + 1)) ∧ Below w.heap.size w wr) (fun i _ => (intOf i + 1).toNat)
  case atStart => exact ⟨_, by omega, by omega, rfl, fun j hj hj2 => by omega, Below.refl _ _⟩
  case round =>
    obtain ⟨k, hk, hk0, rfl, hA, hb⟩ := hrel
    by_cases hlt : 0 < k
    · obtain ⟨n, rfl⟩ : ∃ n : Nat, k = n + 1 := ⟨(k - 1).toNat, by omega⟩
      obtain ⟨b, off, rfl, hlb, hc⟩ := h (by omega)
      obtain ⟨rc, rf⟩ := bcell hb
      have c1 := hc (n + 1) (by omega)
      have c2 := hc n (by omega)
      clear hc h
      go_wp2
      refine wp_region_ext (by kernel_rfl) (by kernel_rfl) ?_
      intro ι _ X hX hC
      have e1 : ∀ k, (X k).cell? ⟨b, off + (n + 1), none⟩ = some (.int .i64 (nth xs (n + 1))) := fun k => ((hX k).cell (p := ⟨b, off + (n + 1), none⟩) (by have := hb.size; show b < _; omega)).trans (by rw [rc _ _ hlb]; exact c1)
      have e2 : ∀ k, (X k).cell? ⟨b, off + n, none⟩ = some (.int .i64 (nth xs n)) := fun k => ((hX k).cell (p := ⟨b, off + n, none⟩) (by have := hb.size; show b < _; omega)).trans (by rw [rc _ _ hlb]; exact c2)
      repeat (first | go_big_quiet_skip | (go_big_quiet_want; go_big_quiet_op; first | go_big_quiet_on | (apply Exists.intro; refine ⟨fun _ => ?_, ?_⟩; (focus (go_at_call 119; exact Calls.ext_same (less_any _ _ _))); go_big_quiet_on)))
      refine wpQuiet_nil ?_
      intro w1 hb1
      clear e1 e2 hX hC
      have hb2 := hb.trans (hb1.mono hb.size)
      go_wp2
      · go_ret
        refine ⟨ret_bool ?_, hb2⟩
        have hlt2 : nth xs (n + 1) < nth xs n := by assumption
        cases hs : sortedB xs
        · rfl
        · have := (sortedB_iff xs).1 hs n (by omega)
          omega
      · have hle2 : nth xs n ≤ nth xs (n + 1) := by assumption
        go_roundw
        case rel => exact ⟨n, by omega, by omega, rfl, fun j hj hj2 => by
          rcases Nat.eq_or_lt_of_le (show n ≤ j by omega) with e | e
          · subst e; exact hle2
          · exact hA.out j (by omega) hj2, hb2⟩
        case measure => simp [intOf]; omega
    · go_wp2
      go_ret
      refine ⟨ret_bool ?_, hb⟩
      exact ((sortedB_iff xs).2 fun i hi => hA.out i (by omega) hi).symm

/-- A valid curve. -/
def Valid (xs : List Int) : Prop := 1 ≤ xs.length ∧ xs.length ≤ 121 ∧ Mono xs ∧ 0 ≤ nth xs 0 ∧ nth xs (xs.length - 1) ≤ 1073741824
def validB (xs : List Int) : Bool := decide (1 ≤ xs.length ∧ xs.length ≤ 121) && sortedB xs && decide (0 ≤ nth xs 0) && decide (nth xs (xs.length - 1) ≤ 1073741824)
theorem validB_iff (xs : List Int) : validB xs = true ↔ Valid xs := by
  unfold validB Valid
  simp only [Bool.and_eq_true, decide_eq_true_eq, sortedB_iff]
  constructor
  · rintro ⟨⟨⟨⟨a, b⟩, c⟩, d⟩, e⟩; exact ⟨a, b, c, d, e⟩
  · rintro ⟨a, b, c, d, e⟩; exact ⟨⟨⟨⟨a, b⟩, c⟩, d⟩, e⟩

/-- The error of a curve: 0 or 1. -/
def errB (b : Bool) : Int := if b then 0 else 1

set_option maxHeartbeats 400000 in
theorem check_any (A : Option Addr) (c : Nat) (xs : List Int) (w : World) (h : Rd w w.heap.size A xs) (hm : xs.length ≤ maxLen) :
    Calls Try.prog 23 #[.agg #[.slice A xs.length c]] w fun e w' => e = .returned (.int .i64 (errB (validB xs))) ∧ Below w.heap.size w w' := by
  have hm' := hm
  unfold maxLen at hm
  by_cases h1 : 1 ≤ xs.length ∧ xs.length ≤ 121
  · obtain ⟨b, off, rfl, hlb, hc⟩ := h (by omega)
    have c1 := hc 0 (by omega)
    rw [Nat.add_zero] at c1
    have c2 := hc (xs.length - 1) (by omega)
    have hw1 : withinB xs.length 1 121 = true := by unfold withinB; rw [decide_eq_true_eq]; omega
    have hlb1 : b < w.heap.size + 1 := by omega
    have HH := Lib.hid h
    clear hc h
    cases hs : sortedB xs
    · have hfin : errB (validB xs) = 1 := by simp [errB, validB, hs]
      have Hfin := Lib.hid hfin
      clear hfin
      go_enter Try.func23, Try.ntmps23
      go_wp2_with (first | (go_at_call 69; refine (within_any _ _ _ _).mono ?_; rintro e w' ⟨rfl, rfl⟩) | (go_at_call 82; refine (sorted_any _ _ xs _ ((HH.out.below ((Below.refl _ _).alloc (Nat.le_refl _) _) (Nat.le_refl _)).mono (by simp)) hm').mono ?_; rintro e w1 ⟨rfl, hb⟩; obtain ⟨rc, rf⟩ := bcell hb))
      go_ret
      exact ⟨by rw [Hfin.out]; rfl, ((Below.refl _ w).alloc (Nat.le_refl _) _).trans (Below.mono (by assumption) (by simp))⟩
    · by_cases h0 : nth xs 0 < 0
      · have hfin : errB (validB xs) = 1 := by simp [errB, validB, hs]; omega
        have Hfin := Lib.hid hfin
        clear hfin
        go_enter Try.func23, Try.ntmps23
        go_wp2_with (first | (go_at_call 69; refine (within_any _ _ _ _).mono ?_; rintro e w' ⟨rfl, rfl⟩) | (go_at_call 82; refine (sorted_any _ _ xs _ ((HH.out.below ((Below.refl _ _).alloc (Nat.le_refl _) _) (Nat.le_refl _)).mono (by simp)) hm').mono ?_; rintro e w1 ⟨rfl, hb⟩; obtain ⟨rc, rf⟩ := bcell hb))
        go_ret
        exact ⟨by rw [Hfin.out]; rfl, ((Below.refl _ w).alloc (Nat.le_refl _) _).trans (Below.mono (by assumption) (by simp))⟩
      · by_cases h9 : 1073741824 < nth xs (xs.length - 1)
        · have hfin : errB (validB xs) = 1 := by simp [errB, validB, hs]; omega
          have Hfin := Lib.hid hfin
          clear hfin
          go_enter Try.func23, Try.ntmps23
          go_wp2_with (first | (go_at_call 69; refine (within_any _ _ _ _).mono ?_; rintro e w' ⟨rfl, rfl⟩) | (go_at_call 82; refine (sorted_any _ _ xs _ ((HH.out.below ((Below.refl _ _).alloc (Nat.le_refl _) _) (Nat.le_refl _)).mono (by simp)) hm').mono ?_; rintro e w1 ⟨rfl, hb⟩; obtain ⟨rc, rf⟩ := bcell hb))
          go_ret
          exact ⟨by rw [Hfin.out]; rfl, ((Below.refl _ w).alloc (Nat.le_refl _) _).trans (Below.mono (by assumption) (by simp))⟩
        · have hfin : errB (validB xs) = 0 := by simp [errB, validB, hs]; omega
          have Hfin := Lib.hid hfin
          clear hfin
          go_enter Try.func23, Try.ntmps23
          go_wp2_with (first | (go_at_call 69; refine (within_any _ _ _ _).mono ?_; rintro e w' ⟨rfl, rfl⟩) | (go_at_call 82; refine (sorted_any _ _ xs _ ((HH.out.below ((Below.refl _ _).alloc (Nat.le_refl _) _) (Nat.le_refl _)).mono (by simp)) hm').mono ?_; rintro e w1 ⟨rfl, hb⟩; obtain ⟨rc, rf⟩ := bcell hb))
          go_ret
          exact ⟨by rw [Hfin.out]; rfl, ((Below.refl _ w).alloc (Nat.le_refl _) _).trans (Below.mono (by assumption) (by simp))⟩
  · have hfin : errB (validB xs) = 1 := by simp [errB, validB, h1]
    have Hfin := Lib.hid hfin
    clear hfin
    have hw1 : withinB xs.length 1 121 = false := by unfold withinB; rw [decide_eq_false_iff_not]; omega
    go_enter Try.func23, Try.ntmps23
    go_wp2_with (first | (go_at_call 69; refine (within_any _ _ _ _).mono ?_; rintro e w' ⟨rfl, rfl⟩))
    go_ret
    exact ⟨by rw [Hfin.out]; rfl, ((Below.refl _ w).alloc (Nat.le_refl _) _)⟩
#print axioms check_any
end Go.Proofs.Ytknkneccnhgjmaa
