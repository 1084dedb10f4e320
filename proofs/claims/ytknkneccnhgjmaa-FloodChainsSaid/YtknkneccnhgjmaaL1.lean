/- Walks: the laws' own helpers: few, atMost. -/
import Derived.Test.YtknkneccnhgjmaaP1
import Derived.Test.YtknkneccnhgjmaaF4
namespace Go.Proofs.Ytknkneccnhgjmaa
open Go.RowKit Go.Shelf

def fewB (xs : List Int) : Bool := decide (xs.length ≤ 40) || (decide (121 < xs.length) && decide (xs.length ≤ 130))

theorem few_any (A : Option Addr) (c : Nat) (xs : List Int) (w : World) (hm : xs.length ≤ maxLen) :
    Calls Try.prog 20 #[.agg #[.slice A xs.length c]] w fun e w' => e = .returned (.bool (fewB xs)) ∧ Below w.heap.size w w' := by
  have hb : Below w.heap.size w (w.alloc (.cells #[.slice A xs.length c] 26)) := (Below.refl _ w).alloc (Nat.le_refl _) _
  have hd : fewB xs = (decide (xs.length ≤ 40) || (decide (121 < xs.length) && decide (xs.length ≤ 130))) := rfl
  unfold maxLen at hm
  by_cases h1 : xs.length ≤ 40
  · have h1z : (xs.length : Int) ≤ 40 := by omega
    have HD := Lib.hid (show fewB xs = true by simp [hd, h1])
    clear hd h1
    go_enter Try.func20, Try.ntmps20
    go_wp2
    go_ret
    exact ⟨ret_bool HD.out.symm, hb⟩
  · have h1z : ¬ (xs.length : Int) ≤ 40 := by omega
    by_cases h2 : 121 < xs.length
    · have h2z : (121 : Int) < (xs.length : Int) := by omega
      by_cases h3 : xs.length ≤ 130
      · have h3z : (xs.length : Int) ≤ 130 := by omega
        have HD := Lib.hid (show fewB xs = true by simp [hd, h2, h3])
        clear hd h1 h2 h3
        go_enter Try.func20, Try.ntmps20
        go_wp2
        go_ret
        exact ⟨ret_bool HD.out.symm, hb⟩
      · have h3z : ¬ (xs.length : Int) ≤ 130 := by omega
        have HD := Lib.hid (show fewB xs = false by simp [hd, h1, h3])
        clear hd h1 h2 h3
        go_enter Try.func20, Try.ntmps20
        go_wp2
        go_ret
        exact ⟨ret_bool HD.out.symm, hb⟩
    · have h2z : ¬ (121 : Int) < (xs.length : Int) := by omega
      have HD := Lib.hid (show fewB xs = false by simp [hd, h1, h2])
      clear hd h1 h2
      go_enter Try.func20, Try.ntmps20
      go_wp2
      go_ret
      exact ⟨ret_bool HD.out.symm, hb⟩

theorem atMost_hit {xs ys : List Int} {t : Nat} (ht : t < xs.length) (h : ys.length ≤ t ∨ nth ys t < nth xs t) : atMostB xs ys = false := by
  cases hq : atMostB xs ys
  · rfl
  · have ⟨h1, h2⟩ := atMostB_iff.1 hq
    have := h2 t ht
    omega
theorem atMost_miss {xs ys : List Int} (h : ∀ j, j < xs.length → nth xs j ≤ nth ys j) : atMostB xs ys = decide (xs.length = ys.length) := by
  rw [Bool.eq_iff_iff, atMostB_iff, decide_eq_true_eq]
  exact ⟨fun h' => h'.1.symm, fun h' => ⟨h'.symm, h⟩⟩

set_option maxRecDepth 100000 in
set_option maxHeartbeats 1600000 in
theorem atMost_any (A1 A2 : Option Addr) (c1 c2 : Nat) (xs ys : List Int) (w : World) (r1 : Rd w w.heap.size A1 xs) (r2 : Rd w w.heap.size A2 ys) (m1 : xs.length ≤ 1000) (m2 : ys.length ≤ 1000) :
    Calls Try.prog 24 #[.agg #[.slice A1 xs.length c1], .agg #[.slice A2 ys.length c2]] w fun e w' => e = .returned (.bool (atMostB xs ys)) ∧ Below w.heap.size w w' := by
  obtain ⟨p1, p2, HI⟩ := w2b_at (c1 := c1) (c2 := c2) r1 r2
  have l1 : w.heap.size < _ := Nat.lt_of_succ_lt HI.size
  have l2 := HI.size
  have hr1 := HI.r1
  have hr2 := HI.r2
  have hb0 := HI.below
  clear r1 r2 HI
  go_enter Try.func24, Try.ntmps24
  go_upto_region 1 with fail
  generalize (w.alloc (.cells #[.slice A1 xs.length c1] 26)).alloc (.cells #[.slice A2 ys.length c2] 26) = w1 at *
  go_wp2
  go_loopg [9] xs.length (fun gg s wr => ∃ t : Nat, t ≤ xs.length ∧ xs.length - t ≤ gg ∧ s = .int .i64 t ∧ Aside (Below w1.heap.size w1 wr) ∧ Aside (∀ j, j < t → nth xs j ≤ nth ys j))
  case atStart => exact ⟨0, Nat.zero_le _, by omega, rfl, Below.refl _ _, fun j hj => absurd hj (Nat.not_lt_zero _)⟩
  case round =>
    obtain ⟨t, ht, hg, rfl, hb, hA⟩ := hrel
    obtain ⟨rc, rf⟩ := bcell hb.out
    have hsz := hb.out.size
    have l1' : w.heap.size < wr.heap.size := by omega
    have l2' : w.heap.size + 1 < wr.heap.size := by omega
    by_cases hlt : t < xs.length
    · have hltz : (t : Int) < (xs.length : Int) := by omega
      by_cases hlt2 : t < ys.length
      · have hltz2 : (t : Int) < (ys.length : Int) := by omega
        obtain ⟨b1, o1, rfl, lb1, hc1⟩ := hr1 (by omega)
        obtain ⟨b2, o2, rfl, lb2, hc2⟩ := hr2 (by omega)
        have k1 := hc1 t hlt
        have k2 := hc2 t hlt2
        have lb1' : b1 < wr.heap.size := by omega
        have lb2' : b2 < wr.heap.size := by omega
        have hd : decide (ys.length ≤ t) = false := decide_eq_false (by omega)
        clear hc1 hc2 hr1 hr2
        by_cases hq : nth ys t < nth xs t
        · have HF := Lib.hid (atMost_hit hlt (.inr hq))
          go_wp2
          refine wp_region_ext (by kernel_rfl) (by kernel_rfl) ?_
          intro ι _ X hX hC
          have rX := fun k => (bcell (hX k)).1
          repeat (first | go_big_quiet_skip | (go_big_quiet_want; go_big_quiet_op; first | go_big_quiet_on | (apply Exists.intro; refine ⟨fun _ => ?_, ?_⟩; (focus (fail)); go_big_quiet_on)))
          refine wpQuiet_nil ?_
          intro w1 hb1
          clear rX hX hC
          have HB := Lib.hid (hb.out.trans (hb1.mono hsz))
          go_wp2
          go_ret
          exact ⟨ret_bool HF.out.symm, hb0.trans (HB.out.mono (by omega))⟩
        · have HQ := Lib.hid (Int.not_lt.1 hq)
          go_wp2
          refine wp_region_ext (by kernel_rfl) (by kernel_rfl) ?_
          intro ι _ X hX hC
          have rX := fun k => (bcell (hX k)).1
          repeat (first | go_big_quiet_skip | (go_big_quiet_want; go_big_quiet_op; first | go_big_quiet_on | (apply Exists.intro; refine ⟨fun _ => ?_, ?_⟩; (focus (fail)); go_big_quiet_on)))
          refine wpQuiet_nil ?_
          intro w1 hb1
          clear rX hX hC
          have HB := Lib.hid (hb.out.trans (hb1.mono hsz))
          go_wp2
          go_roundg (xs.length - (t + 1))
          case measure => omega
          case rel => exact ⟨t + 1, by omega, by omega, by go_num, HB.out, (show Aside _ from fun j hj => by
            by_cases e : j = t
            · subst e; exact HQ.out
            · exact hA.out j (by omega))⟩
      · have HF := Lib.hid (atMost_hit hlt (.inl (Nat.not_lt.1 hlt2)))
        have hltz2 : ¬ (t : Int) < (ys.length : Int) := by omega
        have hd : decide (ys.length ≤ t) = true := decide_eq_true (by omega)
        go_wp2
        refine wp_region_ext (by kernel_rfl) (by kernel_rfl) ?_
        intro ι _ X hX hC
        have rX := fun k => (bcell (hX k)).1
        repeat (first | go_big_quiet_skip | (go_big_quiet_want; go_big_quiet_op; first | go_big_quiet_on | (apply Exists.intro; refine ⟨fun _ => ?_, ?_⟩; (focus (fail)); go_big_quiet_on)))
        refine wpQuiet_nil ?_
        intro w1 hb1
        clear rX hX hC
        have HB := Lib.hid (hb.out.trans (hb1.mono hsz))
        go_wp2
        go_ret
        exact ⟨ret_bool HF.out.symm, hb0.trans (HB.out.mono (by omega))⟩
    · have hltz : ¬ (t : Int) < (xs.length : Int) := by omega
      obtain rfl : t = xs.length := by omega
      have HF := Lib.hid (atMost_miss hA.out)
      go_wp2
      go_ret
      exact ⟨ret_bool (by rw [HF.out, Bool.eq_iff_iff, beq_iff_eq, decide_eq_true_eq]; omega), hb0.trans (hb.out.mono (by omega))⟩
end Go.Proofs.Ytknkneccnhgjmaa
