/- Walks: the reference's least. -/
import Derived.Test.YtknkneccnhgjmaaD3
namespace Go.Proofs.Ytknkneccnhgjmaa
open Go.RowKit Go.Shelf

set_option maxRecDepth 100000 in
set_option maxHeartbeats 1600000 in
theorem rleast_any (t : Nat) (A1 A2 : Option Addr) (c1 c2 : Nat) (xs ys : List Int) (w : World) (r1 : Rd w w.heap.size A1 xs) (r2 : Rd w w.heap.size A2 ys) (ht : t < xs.length) (hm : xs.length ≤ 1000) (h3 : ys.length = xs.length) (sx : Small xs) (sy : Small ys) :
    Calls Try.prog 112 #[.agg #[.slice A1 xs.length c1], .agg #[.slice A2 ys.length c2], .int .i64 t] w fun e w' => e = .returned (.int .i64 (splitAt xs ys t)) ∧ Below w.heap.size w w' := by
  obtain ⟨p1, p2, HI⟩ := w2b_at (c1 := c1) (c2 := c2) r1 r2
  have l1 : w.heap.size < _ := Nat.lt_of_succ_lt HI.size
  have l2 := HI.size
  have hb0 := HI.below
  obtain ⟨b1, o1, rfl, lb1, hc1⟩ := HI.r1 (by omega)
  obtain ⟨b2, o2, rfl, lb2, hc2⟩ := HI.r2 (by omega)
  have H3 := Lib.hid h3
  clear r1 r2 HI h3
  go_enter Try.func112, Try.ntmps112
  go_upto_region 1 with fail
  generalize (w.alloc (.cells #[.slice (some ⟨b1, o1, none⟩) xs.length c1] 26)).alloc (.cells #[.slice (some ⟨b2, o2, none⟩) ys.length c2] 26) = w1 at *
  go_wp2
  go_loopg [7, 8] (t + 1) (fun gg s7 s8 wr => ∃ k : Nat, k ≤ t + 1 ∧ t + 1 - k ≤ gg ∧ s8 = .int .i64 k ∧ s7 = .int .i64 ((argb ltB (divAt xs ys t) (k - 1) : Nat) : Int) ∧ Aside (Below w1.heap.size w1 wr))
  case atStart => exact ⟨0, Nat.zero_le _, by omega, rfl, rfl, Below.refl _ _⟩
  case round =>
    obtain ⟨k, hk, hg, rfl, rfl, hb⟩ := hrel
    obtain ⟨rc, rf⟩ := bcell hb.out
    have hle := argb_le ltB (divAt xs ys t) (k - 1)
    by_cases hlt : k < t + 1
    · have hkz : (k : Int) ≤ (t : Int) := by omega
      have hs : argb ltB (divAt xs ys t) (k + 1 - 1) = if nth xs k + nth ys (t - k) < nth xs (argb ltB (divAt xs ys t) (k - 1)) + nth ys (t - argb ltB (divAt xs ys t) (k - 1)) then k else argb ltB (divAt xs ys t) (k - 1) := by
        cases k with
        | zero => simp [argb]
        | succ j =>
          rw [show j + 1 + 1 - 1 = j + 1 by omega, show j + 1 - 1 = j by omega]
          show (if ltB (divAt xs ys t (j + 1)) (divAt xs ys t (argb ltB (divAt xs ys t) j)) = true then j + 1 else argb ltB (divAt xs ys t) j) = _
          unfold ltB
          simp only [decide_eq_true_eq]
          rfl
      generalize argb ltB (divAt xs ys t) (k - 1) = m at *
      have hmt : m ≤ t := by omega
      have k1 := hc1 k (by omega)
      have k2 := hc2 (t - k) (by have := H3.out; omega)
      have k3 := hc1 m (by omega)
      have k4 := hc2 (t - m) (by have := H3.out; omega)
      have g1 : (k : Int) < (xs.length : Int) := by omega
      have g2 : (t : Int) - (k : Int) < (ys.length : Int) := by have := H3.out; omega
      have g3 : (m : Int) < (xs.length : Int) := by omega
      have g4 : (t : Int) - (m : Int) < (ys.length : Int) := by have := H3.out; omega
      have g5 : (0 : Int) ≤ (t : Int) - (m : Int) := by omega
      have e1 : ((t : Int) - (k : Int)).toNat = t - k := by omega
      have e2 : ((t : Int) - (m : Int)).toNat = t - m := by omega
      obtain ⟨n1, n2⟩ := sx k
      obtain ⟨n3, n4⟩ := sy (t - k)
      obtain ⟨n5, n6⟩ := sx m
      obtain ⟨n7, n8⟩ := sy (t - m)
      have hsz := hb.out.size
      have lb1' : b1 < wr.heap.size := by omega
      have lb2' : b2 < wr.heap.size := by omega
      have l1' : w.heap.size < wr.heap.size := by omega
      have l2' : w.heap.size + 1 < wr.heap.size := by omega
      clear hc1 hc2 sx sy
      by_cases hq : nth xs k + nth ys (t - k) < nth xs m + nth ys (t - m)
      all_goals
        first
          | rw [if_pos hq] at hs
          | rw [if_neg hq] at hs
        have HS := Lib.hid hs
        clear hs
        go_wp2
        refine wp_region_ext (by kernel_rfl) (by kernel_rfl) ?_
        intro ι _ X hX hC
        have rX := fun k => (bcell (hX k)).1
        repeat (first | go_big_quiet_skip | (go_big_quiet_want; go_big_quiet_op; first | go_big_quiet_on | (apply Exists.intro; refine ⟨fun _ => ?_, ?_⟩; (focus (fail)); go_big_quiet_on)))
        refine wpQuiet_nil ?_
        intro w1 hb1
        clear rX hX hC
        have HB := Lib.hid (hb.out.trans (hb1.mono hsz))
        go_wp2
        go_roundg (t + 1 - (k + 1))
        case measure => omega
        case rel => exact ⟨k + 1, by omega, by omega, by go_num, by rw [HS.out], HB.out⟩
    · have hkz : ¬ (k : Int) ≤ (t : Int) := by omega
      obtain rfl : k = t + 1 := by omega
      go_wp2
      go_ret
      exact ⟨rfl, hb0.trans (hb.out.mono (by omega))⟩
end Go.Proofs.Ytknkneccnhgjmaa
