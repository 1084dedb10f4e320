/- Walk: the laws' own helper fits. -/
import Derived.Test.YtknkneccnhgjmaaP3
import Derived.Test.YtknkneccnhgjmaaL1
namespace Go.Proofs.Ytknkneccnhgjmaa
open Go.RowKit Go.Shelf

set_option maxRecDepth 100000 in
set_option maxHeartbeats 3200000 in
theorem fits_any (A1 A2 : Option Addr) (c1 c2 : Nat) (l : List Sv) (xs : List Int) (w : World) (r1 : RdS w w.heap.size A1 l) (r2 : Rd w w.heap.size A2 xs) (m1 : l.length ≤ 1000) (m2 : xs.length ≤ 1000) :
    Calls Try.prog 25 #[.slice A1 l.length c1, .agg #[.slice A2 xs.length c2]] w fun e w' => e = .returned (.bool (fitsB l xs)) ∧ Below w.heap.size w w' := by
  obtain ⟨p2, hr2, hb0, l2⟩ := w1b_at (c := c2) r2
  have hr1 := r1.ext hb0
  clear r1 r2
  go_enter Try.func25, Try.ntmps25
  go_upto_region 1 with fail
  generalize w.alloc (.cells #[.slice A2 xs.length c2] 26) = w1 at *
  go_wp2
  go_loopg [9] l.length (fun gg s wr => ∃ t : Nat, t ≤ l.length ∧ l.length - t ≤ gg ∧ s = .int .i64 t ∧ Aside (Below w1.heap.size w1 wr) ∧ Aside (∀ j, j < t → fitAt l xs j = true))
  case atStart => exact ⟨0, Nat.zero_le _, by omega, rfl, Below.refl _ _, fun j hj => absurd hj (Nat.not_lt_zero _)⟩
  case round =>
    obtain ⟨t, ht, hg, rfl, hb, hA⟩ := hrel
    obtain ⟨rc, rf⟩ := bcell hb.out
    have hsz := hb.out.size
    have l2' : w.heap.size < wr.heap.size := by omega
    by_cases hlt : t < l.length
    · have hltz : (t : Int) < (l.length : Int) := by omega
      obtain ⟨b1, o1, rfl, lb1, hc1⟩ := hr1 (by omega)
      obtain ⟨k1, k2, k3⟩ := hc1 t hlt
      replace k1 := (rc _ _ lb1).trans k1
      replace k2 := (rc _ _ lb1).trans k2
      replace k3 := (rc _ _ lb1).trans k3
      replace p2 := (rc _ 0 l2).trans p2
      have hr2' := hr2.ext hb.out
      have hs : fitAt l xs t = (decide (0 ≤ (nthS l t).step) && decide ((nthS l t).step < xs.length) && decide ((nthS l t).lo ≤ nth xs (nthS l t).step.toNat) && decide (nth xs (nthS l t).step.toNat ≤ (nthS l t).hi)) := rfl
      clear hc1 hr1 hr2 rc rf
      generalize hsv : nthS l t = s at *
      obtain ⟨p, lo, hi⟩ := s
      dsimp only at k1 k2 k3 hs
      clear hsv
      go_upto_region 4 with fail
      obtain ⟨z0, z1, z2, _⟩ := three_cells (heap_alloc_new wr (.cells #[.int .i64 p, .int .i64 lo, .int .i64 hi] 86))
      have hbA := (Below.refl wr.heap.size wr).alloc (Nat.le_refl _) (.cells #[.int .i64 p, .int .i64 lo, .int .i64 hi] 86)
      have q2 := (hbA.cell (p := ⟨w.heap.size, 0, none⟩) l2').trans p2
      have hr3 := hr2'.ext hbA
      have lA : wr.heap.size < (wr.alloc (.cells #[.int .i64 p, .int .i64 lo, .int .i64 hi] 86)).heap.size := by simp
      have HB := Lib.hid (hb.out.trans (hbA.mono hsz))
      have hsz2 : w1.heap.size ≤ (wr.alloc (.cells #[.int .i64 p, .int .i64 lo, .int .i64 hi] 86)).heap.size := by simp; omega
      have l2A : w.heap.size < (wr.alloc (.cells #[.int .i64 p, .int .i64 lo, .int .i64 hi] 86)).heap.size := by simp; omega
      generalize hgW : wr.alloc (.cells #[.int .i64 p, .int .i64 lo, .int .i64 hi] 86) = W at *
      clear hgW hbA k1 k2 k3 p2 hr2' hb
      generalize hgg : wr.heap.size = G at *
      clear hgg
      by_cases hp : p < 0
      · have HF := Lib.hid (fitsB_miss hlt (show fitAt l xs t = false by rw [hs]; simp; omega))
        have hd : decide (p < 0) = true := decide_eq_true hp
        clear hs hr3
        refine wp_region_ext (by kernel_rfl) (by kernel_rfl) ?_
        intro ι _ X hX hC
        have rX := fun k => (bcell (hX k)).1
        repeat (first | go_big_quiet_skip | (go_big_quiet_want; go_big_quiet_op; first | go_big_quiet_on | (apply Exists.intro; refine ⟨fun _ => ?_, ?_⟩; (focus (fail)); go_big_quiet_on)))
        refine wpQuiet_nil ?_
        intro w1 hb1
        clear rX hX hC
        have HB2 := Lib.hid (HB.out.trans (hb1.mono hsz2))
        go_wp2
        go_ret
        exact ⟨ret_bool HF.out.symm, hb0.trans (HB2.out.mono (by omega))⟩
      obtain ⟨pn, rfl⟩ : ∃ pn : Nat, p = (pn : Int) := ⟨p.toNat, by omega⟩
      rw [Int.toNat_natCast] at hs
      clear hp
      have hd0 : decide ((pn : Int) < 0) = false := decide_eq_false (by omega)
      by_cases hpl : xs.length ≤ pn
      · have HF := Lib.hid (fitsB_miss hlt (show fitAt l xs t = false by rw [hs]; simp; omega))
        have hd : decide (xs.length ≤ pn) = true := decide_eq_true hpl
        clear hs hr3
        refine wp_region_ext (by kernel_rfl) (by kernel_rfl) ?_
        intro ι _ X hX hC
        have rX := fun k => (bcell (hX k)).1
        repeat (first | go_big_quiet_skip | (go_big_quiet_want; go_big_quiet_op; first | go_big_quiet_on | (apply Exists.intro; refine ⟨fun _ => ?_, ?_⟩; (focus (fail)); go_big_quiet_on)))
        refine wpQuiet_nil ?_
        intro w1 hb1
        clear rX hX hC
        have HB2 := Lib.hid (HB.out.trans (hb1.mono hsz2))
        go_wp2
        go_ret
        exact ⟨ret_bool HF.out.symm, hb0.trans (HB2.out.mono (by omega))⟩
      have hd : decide (xs.length ≤ pn) = false := decide_eq_false hpl
      obtain ⟨b2, o2, rfl, lb2, hc2⟩ := hr3 (by omega)
      have k2 := hc2 pn (by omega)
      have hpz : (pn : Int) < (xs.length : Int) := by omega
      clear hr3 hc2
      generalize hN : nth xs pn = N at *
      clear hN
      by_cases hlo : N < lo
      · have HF := Lib.hid (fitsB_miss hlt (show fitAt l xs t = false by rw [hs]; simp; omega))
        have hd2 : decide (N < lo) = true := decide_eq_true hlo
        clear hs
        refine wp_region_ext (by kernel_rfl) (by kernel_rfl) ?_
        intro ι _ X hX hC
        have rX := fun k => (bcell (hX k)).1
        repeat (first | go_big_quiet_skip | (go_big_quiet_want; go_big_quiet_op; first | go_big_quiet_on | (apply Exists.intro; refine ⟨fun _ => ?_, ?_⟩; (focus (fail)); go_big_quiet_on)))
        refine wpQuiet_nil ?_
        intro w1 hb1
        clear rX hX hC
        have HB2 := Lib.hid (HB.out.trans (hb1.mono hsz2))
        go_wp2
        go_ret
        exact ⟨ret_bool HF.out.symm, hb0.trans (HB2.out.mono (by omega))⟩
      have hd2 : decide (N < lo) = false := decide_eq_false hlo
      by_cases hhi : hi < N
      · have HF := Lib.hid (fitsB_miss hlt (show fitAt l xs t = false by rw [hs]; simp; omega))
        clear hs
        refine wp_region_ext (by kernel_rfl) (by kernel_rfl) ?_
        intro ι _ X hX hC
        have rX := fun k => (bcell (hX k)).1
        repeat (first | go_big_quiet_skip | (go_big_quiet_want; go_big_quiet_op; first | go_big_quiet_on | (apply Exists.intro; refine ⟨fun _ => ?_, ?_⟩; (focus (fail)); go_big_quiet_on)))
        refine wpQuiet_nil ?_
        intro w1 hb1
        clear rX hX hC
        have HB2 := Lib.hid (HB.out.trans (hb1.mono hsz2))
        go_wp2
        go_ret
        exact ⟨ret_bool HF.out.symm, hb0.trans (HB2.out.mono (by omega))⟩
      · have HF := Lib.hid (show fitAt l xs t = true by rw [hs]; simp; omega)
        clear hs
        refine wp_region_ext (by kernel_rfl) (by kernel_rfl) ?_
        intro ι _ X hX hC
        have rX := fun k => (bcell (hX k)).1
        repeat (first | go_big_quiet_skip | (go_big_quiet_want; go_big_quiet_op; first | go_big_quiet_on | (apply Exists.intro; refine ⟨fun _ => ?_, ?_⟩; (focus (fail)); go_big_quiet_on)))
        refine wpQuiet_nil ?_
        intro w1 hb1
        clear rX hX hC
        have HB2 := Lib.hid (HB.out.trans (hb1.mono hsz2))
        go_wp2
        go_roundg (l.length - (t + 1))
        case measure => omega
        case rel => exact ⟨t + 1, by omega, by omega, by go_num, HB2.out, (show Aside _ from fun j hj => by
            by_cases e : j = t
            · subst e; exact HF.out
            · exact hA.out j (by omega))⟩
    · have hltz : ¬ (t : Int) < (l.length : Int) := by omega
      obtain rfl : t = l.length := by omega
      have HF := Lib.hid (fitsB_hit hA.out)
      go_wp2
      go_ret
      exact ⟨ret_bool HF.out.symm, hb0.trans (hb.out.mono (by omega))⟩
end Go.Proofs.Ytknkneccnhgjmaa
