/- Walks: the reference's Both, three, Same. -/
import Derived.Test.YtknkneccnhgjmaaD1
namespace Go.Proofs.Ytknkneccnhgjmaa
open Go.RowKit Go.Shelf

set_option maxRecDepth 100000 in
set_option maxHeartbeats 1600000 in
theorem Both_any (A1 A2 : Option Addr) (c1 c2 : Nat) (xs ys : List Int) (w : World) (r1 : Rd w w.heap.size A1 xs) (r2 : Rd w w.heap.size A2 ys) (m1 : xs.length ≤ maxLen) (m2 : ys.length ≤ maxLen) :
    Calls Try.prog 93 #[.agg #[.slice A1 xs.length c1], .agg #[.slice A2 ys.length c2]] w fun e w' => e = .returned (.int .i64 (errB (ok2 xs ys))) ∧ Below w.heap.size w w' := by
  have ha := w2b_at (c1 := c1) (c2 := c2) r1 r2
  have hv := Valid_any A1 c1 xs _ ha.2.2.r1 m1
  have hv2 := fun W => fun (h : Rd W W.heap.size A2 ys) => Valid_any A2 c2 ys W h m2
  have HR := Lib.hid (And.intro ha (And.intro hv hv2))
  clear r1 r2 ha hv hv2
  have hd : ok2 xs ys = (validB xs && validB ys && decide (ys.length = xs.length)) := rfl
  generalize ok2 xs ys = O at *
  generalize hg1 : validB xs = b1 at *
  generalize hg2 : validB ys = b2 at *
  clear hg1 hg2
  cases b1 <;> cases b2 <;> cases hq : decide (ys.length = xs.length)
  all_goals
    rw [hq] at hd
    have H3 := Lib.hid (And.intro hq hd)
    clear hq hd
    go_enter Try.func93, Try.ntmps93
    go_upto_region 2 with (go_at_call 113; refine HR.out.2.1.mono ?_; rintro e w1 ⟨rfl, hb⟩; obtain ⟨p1, p2⟩ := keep2 HR.out.1.2.2.size hb HR.out.1.1 HR.out.1.2.1; have HI := Lib.hid (HR.out.1.2.2.ext hb); clear hb)
    go_upto_region 3 with (go_at_call 113; refine (HR.out.2.2 w1 HI.out.r2).mono ?_; rintro e w2 ⟨rfl, hb⟩; obtain ⟨s1, s2⟩ := keep2 HI.out.size hb p1 p2; have HI2 := Lib.hid (HI.out.ext hb); clear hb)
    have h3 := H3.out.1
    first
      | (rw [decide_eq_true_eq] at h3; have h3z : (xs.length : Int) = (ys.length : Int) := by omega)
      | (rw [decide_eq_false_iff_not] at h3; have h3z : ¬ (xs.length : Int) = (ys.length : Int) := by omega)
    clear h3
    go_wp2
    go_ret
    exact ⟨ret_int (by rw [H3.out.2]; rfl), HI2.out.below⟩

def ok3' (xs ys zs : List Int) : Bool := ok2 xs ys && ok2 xs zs

theorem w3b_at {w : World} {A1 A2 A3 : Option Addr} {c1 c2 c3 : Nat} {xs ys zs : List Int} (r1 : Rd w w.heap.size A1 xs) (r2 : Rd w w.heap.size A2 ys) (r3 : Rd w w.heap.size A3 zs) :
    (w3b w A1 A2 A3 xs.length c1 ys.length c2 zs.length c3).cell? ⟨w.heap.size, 0, none⟩ = some (.slice A1 xs.length c1) ∧ (w3b w A1 A2 A3 xs.length c1 ys.length c2 zs.length c3).cell? ⟨w.heap.size + 1, 0, none⟩ = some (.slice A2 ys.length c2) ∧ (w3b w A1 A2 A3 xs.length c1 ys.length c2 zs.length c3).cell? ⟨w.heap.size + 1 + 1, 0, none⟩ = some (.slice A3 zs.length c3) ∧
      In3 w (w3b w A1 A2 A3 xs.length c1 ys.length c2 zs.length c3) A1 A2 A3 xs ys zs :=
  w3b_after r1 r2 r3 (Below.refl _ _)
theorem In3.ext {w w1 w2 : World} {A1 A2 A3 : Option Addr} {xs ys zs : List Int} (h : In3 w w1 A1 A2 A3 xs ys zs) (hb : Below w1.heap.size w1 w2) : In3 w w2 A1 A2 A3 xs ys zs :=
  ⟨h.r1.ext hb, h.r2.ext hb, h.r3.ext hb, h.below.trans (hb.mono h.below.size), Nat.lt_of_lt_of_le h.size hb.size⟩
theorem keep3 {w w1 w2 : World} {v1 v2 v3 : Value} (hs : w.heap.size + 1 + 1 < w1.heap.size) (hb : Below w1.heap.size w1 w2) (p1 : w1.cell? ⟨w.heap.size, 0, none⟩ = some v1) (p2 : w1.cell? ⟨w.heap.size + 1, 0, none⟩ = some v2) (p3 : w1.cell? ⟨w.heap.size + 1 + 1, 0, none⟩ = some v3) :
    w2.cell? ⟨w.heap.size, 0, none⟩ = some v1 ∧ w2.cell? ⟨w.heap.size + 1, 0, none⟩ = some v2 ∧ w2.cell? ⟨w.heap.size + 1 + 1, 0, none⟩ = some v3 :=
  ⟨(hb.cell (p := ⟨w.heap.size, 0, none⟩) (show w.heap.size < _ by omega)).trans p1, (hb.cell (p := ⟨w.heap.size + 1, 0, none⟩) (show w.heap.size + 1 < _ by omega)).trans p2, (hb.cell (p := ⟨w.heap.size + 1 + 1, 0, none⟩) hs).trans p3⟩

set_option maxRecDepth 100000 in
set_option maxHeartbeats 1600000 in
theorem three_any (A1 A2 A3 : Option Addr) (c1 c2 c3 : Nat) (xs ys zs : List Int) (w : World) (r1 : Rd w w.heap.size A1 xs) (r2 : Rd w w.heap.size A2 ys) (r3 : Rd w w.heap.size A3 zs) (m1 : xs.length ≤ maxLen) (m2 : ys.length ≤ maxLen) (m3 : zs.length ≤ maxLen) :
    Calls Try.prog 97 #[.agg #[.slice A1 xs.length c1], .agg #[.slice A2 ys.length c2], .agg #[.slice A3 zs.length c3]] w fun e w' => e = .returned (.int .i64 (errB (ok3' xs ys zs))) ∧ Below w.heap.size w w' := by
  obtain ⟨t1, t2, t3, ha⟩ := w3b_at (c1 := c1) (c2 := c2) (c3 := c3) r1 r2 r3
  have hv := Both_any A1 A2 c1 c2 xs ys _ ha.r1 ha.r2 m1 m2
  have hv2 := fun W => fun (h : Rd W W.heap.size A1 xs) (h' : Rd W W.heap.size A3 zs) => Both_any A1 A3 c1 c3 xs zs W h h' m1 m3
  have HR := Lib.hid (And.intro t1 (And.intro t2 (And.intro t3 (And.intro ha (And.intro hv hv2)))))
  clear r1 r2 r3 t1 t2 t3 ha hv hv2
  have hd : ok3' xs ys zs = (ok2 xs ys && ok2 xs zs) := rfl
  generalize ok3' xs ys zs = O at *
  generalize hg1 : ok2 xs ys = b1 at *
  generalize hg2 : ok2 xs zs = b2 at *
  clear hg1 hg2
  cases b1
  · have H3 := Lib.hid (show O = false from hd.trans rfl)
    clear hd
    go_enter Try.func97, Try.ntmps97
    go_upto_region 2 with (go_at_call 93; refine HR.out.2.2.2.2.1.mono ?_; simp only [errB_f]; rintro e w1 ⟨rfl, hb⟩; have HI := Lib.hid (HR.out.2.2.2.1.ext hb); clear hb)
    go_wp2
    go_ret
    exact ⟨ret_int (by rw [H3.out]; rfl), HI.out.below⟩
  · have H3 := Lib.hid (show O = b2 from hd.trans (Bool.true_and _))
    clear hd
    go_enter Try.func97, Try.ntmps97
    go_upto_region 2 with (go_at_call 93; refine HR.out.2.2.2.2.1.mono ?_; simp only [errB_t]; rintro e w1 ⟨rfl, hb⟩; obtain ⟨p1, p2, p3⟩ := keep3 HR.out.2.2.2.1.size hb HR.out.1 HR.out.2.1 HR.out.2.2.1; have HI := Lib.hid (HR.out.2.2.2.1.ext hb); clear hb)
    go_wp2_with (go_at_call 93; refine (HR.out.2.2.2.2.2 w1 HI.out.r1 HI.out.r3).mono ?_; rintro e w2 ⟨rfl, hb⟩; have HI2 := Lib.hid (HI.out.ext hb); clear hb)
    go_ret
    exact ⟨ret_int (by rw [H3.out]), HI2.out.below⟩

theorem ne_of_nth {xs ys : List Int} {t : Nat} (h : nth xs t ≠ nth ys t) : xs ≠ ys := fun e => h (by rw [e])

set_option maxRecDepth 100000 in
set_option maxHeartbeats 1600000 in
theorem Same_any (A1 A2 : Option Addr) (c1 c2 : Nat) (xs ys : List Int) (w : World) (r1 : Rd w w.heap.size A1 xs) (r2 : Rd w w.heap.size A2 ys) (m1 : xs.length ≤ 1000) (m2 : ys.length ≤ 1000) :
    Calls Try.prog 19 #[.agg #[.slice A1 xs.length c1], .agg #[.slice A2 ys.length c2]] w fun e w' => e = .returned (.bool (decide (xs = ys))) ∧ Below w.heap.size w w' := by
  obtain ⟨p1, p2, HI⟩ := w2b_at (c1 := c1) (c2 := c2) r1 r2
  have l1 : w.heap.size < _ := Nat.lt_of_succ_lt HI.size
  have l2 := HI.size
  have hr1 := HI.r1
  have hr2 := HI.r2
  have hb0 := HI.below
  clear r1 r2 HI
  by_cases h3 : xs.length = ys.length
  · have h3z : (xs.length : Int) = (ys.length : Int) := by omega
    have H3 := Lib.hid h3
    clear h3
    go_enter Try.func19, Try.ntmps19
    go_upto_region 1 with fail
    generalize (w.alloc (.cells #[.slice A1 xs.length c1] 26)).alloc (.cells #[.slice A2 ys.length c2] 26) = w1 at *
    go_upto_region 3 with fail
    have H3z := Lib.hid h3z
    clear h3z
    go_wp2
    go_loopg [5] xs.length (fun gg s wr => ∃ t : Nat, t ≤ xs.length ∧ xs.length - t ≤ gg ∧ s = .int .i64 t ∧ Aside (Below w1.heap.size w1 wr) ∧ Aside (∀ j, j < t → nth xs j = nth ys j))
    case atStart => exact ⟨0, Nat.zero_le _, by omega, rfl, Below.refl _ _, fun j hj => absurd hj (Nat.not_lt_zero _)⟩
    case round =>
      obtain ⟨t, ht, hg, rfl, hb, hA⟩ := hrel
      obtain ⟨rc, rf⟩ := bcell hb.out
      by_cases hlt : t < xs.length
      · have hltz : (t : Int) < (xs.length : Int) := by omega
        have hltz2 : (t : Int) < (ys.length : Int) := by have := H3.out; omega
        obtain ⟨b1, o1, rfl, lb1, hc1⟩ := hr1 (by omega)
        obtain ⟨b2, o2, rfl, lb2, hc2⟩ := hr2 (by omega)
        have k1 := hc1 t hlt
        have k2 := hc2 t (by omega)
        have hsz := hb.out.size
        have lb1' : b1 < wr.heap.size := by omega
        have lb2' : b2 < wr.heap.size := by omega
        have l1' : w.heap.size < wr.heap.size := by omega
        have l2' : w.heap.size + 1 < wr.heap.size := by omega
        clear hc1 hc2 hr1 hr2
        by_cases hq : nth xs t = nth ys t
        · have HQ := Lib.hid hq
          rw [hq] at k1
          clear hq
          go_wp2
          refine wp_region_ext (by kernel_rfl) (by kernel_rfl) ?_
          intro ι _ X hX hC
          have rX := fun k => (bcell (hX k)).1
          repeat (first | go_big_quiet_skip | (go_big_quiet_want; go_big_quiet_op; first | go_big_quiet_on | (apply Exists.intro; refine ⟨fun _ => ?_, ?_⟩; (focus (fail)); go_big_quiet_on)))
          refine wpQuiet_nil ?_
          intro w1 hb1
          clear rX hX hC
          have HB := Lib.hid (hb.out.trans (hb1.mono hsz))
          go_wp2
          go_roundg (xs.length - (t + 1))
          case measure => omega
          case rel => exact ⟨t + 1, by omega, by omega, by go_num, HB.out, (show Aside _ from fun j hj => by
            by_cases e : j = t
            · subst e; exact HQ.out
            · exact hA.out j (by omega))⟩
        · have hfin : decide (xs = ys) = false := by rw [decide_eq_false_iff_not]; exact ne_of_nth hq
          have HF := Lib.hid hfin
          clear hfin
          go_wp2
          refine wp_region_ext (by kernel_rfl) (by kernel_rfl) ?_
          intro ι _ X hX hC
          have rX := fun k => (bcell (hX k)).1
          repeat (first | go_big_quiet_skip | (go_big_quiet_want; go_big_quiet_op; first | go_big_quiet_on | (apply Exists.intro; refine ⟨fun _ => ?_, ?_⟩; (focus (fail)); go_big_quiet_on)))
          refine wpQuiet_nil ?_
          intro w1 hb1
          clear rX hX hC
          have HB := Lib.hid (hb.out.trans (hb1.mono hsz))
          go_wp2
          go_ret
          exact ⟨by rw [HF.out]; rfl, hb0.trans (HB.out.mono (by omega))⟩
      · have hltz : ¬ (t : Int) < (xs.length : Int) := by omega
        obtain rfl : t = xs.length := by omega
        go_wp2
        go_ret
        exact ⟨by rw [decide_eq_true (nth_ext H3.out hA.out)]; rfl, hb0.trans (hb.out.mono (by omega))⟩
  · have h3z : ¬ (xs.length : Int) = (ys.length : Int) := by omega
    have hfin : decide (xs = ys) = false := by rw [decide_eq_false_iff_not]; exact fun e => h3 (by rw [e])
    have HF := Lib.hid hfin
    clear hfin h3
    go_enter Try.func19, Try.ntmps19
    go_wp2
    go_ret
    exact ⟨by rw [HF.out]; rfl, hb0⟩
end Go.Proofs.Ytknkneccnhgjmaa
