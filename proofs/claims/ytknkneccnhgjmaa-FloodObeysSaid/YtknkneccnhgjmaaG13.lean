/- Walk: flood's CheckParts. -/
import Derived.Test.YtknkneccnhgjmaaP8
namespace Go.Proofs.Ytknkneccnhgjmaa
open Go.RowKit Go.Shelf

theorem cp_bad {L : List Int} {step : Int} {ps : List Int} (h : (validB L && withinB step 0 ((L.length : Int) - 1)) = false) : cpE L step ps = 1 ∧ cpN L step ps = 0 := by
  have e : cpE L step ps = 1 := by unfold cpE; rw [if_neg (by rw [h]; decide)]
  exact ⟨e, by unfold cpN; rw [if_neg (by omega)]⟩
theorem cp_long {L : List Int} {step : Int} {ps : List Int} (h : (validB L && withinB step 0 ((L.length : Int) - 1)) = true) (h2 : 120 < ps.length) : cpE L step ps = 2 ∧ cpN L step ps = 0 := by
  have e : cpE L step ps = 2 := by unfold cpE; rw [if_pos h, if_pos h2]
  exact ⟨e, by unfold cpN; rw [if_neg (by omega)]⟩
theorem cp_dead {L : List Int} {step : Int} {ps : List Int} (h : (validB L && withinB step 0 ((L.length : Int) - 1)) = true) (h2 : ¬ 120 < ps.length) (h3 : chk L step ps = none) : cpE L step ps = 8 ∧ cpN L step ps = 0 := by
  have e : cpE L step ps = 8 := by unfold cpE; rw [if_pos h, if_neg h2, h3]
  exact ⟨e, by unfold cpN; rw [if_neg (by omega)]⟩
theorem cp_rest {L : List Int} {step l s : Int} {ps : List Int} (h : (validB L && withinB step 0 ((L.length : Int) - 1)) = true) (h2 : ¬ 120 < ps.length) (h3 : chk L step ps = some (l, s)) (h4 : l ≠ 0) : cpE L step ps = 8 ∧ cpN L step ps = 0 := by
  have e : cpE L step ps = 8 := by unfold cpE; rw [if_pos h, if_neg h2, h3]; exact if_neg h4
  exact ⟨e, by unfold cpN; rw [if_neg (by omega)]⟩
theorem cp_done {L : List Int} {step s : Int} {ps : List Int} (h : (validB L && withinB step 0 ((L.length : Int) - 1)) = true) (h2 : ¬ 120 < ps.length) (h3 : chk L step ps = some (0, s)) : cpE L step ps = 0 ∧ cpN L step ps = s := by
  have e : cpE L step ps = 0 := by unfold cpE; rw [if_pos h, if_neg h2, h3]; rfl
  exact ⟨e, by unfold cpN; rw [if_pos e, h3]⟩

set_option maxRecDepth 100000 in
set_option maxHeartbeats 1600000 in
theorem CheckParts_any (A1 A2 : Option Addr) (c1 c2 : Nat) (xs ps : List Int) (step : Int) (w : World) (r1 : Rd w w.heap.size A1 xs) (r2 : Rd w w.heap.size A2 ps) (m1 : xs.length ≤ maxLen) :
    Calls Try.prog 61 #[.agg #[.slice A1 xs.length c1], .int .i64 step, .slice A2 ps.length c2] w fun e w' => e = .returned (.tuple #[.int .i64 (cpN xs step ps), .int .i64 (cpE xs step ps)]) ∧ Below w.heap.size w w' := by
  have hb0 : Below w.heap.size w (w.alloc (.cells #[.slice A1 xs.length c1] 26)) := (Below.refl _ w).alloc (Nat.le_refl _) _
  have p1 : (w.alloc (.cells #[.slice A1 xs.length c1] 26)).cell? ⟨w.heap.size, 0, none⟩ = some (.slice A1 xs.length c1) := by simp [go_sem]
  have hsz : w.heap.size < (w.alloc (.cells #[.slice A1 xs.length c1] 26)).heap.size := by simp
  have hr := right1 A1 c1 xs _ (r1.ext hb0) m1
  have hW : ∀ W, Below (w.alloc (.cells #[.slice A1 xs.length c1] 26)).heap.size (w.alloc (.cells #[.slice A1 xs.length c1] 26)) W → Hid (W.cell? ⟨w.heap.size, 0, none⟩ = some (.slice A1 xs.length c1) ∧ Rd W W.heap.size A1 xs ∧ Rd W W.heap.size A2 ps ∧ Below w.heap.size w W ∧ w.heap.size < W.heap.size) := fun W hb =>
    ⟨(hb.cell (p := ⟨w.heap.size, 0, none⟩) hsz).trans p1, (r1.ext hb0).ext hb, (r2.ext hb0).ext hb, hb0.trans (hb.mono hb0.size), Nat.lt_of_lt_of_le hsz hb.size⟩
  have HW := Lib.hid hW
  clear hW r1 r2 hb0 hsz
  cases hv : validB xs
  · obtain ⟨e1, e2⟩ := cp_bad (L := xs) (step := step) (ps := ps) (by rw [hv]; rfl)
    rw [hv, errB_f] at hr
    rw [e1, e2]
    have HR := Lib.hid hr
    clear hr hv e1 e2
    go_enter Try.func61, Try.ntmps61
    go_upto_region 1 with fail
    generalize hgW : w.alloc (.cells #[.slice A1 xs.length c1] 26) = W1 at *
    clear hgW
    go_wp2_with (go_at_call 78; refine HR.out.mono ?_; rintro e w1 ⟨rfl, hb⟩)
    go_ret2
    exact ⟨rfl, (HW.out _ hb).out.2.2.2.1⟩
  have v1 := (validB_iff xs).1 hv
  have hn1 := v1.1
  have hn2 := v1.2.1
  rw [hv, errB_t] at hr
  have HR := Lib.hid (And.intro hr v1)
  clear hr v1
  cases hw : withinB step 0 ((xs.length : Int) - 1)
  · obtain ⟨e1, e2⟩ := cp_bad (L := xs) (step := step) (ps := ps) (by rw [hv, hw]; rfl)
    rw [e1, e2]
    have HI := Lib.hid hw
    clear hv hw e1 e2
    go_enter Try.func61, Try.ntmps61
    go_upto_region 1 with fail
    generalize hgW : w.alloc (.cells #[.slice A1 xs.length c1] 26) = W1 at *
    clear hgW
    go_wp2_with (first | (go_at_call 78; refine HR.out.1.mono ?_; rintro e w1 ⟨rfl, hb⟩; have q1 := (HW.out _ hb).out.1) | (go_at_call 69; refine (within_any _ _ _ _).mono ?_; rw [HI.out]; rintro e w' ⟨rfl, rfl⟩))
    go_ret2
    exact ⟨rfl, (HW.out _ hb).out.2.2.2.1⟩
  have hvw : (validB xs && withinB step 0 ((xs.length : Int) - 1)) = true := by rw [hv, hw]; rfl
  have HI := Lib.hid (And.intro hw hvw)
  clear hv hw
  by_cases h120 : 120 < ps.length
  · obtain ⟨e1, e2⟩ := cp_long (L := xs) (step := step) hvw h120
    have z120 : (120 : Int) < (ps.length : Int) := by omega
    rw [e1, e2]
    clear e1 e2 hvw
    go_enter Try.func61, Try.ntmps61
    go_upto_region 1 with fail
    generalize hgW : w.alloc (.cells #[.slice A1 xs.length c1] 26) = W1 at *
    clear hgW
    go_wp2_with (first | (go_at_call 78; refine HR.out.1.mono ?_; rintro e w1 ⟨rfl, hb⟩; have q1 := (HW.out _ hb).out.1) | (go_at_call 69; refine (within_any _ _ _ _).mono ?_; rw [HI.out.1]; rintro e w' ⟨rfl, rfl⟩))
    go_ret2
    exact ⟨rfl, (HW.out _ hb).out.2.2.2.1⟩
  have z120 : ¬ (120 : Int) < (ps.length : Int) := by omega
  have hst : 0 ≤ step ∧ step ≤ 120 := by have := HI.out.1; unfold withinB at this; rw [decide_eq_true_eq] at this; omega
  generalize hN : cpN xs step ps = N at *
  generalize hE : cpE xs step ps = E at *
  have HF := Lib.hid (And.intro hN hE)
  clear hN hE hvw
  go_enter Try.func61, Try.ntmps61
  go_upto_region 1 with fail
  generalize hgW : w.alloc (.cells #[.slice A1 xs.length c1] 26) = W1 at *
  clear hgW
  go_wp2_with (first | (go_at_call 78; refine HR.out.1.mono ?_; rintro e w1 ⟨rfl, hb⟩; have q1 := (HW.out _ hb).out.1) | (go_at_call 69; refine (within_any _ _ _ _).mono ?_; rw [HI.out.1]; rintro e w' ⟨rfl, rfl⟩))
  have HB := HW.out _ hb
  clear hb q1 p1 HW
  go_loopg [1, 9, 11, 30] ps.length (fun gg s1 s9 _ i wr => wr = w1 ∧ ∃ (t : Nat) (l s : Int), t ≤ ps.length ∧ ps.length - t ≤ gg ∧ i = .int .i64 t ∧ s1 = .int .i64 l ∧ s9 = .int .i64 s ∧ 0 ≤ l ∧ l ≤ step ∧ 0 ≤ s ∧ s ≤ (t : Int) * 1073741824 ∧ Aside (chk xs step (ps.take t) = some (l, s)))
  case atStart => exact ⟨rfl, 0, step, 0, Nat.zero_le _, by omega, rfl, rfl, rfl, hst.1, Int.le_refl _, Int.le_refl _, by omega, rfl⟩
  case round =>
    obtain ⟨rfl, t, l, s, ht, hg, rfl, rfl, rfl, hl0, hl1, hs0, hs1, hc⟩ := hrel
    obtain ⟨p1, r1, r2, hbl, hsz⟩ := HB.out
    by_cases hlt : t < ps.length
    · have hltz : (t : Int) < (ps.length : Int) := by omega
      obtain ⟨b2, o2, rfl, lb2, hc2⟩ := r2 (by omega)
      obtain ⟨b1, o1, rfl, lb1, hc1⟩ := r1 (by omega)
      have k2 := hc2 t hlt
      have hN := chk_take (L := xs) (step := step) hlt
      rw [hc.out] at hN
      clear hc2
      generalize nth ps t = p at *
      cases hwp : withinB p 1 l
      · have HP := Lib.hid hwp
        have hD : chk xs step (ps.take (t + 1)) = none := by rw [hN]; unfold chkStep; dsimp only; rw [if_neg (by rw [hwp]; decide)]
        obtain ⟨e1, e2⟩ := cp_dead HI.out.2 h120 (chk_take_dead hD)
        have HE := Lib.hid (And.intro e1 e2)
        clear hwp hN hD e1 e2 hc hc1
        go_wp2_with (go_at_call 69; refine (within_any _ _ _ _).mono ?_; rw [HP.out]; rintro e w' ⟨rfl, rfl⟩)
        go_ret2
        exact ⟨by rw [← HF.out.1, ← HF.out.2, HE.out.1, HE.out.2]; rfl, hbl⟩
      · have HP := Lib.hid hwp
        have hD : chk xs step (ps.take (t + 1)) = some (l - p, s + nth xs p.toNat) := by rw [hN]; unfold chkStep; dsimp only; rw [if_pos hwp]
        have hpw := hwp
        unfold withinB at hpw
        rw [decide_eq_true_eq] at hpw
        have hst2 : step < xs.length := by have := HI.out.1; unfold withinB at this; rw [decide_eq_true_eq] at this; omega
        obtain ⟨q, rfl⟩ : ∃ q : Nat, p = (q : Int) := ⟨p.toNat, by omega⟩
        rw [Int.toNat_natCast] at hD
        have hq : q < xs.length := by omega
        have hqz : (q : Int) < (xs.length : Int) := by omega
        have k1 := hc1 q hq
        have hx := HR.out.2.bd q
        have HD := Lib.hid hD
        clear hwp hN hD hc hc1
        generalize nth xs q = x at *
        go_wp2_with (go_at_call 69; refine (within_any _ _ _ _).mono ?_; rw [HP.out]; rintro e w' ⟨rfl, rfl⟩)
        go_roundg (ps.length - (t + 1))
        case measure => omega
        case rel => exact ⟨rfl, t + 1, l - q, s + x, by omega, by omega, by go_num, rfl, rfl, by omega, by omega, by omega, by omega, HD.out⟩
    · have hltz : ¬ (t : Int) < (ps.length : Int) := by omega
      obtain rfl : t = ps.length := by omega
      have hcc := hc.out
      rw [List.take_length] at hcc
      by_cases hl : l = 0
      · have hz : (l != 0) = false := by simpa using hl
        subst hl
        obtain ⟨e1, e2⟩ := cp_done HI.out.2 h120 hcc
        have HE := Lib.hid (And.intro e1 e2)
        clear hcc hc e1 e2
        go_wp2
        go_ret2
        exact ⟨by rw [← HF.out.1, ← HF.out.2, HE.out.1, HE.out.2]; rfl, hbl⟩
      · have hz : (l != 0) = true := by simpa using hl
        obtain ⟨e1, e2⟩ := cp_rest HI.out.2 h120 hcc hl
        have HE := Lib.hid (And.intro e1 e2)
        clear hcc hc e1 e2
        go_wp2
        go_ret2
        exact ⟨by rw [← HF.out.1, ← HF.out.2, HE.out.1, HE.out.2]; rfl, hbl⟩
end Go.Proofs.Ytknkneccnhgjmaa
