/- Walk: the law FloodHolds. -/
import Derived.Test.YtknkneccnhgjmaaP7
import Derived.Test.YtknkneccnhgjmaaL7
namespace Go.Proofs.Ytknkneccnhgjmaa
open Go.RowKit Go.Shelf

theorem Behind_yes {A1 A2 : Option Addr} {c1 c2 : Nat} {xs ys : List Int} (h : ok2 xs ys = true) (w : World) (r1 : Rd w w.heap.size A1 xs) (r2 : Rd w w.heap.size A2 ys) (m1 : xs.length ≤ maxLen) (m2 : ys.length ≤ maxLen) :
    Calls Try.prog 40 #[.agg #[.slice A1 xs.length c1], .agg #[.slice A2 ys.length c2]] w fun e w' => RCE w (behindL xs ys) 0 e w' := by
  have := Behind_any A1 A2 c1 c2 xs ys w r1 r2 m1 m2
  rwa [h, pick_t, errB_t] at this
theorem errB_zero {b : Bool} (h : errB b = 0) : b = true := by
  cases b
  · exact absurd h (by decide)
  · rfl
theorem Holds_all {xs ys zs us : List Int} (hz : ok2 zs us = true) (h1 : errB (ok2 xs zs) = 0) (h2 : errB (ok3 xs ys us) = 0) (h3 : (ok2 xs zs && obeysB xs zs) = true) (h4 : servedB xs ys us = true) (mx : xs.length ≤ maxLen) (my : ys.length ≤ maxLen) (mz : zs.length ≤ maxLen) :
    ∃ m p q lo hi : Int, decide (m ≤ (backTop zs us).2) = true ∧ decide (q ≤ delayI zs us) = true ∧
      (∀ (A1 A2 : Option Addr) (c1 c2 : Nat) (w : World), Rd w w.heap.size A1 xs → Rd w w.heap.size A2 ys → Calls Try.prog 43 #[.agg #[.slice A1 xs.length c1], .agg #[.slice A2 ys.length c2]] w fun e w' => e = .returned (.tuple #[.int .i64 m, .int .i64 p, .int .i64 0]) ∧ Below w.heap.size w w') ∧
      (∀ (A1 A2 : Option Addr) (c1 c2 : Nat) (w : World), Rd w w.heap.size A1 xs → Rd w w.heap.size A2 ys → Calls Try.prog 45 #[.agg #[.slice A1 xs.length c1], .agg #[.slice A2 ys.length c2]] w fun e w' => e = .returned (.tuple #[.int .i64 q, .int .i64 0]) ∧ Below w.heap.size w w') ∧
      (∀ (A1 A2 : Option Addr) (c1 c2 : Nat) (w : World), Rd w w.heap.size A1 ys → Rd w w.heap.size A2 (behindL zs us) → Calls Try.prog 57 #[.agg #[.slice A1 ys.length c1], .agg #[.slice A2 (behindL zs us).length c2]] w fun e w' => e = .returned (.tuple #[.agg #[.int .i64 lo, .int .i64 hi], .bool true, .int .i64 0]) ∧ Below w.heap.size w w') := by
  obtain ⟨vz, vu, hu⟩ := ok2_iff.1 hz
  have k1 := errB_zero h1
  have k2 := errB_zero h2
  obtain ⟨vx, _, hzx⟩ := ok2_iff.1 k1
  rw [k1, Bool.true_and] at h3
  have ho : brk xs zs = none := by
    unfold obeysB at h3
    exact Option.isNone_iff_eq_none.1 h3
  rw [brk_none_iff] at ho
  have hs : failsI xs ys us < 0 := by
    unfold servedB at h4
    rw [k2, Bool.true_and, decide_eq_true_eq] at h4
    exact h4
  rw [failsI_neg_iff] at hs
  have k3 : ok2 xs ys = true := by
    rw [ok3_eq] at k2
    unfold ok3' at k2
    rw [Bool.and_eq_true] at k2
    exact k2.1
  obtain ⟨_, vy, hy⟩ := ok2_iff.1 k3
  have hc : clashB xs ys = false := by
    cases h : clashB xs ys
    · rfl
    · obtain ⟨t, ht, hlt⟩ := clashB_iff.1 h
      have := (hs t ht).1
      omega
  have hf : flowE xs ys = 0 := by
    unfold flowE
    rw [k3, hc]
    rfl
  have k4 : ok2 ys (behindL zs us) = true := ok2_iff.2 ⟨vy, behindL_valid vz vu hu, by rw [behindL_length]; omega⟩
  have k5 : obeysB ys (behindL zs us) = true := by
    unfold obeysB
    rw [brk_none_iff.2 fun t ht s hst => holds_behind hzx ho hs t (by omega) s hst]
    rfl
  refine ⟨liesAt xs ys (mostAt xs ys), (mostAt xs ys : Nat), waitI xs ys, brkLo (brk ys (behindL zs us)), brkHi (brk ys (behindL zs us)), decide_eq_true (holds_stored vx.1 hzx ho hs), decide_eq_true (holds_waited vx vu hzx ho hs), ?_, ?_, ?_⟩
  · intro A1 A2 c1 c2 w r1 r2
    have := Stored_any A1 A2 c1 c2 xs ys w r1 r2 mx my
    rwa [if_pos hf, if_pos hf, hf] at this
  · intro A1 A2 c1 c2 w r1 r2
    have := Waited_any A1 A2 c1 c2 xs ys w r1 r2 mx my
    rwa [if_pos hf, hf] at this
  · intro A1 A2 c1 c2 w r1 r2
    have := Obeys_any A1 A2 c1 c2 ys (behindL zs us) w r1 r2 my (by rw [behindL_length]; exact mz)
    rwa [k4, k5, pickI_t, pickI_t, errB_t] at this

set_option maxRecDepth 100000 in
set_option maxHeartbeats 8000000 in
theorem FloodHolds_row (w : World) (A1 : Option Addr) (c1 : Nat) (xs : List Int) (r1 : Rd w w.heap.size A1 xs) (m1 : xs.length ≤ maxLen) (A2 : Option Addr) (c2 : Nat) (ys : List Int) (r2 : Rd w w.heap.size A2 ys) (m2 : ys.length ≤ maxLen)
    (A3 : Option Addr) (c3 : Nat) (zs : List Int) (r3 : Rd w w.heap.size A3 zs) (m3 : zs.length ≤ maxLen) (A4 : Option Addr) (c4 : Nat) (us : List Int) (r4 : Rd w w.heap.size A4 us) (m4 : us.length ≤ maxLen) :
    Calls Try.prog 13 #[.agg #[.slice A1 xs.length c1], .agg #[.slice A2 ys.length c2], .agg #[.slice A3 zs.length c3], .agg #[.slice A4 us.length c4]] w fun e w' => e = .returned (.bool true) ∧ Below w.heap.size w w' := by
  have hK : Ex w w [] [] := ⟨Below.refl _ _, fun p hp => (by cases hp), fun p hp => (by cases hp)⟩
  have K := Lib.hid ((((hK.addRd r1).addRd r2).addRd r3).addRd r4)
  have M1 := Lib.hid m1
  have M2 := Lib.hid m2
  have M3 := Lib.hid m3
  have M4 := Lib.hid m4
  clear hK r1 r2 r3 r4 m1 m2 m3 m4
  cases hf0 : fewB xs with
  | false =>
    have F0 := Lib.hid hf0
    clear hf0
    go_enter Try.func13, Try.ntmps13
    go_upto_region 1 with fail
    have hK := ((((K.out.one (.slice A1 xs.length c1) 26).one (.slice A2 ys.length c2) 26).one (.slice A3 zs.length c3) 26).one (.slice A4 us.length c4) 26)
    simp only [World.size_alloc] at hK
    generalize hgW : (((w.alloc (.cells #[.slice A1 xs.length c1] 26)).alloc (.cells #[.slice A2 ys.length c2] 26)).alloc (.cells #[.slice A3 zs.length c3] 26)).alloc (.cells #[.slice A4 us.length c4] 26) = W0 at *
    clear K hgW
    have K := Lib.hid hK
    clear hK
    have q1 := (K.out.cells (⟨w.heap.size, 0, none⟩, .slice A1 xs.length c1) (List.mem_of_getElem? (i := 3) rfl)).2
    go_wp2_with (first
      | (go_at_call 16; have _t := K2; clear _t; refine (sanity_any _).mono ?_; rintro e y6 ⟨rfl, hb⟩; have K5 := Lib.hid (And.intro (K2.out.1.ext hb) (trivial)); clear hb)
      | (go_at_call 20; refine (few_any A1 c1 xs _ M1.out).mono ?_; rw [F0.out]; rintro e y3 ⟨rfl, hb⟩; have K2 := Lib.hid (And.intro (K.out.ext hb) (trivial)); have q4 := (K2.out.1.cells (⟨w.heap.size + 1, 0, none⟩, .slice A2 ys.length c2) (List.mem_of_getElem? (i := 2) rfl)).2; clear hb))
    go_ret
    exact ⟨rfl, K5.out.1.bl⟩
  | true =>
  have F0 := Lib.hid hf0
  clear hf0
  cases hf1 : fewB ys with
  | false =>
    have F1 := Lib.hid hf1
    clear hf1
    go_enter Try.func13, Try.ntmps13
    go_upto_region 1 with fail
    have hK := ((((K.out.one (.slice A1 xs.length c1) 26).one (.slice A2 ys.length c2) 26).one (.slice A3 zs.length c3) 26).one (.slice A4 us.length c4) 26)
    simp only [World.size_alloc] at hK
    generalize hgW : (((w.alloc (.cells #[.slice A1 xs.length c1] 26)).alloc (.cells #[.slice A2 ys.length c2] 26)).alloc (.cells #[.slice A3 zs.length c3] 26)).alloc (.cells #[.slice A4 us.length c4] 26) = W0 at *
    clear K hgW
    have K := Lib.hid hK
    clear hK
    have q1 := (K.out.cells (⟨w.heap.size, 0, none⟩, .slice A1 xs.length c1) (List.mem_of_getElem? (i := 3) rfl)).2
    go_wp2_with (first
      | (go_at_call 16; have _t := K5; clear _t; refine (sanity_any _).mono ?_; rintro e y9 ⟨rfl, hb⟩; have K8 := Lib.hid (And.intro (K5.out.1.ext hb) (trivial)); clear hb)
      | (go_at_call 20; have _t := K2; clear _t; refine (few_any A2 c2 ys _ M2.out).mono ?_; rw [F1.out]; rintro e y6 ⟨rfl, hb⟩; have K5 := Lib.hid (And.intro (K2.out.1.ext hb) (trivial)); have q7 := (K5.out.1.cells (⟨w.heap.size + 1 + 1, 0, none⟩, .slice A3 zs.length c3) (List.mem_of_getElem? (i := 1) rfl)).2; clear hb)
      | (go_at_call 20; refine (few_any A1 c1 xs _ M1.out).mono ?_; rw [F0.out]; rintro e y3 ⟨rfl, hb⟩; have K2 := Lib.hid (And.intro (K.out.ext hb) (trivial)); have q4 := (K2.out.1.cells (⟨w.heap.size + 1, 0, none⟩, .slice A2 ys.length c2) (List.mem_of_getElem? (i := 2) rfl)).2; clear hb))
    go_ret
    exact ⟨rfl, K8.out.1.bl⟩
  | true =>
  have F1 := Lib.hid hf1
  clear hf1
  cases hf2 : fewB zs with
  | false =>
    have F2 := Lib.hid hf2
    clear hf2
    go_enter Try.func13, Try.ntmps13
    go_upto_region 1 with fail
    have hK := ((((K.out.one (.slice A1 xs.length c1) 26).one (.slice A2 ys.length c2) 26).one (.slice A3 zs.length c3) 26).one (.slice A4 us.length c4) 26)
    simp only [World.size_alloc] at hK
    generalize hgW : (((w.alloc (.cells #[.slice A1 xs.length c1] 26)).alloc (.cells #[.slice A2 ys.length c2] 26)).alloc (.cells #[.slice A3 zs.length c3] 26)).alloc (.cells #[.slice A4 us.length c4] 26) = W0 at *
    clear K hgW
    have K := Lib.hid hK
    clear hK
    have q1 := (K.out.cells (⟨w.heap.size, 0, none⟩, .slice A1 xs.length c1) (List.mem_of_getElem? (i := 3) rfl)).2
    go_wp2_with (first
      | (go_at_call 16; have _t := K8; clear _t; refine (sanity_any _).mono ?_; rintro e y12 ⟨rfl, hb⟩; have K11 := Lib.hid (And.intro (K8.out.1.ext hb) (trivial)); clear hb)
      | (go_at_call 20; have _t := K5; clear _t; refine (few_any A3 c3 zs _ M3.out).mono ?_; rw [F2.out]; rintro e y9 ⟨rfl, hb⟩; have K8 := Lib.hid (And.intro (K5.out.1.ext hb) (trivial)); have q10 := (K8.out.1.cells (⟨w.heap.size + 1 + 1 + 1, 0, none⟩, .slice A4 us.length c4) (List.mem_of_getElem? (i := 0) rfl)).2; clear hb)
      | (go_at_call 20; have _t := K2; clear _t; refine (few_any A2 c2 ys _ M2.out).mono ?_; rw [F1.out]; rintro e y6 ⟨rfl, hb⟩; have K5 := Lib.hid (And.intro (K2.out.1.ext hb) (trivial)); have q7 := (K5.out.1.cells (⟨w.heap.size + 1 + 1, 0, none⟩, .slice A3 zs.length c3) (List.mem_of_getElem? (i := 1) rfl)).2; clear hb)
      | (go_at_call 20; refine (few_any A1 c1 xs _ M1.out).mono ?_; rw [F0.out]; rintro e y3 ⟨rfl, hb⟩; have K2 := Lib.hid (And.intro (K.out.ext hb) (trivial)); have q4 := (K2.out.1.cells (⟨w.heap.size + 1, 0, none⟩, .slice A2 ys.length c2) (List.mem_of_getElem? (i := 2) rfl)).2; clear hb))
    go_ret
    exact ⟨rfl, K11.out.1.bl⟩
  | true =>
  have F2 := Lib.hid hf2
  clear hf2
  cases hf3 : fewB us with
  | false =>
    have F3 := Lib.hid hf3
    clear hf3
    go_enter Try.func13, Try.ntmps13
    go_upto_region 1 with fail
    have hK := ((((K.out.one (.slice A1 xs.length c1) 26).one (.slice A2 ys.length c2) 26).one (.slice A3 zs.length c3) 26).one (.slice A4 us.length c4) 26)
    simp only [World.size_alloc] at hK
    generalize hgW : (((w.alloc (.cells #[.slice A1 xs.length c1] 26)).alloc (.cells #[.slice A2 ys.length c2] 26)).alloc (.cells #[.slice A3 zs.length c3] 26)).alloc (.cells #[.slice A4 us.length c4] 26) = W0 at *
    clear K hgW
    have K := Lib.hid hK
    clear hK
    have q1 := (K.out.cells (⟨w.heap.size, 0, none⟩, .slice A1 xs.length c1) (List.mem_of_getElem? (i := 3) rfl)).2
    go_wp2_with (first
      | (go_at_call 16; have _t := K11; clear _t; refine (sanity_any _).mono ?_; rintro e y14 ⟨rfl, hb⟩; have K13 := Lib.hid (And.intro (K11.out.1.ext hb) (trivial)); clear hb)
      | (go_at_call 20; have _t := K8; clear _t; refine (few_any A4 c4 us _ M4.out).mono ?_; rw [F3.out]; rintro e y12 ⟨rfl, hb⟩; have K11 := Lib.hid (And.intro (K8.out.1.ext hb) (trivial)); clear hb)
      | (go_at_call 20; have _t := K5; clear _t; refine (few_any A3 c3 zs _ M3.out).mono ?_; rw [F2.out]; rintro e y9 ⟨rfl, hb⟩; have K8 := Lib.hid (And.intro (K5.out.1.ext hb) (trivial)); have q10 := (K8.out.1.cells (⟨w.heap.size + 1 + 1 + 1, 0, none⟩, .slice A4 us.length c4) (List.mem_of_getElem? (i := 0) rfl)).2; clear hb)
      | (go_at_call 20; have _t := K2; clear _t; refine (few_any A2 c2 ys _ M2.out).mono ?_; rw [F1.out]; rintro e y6 ⟨rfl, hb⟩; have K5 := Lib.hid (And.intro (K2.out.1.ext hb) (trivial)); have q7 := (K5.out.1.cells (⟨w.heap.size + 1 + 1, 0, none⟩, .slice A3 zs.length c3) (List.mem_of_getElem? (i := 1) rfl)).2; clear hb)
      | (go_at_call 20; refine (few_any A1 c1 xs _ M1.out).mono ?_; rw [F0.out]; rintro e y3 ⟨rfl, hb⟩; have K2 := Lib.hid (And.intro (K.out.ext hb) (trivial)); have q4 := (K2.out.1.cells (⟨w.heap.size + 1, 0, none⟩, .slice A2 ys.length c2) (List.mem_of_getElem? (i := 2) rfl)).2; clear hb))
    go_ret
    exact ⟨rfl, K13.out.1.bl⟩
  | true =>
  have F3 := Lib.hid hf3
  clear hf3
  have hB := fun W r1 r2 => Backlog_any A3 A4 c3 c4 zs us W r1 r2 M3.out M4.out
  have hD := fun W r1 r2 => Delay_any A3 A4 c3 c4 zs us W r1 r2 M3.out M4.out
  have hH := fun W r1 r2 => Behind_any A3 A4 c3 c4 zs us W r1 r2 M3.out M4.out
  cases ho : ok2 zs us
  case false =>
    simp only [ho, pick_f, pickI_f, errB_f, Bool.false_eq_true, if_false] at hB hD hH
    have HB := Lib.hid hB
    have HD := Lib.hid hD
    have HH := Lib.hid hH
    clear hB hD hH ho
    go_enter Try.func13, Try.ntmps13
    go_upto_region 1 with fail
    have hK := ((((K.out.one (.slice A1 xs.length c1) 26).one (.slice A2 ys.length c2) 26).one (.slice A3 zs.length c3) 26).one (.slice A4 us.length c4) 26)
    simp only [World.size_alloc] at hK
    generalize hgW : (((w.alloc (.cells #[.slice A1 xs.length c1] 26)).alloc (.cells #[.slice A2 ys.length c2] 26)).alloc (.cells #[.slice A3 zs.length c3] 26)).alloc (.cells #[.slice A4 us.length c4] 26) = W0 at *
    clear K hgW
    have K := Lib.hid hK
    clear hK
    have q1 := (K.out.cells (⟨w.heap.size, 0, none⟩, .slice A1 xs.length c1) (List.mem_of_getElem? (i := 3) rfl)).2
    go_upto_region 3 with (first
      | (go_at_call 20; have _t := K8; clear _t; refine (few_any A4 c4 us _ M4.out).mono ?_; rw [F3.out]; rintro e y12 ⟨rfl, hb⟩; have K11 := Lib.hid (And.intro (K8.out.1.ext hb) (trivial)); clear hb)
      | (go_at_call 20; have _t := K5; clear _t; refine (few_any A3 c3 zs _ M3.out).mono ?_; rw [F2.out]; rintro e y9 ⟨rfl, hb⟩; have K8 := Lib.hid (And.intro (K5.out.1.ext hb) (trivial)); have q10 := (K8.out.1.cells (⟨w.heap.size + 1 + 1 + 1, 0, none⟩, .slice A4 us.length c4) (List.mem_of_getElem? (i := 0) rfl)).2; clear hb)
      | (go_at_call 20; have _t := K2; clear _t; refine (few_any A2 c2 ys _ M2.out).mono ?_; rw [F1.out]; rintro e y6 ⟨rfl, hb⟩; have K5 := Lib.hid (And.intro (K2.out.1.ext hb) (trivial)); have q7 := (K5.out.1.cells (⟨w.heap.size + 1 + 1, 0, none⟩, .slice A3 zs.length c3) (List.mem_of_getElem? (i := 1) rfl)).2; clear hb)
      | (go_at_call 20; refine (few_any A1 c1 xs _ M1.out).mono ?_; rw [F0.out]; rintro e y3 ⟨rfl, hb⟩; have K2 := Lib.hid (And.intro (K.out.ext hb) (trivial)); have q4 := (K2.out.1.cells (⟨w.heap.size + 1, 0, none⟩, .slice A2 ys.length c2) (List.mem_of_getElem? (i := 2) rfl)).2; clear hb))
    have hK := K11.out.1
    generalize hgW : y12 = W1 at *
    clear K hgW
    have K := Lib.hid hK
    clear hK
    have q13 := (K.out.cells (⟨w.heap.size + 1 + 1, 0, none⟩, .slice A3 zs.length c3) (List.mem_of_getElem? (i := 1) rfl)).2
    have q14 := (K.out.cells (⟨w.heap.size + 1 + 1 + 1, 0, none⟩, .slice A4 us.length c4) (List.mem_of_getElem? (i := 0) rfl)).2
    go_upto_region 4 with (go_at_call 29; refine (HB.out _ (K.out.rds (A3, zs) (List.mem_of_getElem? (i := 1) rfl)) (K.out.rds (A4, us) (List.mem_of_getElem? (i := 0) rfl))).mono ?_; rintro e y16 ⟨A10, c10, B10, b10, rfl, hr, hr', hf, hf', hb⟩; have K15 := Lib.hid (And.intro (K.out.ext hb) (And.intro hr hr')); clear hr hr' hf hf' hb)
    have hK := ((K15.out.1.addRd K15.out.2.1).addRd K15.out.2.2).three (.slice A10 ([] : List Int).length c10) (.slice B10 ([] : List Int).length b10) (.int .i64 0) 45
    generalize hgW : y16.alloc (.cells #[.slice A10 ([] : List Int).length c10, .slice B10 ([] : List Int).length b10, .int .i64 0] 45) = W10 at *
    generalize hgg : y16.heap.size = g10 at *
    clear K K15 q13 q14 hgW hgg
    have K := Lib.hid hK
    clear hK
    have q17 := (K.out.cells (⟨w.heap.size + 1 + 1, 0, none⟩, .slice A3 zs.length c3) (List.mem_of_getElem? (i := 4) rfl)).2
    have q18 := (K.out.cells (⟨w.heap.size + 1 + 1 + 1, 0, none⟩, .slice A4 us.length c4) (List.mem_of_getElem? (i := 3) rfl)).2
    go_upto_region 5 with (go_at_call 30; refine (HD.out _ (K.out.rds (A3, zs) (List.mem_of_getElem? (i := 3) rfl)) (K.out.rds (A4, us) (List.mem_of_getElem? (i := 2) rfl))).mono ?_; rintro e y20 ⟨rfl, hb⟩; have K19 := Lib.hid (K.out.ext hb); clear hb)
    clear K q17 q18
    have K := K19
    clear K19
    have q21 := (K.out.cells (⟨w.heap.size + 1 + 1, 0, none⟩, .slice A3 zs.length c3) (List.mem_of_getElem? (i := 4) rfl)).2
    have q22 := (K.out.cells (⟨w.heap.size + 1 + 1 + 1, 0, none⟩, .slice A4 us.length c4) (List.mem_of_getElem? (i := 3) rfl)).2
    go_upto_region 6 with (go_at_call 40; refine (HH.out _ (K.out.rds (A3, zs) (List.mem_of_getElem? (i := 3) rfl)) (K.out.rds (A4, us) (List.mem_of_getElem? (i := 2) rfl))).mono ?_; rintro e y24 ⟨A14, c14, rfl, hr, hf, hb⟩; have K23 := Lib.hid (And.intro (K.out.ext hb) hr); clear hr hf hb)
    have hK := K23.out.1.box (A := A14) (c := c14) K23.out.2
    generalize hgW : y24.alloc (.cells #[.slice A14 ([] : List Int).length c14] 26) = W14 at *
    generalize hgg : y24.heap.size = g14 at *
    clear K K23 q21 q22 hgW hgg
    have K := Lib.hid hK
    clear hK
    go_wp2_with (go_at_call 16; refine (sanity_any _).mono ?_; rintro e y26 ⟨rfl, hb⟩; have K25 := Lib.hid (And.intro (K.out.ext hb) (trivial)); clear hb)
    go_ret
    exact ⟨rfl, K25.out.1.bl⟩
  case true =>
    clear hB hD hH
    obtain ⟨vz, vu, hu⟩ := ok2_iff.1 ho
    have HB := Lib.hid (fun W r1 r2 => Backlog_yes (A1 := A3) (A2 := A4) (c1 := c3) (c2 := c4) ho W r1 r2 M3.out M4.out)
    have HD := Lib.hid (fun W r1 r2 => Delay_yes (A1 := A3) (A2 := A4) (c1 := c3) (c2 := c4) ho W r1 r2 M3.out M4.out)
    have HH := Lib.hid (fun W r1 r2 => Behind_yes (A1 := A3) (A2 := A4) (c1 := c3) (c2 := c4) ho W r1 r2 M3.out M4.out)
    have HC := Lib.hid (fun A B c b W r1 r2 r3 r4 => fcheckB_any A3 A4 A B c3 c4 c b zs us (closedL zs) (backOut zs us) (backTop zs us).2 ((backTop zs us).1 : Nat) W r1 r2 r3 r4 M3.out M4.out (by rw [closedL_length]; exact M3.out) (by unfold backOut; rw [leastL_length, closedL_length]; exact M3.out))
    rw [back_shown vz vu hu] at HC
    have HS := Lib.hid (fun A B c b W r1 r2 => Stored_any A B c b (closedL zs) (backOut zs us) W r1 r2 (by rw [closedL_length]; exact M3.out) (by unfold backOut; rw [leastL_length, closedL_length]; exact M3.out))
    obtain ⟨s1, s2, s3⟩ := surge_stored vz vu hu
    rw [if_pos s1, if_pos s1, s1, s2, s3] at HS
    have HO := Lib.hid (fun W r1 r2 => Obeys_any A1 A3 c1 c3 xs zs W r1 r2 M1.out M3.out)
    have HV := Lib.hid (fun W r1 r2 r3 => Served_any A1 A2 A4 c1 c2 c4 xs ys us W r1 r2 r3 M1.out M2.out M4.out)
    have HX := Lib.hid (fun h1 h2 h3 h4 => Holds_all (xs := xs) (ys := ys) ho h1 h2 h3 h4 M1.out M2.out M3.out)
    have hl1 : decide (delayI zs us < 0) = false ∧ decide ((zs.length : Int) < delayI zs us) = false := by
      obtain ⟨W, e, h, _, _⟩ := waitI_spec (closedL zs) us
      unfold delayI
      rw [closedL_length] at h
      rw [e]
      constructor <;> (rw [decide_eq_false_iff_not]; omega)
    obtain ⟨hl1, hl2⟩ := hl1
    clear vz vu hu s1 s2 s3 ho
    generalize delayI zs us = D at *
    generalize behindL zs us = Bh at *
    generalize closedL zs = C at *
    generalize backOut zs us = O at *
    generalize backTop zs us = T at *
    obtain ⟨P, N⟩ := T
    dsimp only at HB HC HS HX
    generalize pickI (ok2 xs zs) (brkLo (brk xs zs)) = lo1 at *
    generalize pickI (ok2 xs zs) (brkHi (brk xs zs)) = hi1 at *
    generalize (ok2 xs zs && obeysB xs zs) = B1 at *
    generalize errB (ok2 xs zs) = E1 at *
    generalize servedN xs ys us = n1 at *
    generalize servedB xs ys us = B2 at *
    generalize errB (ok3 xs ys us) = E2 at *
    go_enter Try.func13, Try.ntmps13
    go_upto_region 1 with fail
    have hK := ((((K.out.one (.slice A1 xs.length c1) 26).one (.slice A2 ys.length c2) 26).one (.slice A3 zs.length c3) 26).one (.slice A4 us.length c4) 26)
    simp only [World.size_alloc] at hK
    generalize hgW : (((w.alloc (.cells #[.slice A1 xs.length c1] 26)).alloc (.cells #[.slice A2 ys.length c2] 26)).alloc (.cells #[.slice A3 zs.length c3] 26)).alloc (.cells #[.slice A4 us.length c4] 26) = W0 at *
    clear K hgW
    have K := Lib.hid hK
    clear hK
    have q1 := (K.out.cells (⟨w.heap.size, 0, none⟩, .slice A1 xs.length c1) (List.mem_of_getElem? (i := 3) rfl)).2
    go_upto_region 3 with (first
      | (go_at_call 20; have _t := K8; clear _t; refine (few_any A4 c4 us _ M4.out).mono ?_; rw [F3.out]; rintro e y12 ⟨rfl, hb⟩; have K11 := Lib.hid (And.intro (K8.out.1.ext hb) (trivial)); clear hb)
      | (go_at_call 20; have _t := K5; clear _t; refine (few_any A3 c3 zs _ M3.out).mono ?_; rw [F2.out]; rintro e y9 ⟨rfl, hb⟩; have K8 := Lib.hid (And.intro (K5.out.1.ext hb) (trivial)); have q10 := (K8.out.1.cells (⟨w.heap.size + 1 + 1 + 1, 0, none⟩, .slice A4 us.length c4) (List.mem_of_getElem? (i := 0) rfl)).2; clear hb)
      | (go_at_call 20; have _t := K2; clear _t; refine (few_any A2 c2 ys _ M2.out).mono ?_; rw [F1.out]; rintro e y6 ⟨rfl, hb⟩; have K5 := Lib.hid (And.intro (K2.out.1.ext hb) (trivial)); have q7 := (K5.out.1.cells (⟨w.heap.size + 1 + 1, 0, none⟩, .slice A3 zs.length c3) (List.mem_of_getElem? (i := 1) rfl)).2; clear hb)
      | (go_at_call 20; refine (few_any A1 c1 xs _ M1.out).mono ?_; rw [F0.out]; rintro e y3 ⟨rfl, hb⟩; have K2 := Lib.hid (And.intro (K.out.ext hb) (trivial)); have q4 := (K2.out.1.cells (⟨w.heap.size + 1, 0, none⟩, .slice A2 ys.length c2) (List.mem_of_getElem? (i := 2) rfl)).2; clear hb))
    have hK := K11.out.1
    generalize hgW : y12 = W1 at *
    clear K hgW
    have K := Lib.hid hK
    clear hK
    have q13 := (K.out.cells (⟨w.heap.size + 1 + 1, 0, none⟩, .slice A3 zs.length c3) (List.mem_of_getElem? (i := 1) rfl)).2
    have q14 := (K.out.cells (⟨w.heap.size + 1 + 1 + 1, 0, none⟩, .slice A4 us.length c4) (List.mem_of_getElem? (i := 0) rfl)).2
    go_upto_region 4 with (go_at_call 29; refine (HB.out _ (K.out.rds (A3, zs) (List.mem_of_getElem? (i := 1) rfl)) (K.out.rds (A4, us) (List.mem_of_getElem? (i := 0) rfl))).mono ?_; rintro e y16 ⟨A10, c10, B10, b10, rfl, hr, hr', hf, hf', hb⟩; have K15 := Lib.hid (And.intro (K.out.ext hb) (And.intro hr hr')); clear hr hr' hf hf' hb)
    have hK := ((K15.out.1.addRd K15.out.2.1).addRd K15.out.2.2).three (.slice A10 C.length c10) (.slice B10 O.length b10) (.int .i64 P) 45
    generalize hgW : y16.alloc (.cells #[.slice A10 C.length c10, .slice B10 O.length b10, .int .i64 P] 45) = W10 at *
    generalize hgg : y16.heap.size = g10 at *
    clear K K15 q13 q14 hgW hgg
    have K := Lib.hid hK
    clear hK
    have q17 := (K.out.cells (⟨w.heap.size + 1 + 1, 0, none⟩, .slice A3 zs.length c3) (List.mem_of_getElem? (i := 4) rfl)).2
    have q18 := (K.out.cells (⟨w.heap.size + 1 + 1 + 1, 0, none⟩, .slice A4 us.length c4) (List.mem_of_getElem? (i := 3) rfl)).2
    go_upto_region 5 with (go_at_call 30; refine (HD.out _ (K.out.rds (A3, zs) (List.mem_of_getElem? (i := 3) rfl)) (K.out.rds (A4, us) (List.mem_of_getElem? (i := 2) rfl))).mono ?_; rintro e y20 ⟨rfl, hb⟩; have K19 := Lib.hid (K.out.ext hb); clear hb)
    clear K q17 q18
    have K := K19
    clear K19
    have q21 := (K.out.cells (⟨w.heap.size + 1 + 1, 0, none⟩, .slice A3 zs.length c3) (List.mem_of_getElem? (i := 4) rfl)).2
    have q22 := (K.out.cells (⟨w.heap.size + 1 + 1 + 1, 0, none⟩, .slice A4 us.length c4) (List.mem_of_getElem? (i := 3) rfl)).2
    go_upto_region 6 with (go_at_call 40; refine (HH.out _ (K.out.rds (A3, zs) (List.mem_of_getElem? (i := 3) rfl)) (K.out.rds (A4, us) (List.mem_of_getElem? (i := 2) rfl))).mono ?_; rintro e y24 ⟨A14, c14, rfl, hr, hf, hb⟩; have K23 := Lib.hid (And.intro (K.out.ext hb) hr); clear hr hf hb)
    have hK := K23.out.1.box (A := A14) (c := c14) K23.out.2
    generalize hgW : y24.alloc (.cells #[.slice A14 Bh.length c14] 26) = W14 at *
    generalize hgg : y24.heap.size = g14 at *
    clear K K23 q21 q22 hgW hgg
    have K := Lib.hid hK
    clear hK
    have q25 := (K.out.cells (⟨g10, 0, none⟩, .slice A10 C.length c10) (List.mem_of_getElem? (i := 1) rfl)).2
    have q26 := (K.out.cells (⟨g10, 1, none⟩, .slice B10 O.length b10) (List.mem_of_getElem? (i := 2) rfl)).2
    go_upto_region 9 with (go_at_call 43; refine (HS.out A10 B10 c10 b10 _ (K.out.rds (A10, C) (List.mem_of_getElem? (i := 2) rfl)) (K.out.rds (B10, O) (List.mem_of_getElem? (i := 1) rfl))).mono ?_; rintro e y28 ⟨rfl, hb⟩; have K27 := Lib.hid (K.out.ext hb); clear hb)
    clear K q25 q26
    have K := K27
    clear K27
    have q29 := (K.out.cells (⟨w.heap.size + 1 + 1, 0, none⟩, .slice A3 zs.length c3) (List.mem_of_getElem? (i := 5) rfl)).2
    have q30 := (K.out.cells (⟨w.heap.size + 1 + 1 + 1, 0, none⟩, .slice A4 us.length c4) (List.mem_of_getElem? (i := 4) rfl)).2
    have q31 := (K.out.cells (⟨g10, 0, none⟩, .slice A10 C.length c10) (List.mem_of_getElem? (i := 1) rfl)).2
    have q32 := (K.out.cells (⟨g10, 1, none⟩, .slice B10 O.length b10) (List.mem_of_getElem? (i := 2) rfl)).2
    have q33 := (K.out.cells (⟨g10, 2, none⟩, .int .i64 P) (List.mem_of_getElem? (i := 3) rfl)).2
    go_upto_region 11 with (go_at_call 35; refine (HC.out A10 B10 c10 b10 _ (K.out.rds (A3, zs) (List.mem_of_getElem? (i := 4) rfl)) (K.out.rds (A4, us) (List.mem_of_getElem? (i := 3) rfl)) (K.out.rds (A10, C) (List.mem_of_getElem? (i := 2) rfl)) (K.out.rds (B10, O) (List.mem_of_getElem? (i := 1) rfl))).mono ?_; rintro e y35 ⟨rfl, hb⟩; have K34 := Lib.hid (K.out.ext hb); clear hb; have q90 := (K34.out.cells (⟨g10, 2, none⟩, .int .i64 P) (List.mem_of_getElem? (i := 3) rfl)).2; have q91 := (K34.out.cells (⟨w.heap.size + 1 + 1, 0, none⟩, .slice A3 zs.length c3) (List.mem_of_getElem? (i := 5) rfl)).2)
    clear K q29 q30 q31 q32 q33 q90 q91
    have K := K34
    clear K34
    have q36 := (K.out.cells (⟨w.heap.size, 0, none⟩, .slice A1 xs.length c1) (List.mem_of_getElem? (i := 7) rfl)).2
    have q37 := (K.out.cells (⟨w.heap.size + 1 + 1, 0, none⟩, .slice A3 zs.length c3) (List.mem_of_getElem? (i := 5) rfl)).2
    go_upto_region 12 with (go_at_call 57; refine (HO.out _ (K.out.rds (A1, xs) (List.mem_of_getElem? (i := 6) rfl)) (K.out.rds (A3, zs) (List.mem_of_getElem? (i := 4) rfl))).mono ?_; rintro e y39 ⟨rfl, hb⟩; have K38 := Lib.hid (K.out.ext hb); clear hb)
    have hK := K38.out.two (.int .i64 lo1) (.int .i64 hi1) 73
    generalize hgW : y39.alloc (.cells #[.int .i64 lo1, .int .i64 hi1] 73) = W19 at *
    generalize hgg : y39.heap.size = g19 at *
    clear K K38 q36 q37 hgW hgg
    have K := Lib.hid hK
    clear hK
    have q40 := (K.out.cells (⟨w.heap.size, 0, none⟩, .slice A1 xs.length c1) (List.mem_of_getElem? (i := 9) rfl)).2
    have q41 := (K.out.cells (⟨w.heap.size + 1, 0, none⟩, .slice A2 ys.length c2) (List.mem_of_getElem? (i := 8) rfl)).2
    have q42 := (K.out.cells (⟨w.heap.size + 1 + 1 + 1, 0, none⟩, .slice A4 us.length c4) (List.mem_of_getElem? (i := 6) rfl)).2
    go_upto_region 13 with (go_at_call 36; refine (HV.out _ (K.out.rds (A1, xs) (List.mem_of_getElem? (i := 6) rfl)) (K.out.rds (A2, ys) (List.mem_of_getElem? (i := 5) rfl)) (K.out.rds (A4, us) (List.mem_of_getElem? (i := 3) rfl))).mono ?_; rintro e y44 ⟨rfl, hb⟩; have K43 := Lib.hid (K.out.ext hb); clear hb)
    clear K q40 q41 q42
    have K := K43
    clear K43
    by_cases h1 : E1 = 0
    rotate_left
    · have hne : (E1 != 0) = true := by simpa using h1
      go_wp2_with (go_at_call 16; refine (sanity_any _).mono ?_; rintro e y46 ⟨rfl, hb⟩; have K45 := Lib.hid (And.intro (K.out.ext hb) (trivial)); clear hb)
      go_ret
      exact ⟨rfl, K45.out.1.bl⟩
    subst h1
    by_cases h2 : E2 = 0
    rotate_left
    · have hne : (E2 != 0) = true := by simpa using h2
      go_wp2_with (go_at_call 16; refine (sanity_any _).mono ?_; rintro e y46 ⟨rfl, hb⟩; have K45 := Lib.hid (And.intro (K.out.ext hb) (trivial)); clear hb)
      go_ret
      exact ⟨rfl, K45.out.1.bl⟩
    subst h2
    cases B1
    · skip
      go_wp2_with (go_at_call 16; refine (sanity_any _).mono ?_; rintro e y46 ⟨rfl, hb⟩; have K45 := Lib.hid (And.intro (K.out.ext hb) (trivial)); clear hb)
      go_ret
      exact ⟨rfl, K45.out.1.bl⟩
    cases B2
    · skip
      go_wp2_with (go_at_call 16; refine (sanity_any _).mono ?_; rintro e y46 ⟨rfl, hb⟩; have K45 := Lib.hid (And.intro (K.out.ext hb) (trivial)); clear hb)
      go_ret
      exact ⟨rfl, K45.out.1.bl⟩
    obtain ⟨m, p, q, lo, hi, z1, z2, z3, z4, z5⟩ := HX.out rfl rfl rfl rfl
    have Z3 := Lib.hid z3
    have Z4 := Lib.hid z4
    have Z5 := Lib.hid z5
    clear HX z3 z4 z5 hl1 hl2
    go_upto_region 15 with fail
    have q45 := (K.out.cells (⟨w.heap.size, 0, none⟩, .slice A1 xs.length c1) (List.mem_of_getElem? (i := 9) rfl)).2
    have q46 := (K.out.cells (⟨w.heap.size + 1, 0, none⟩, .slice A2 ys.length c2) (List.mem_of_getElem? (i := 8) rfl)).2
    go_upto_region 16 with (go_at_call 43; refine (Z3.out A1 A2 c1 c2 _ (K.out.rds (A1, xs) (List.mem_of_getElem? (i := 6) rfl)) (K.out.rds (A2, ys) (List.mem_of_getElem? (i := 5) rfl))).mono ?_; rintro e y48 ⟨rfl, hb⟩; have K47 := Lib.hid (K.out.ext hb); clear hb)
    clear K q45 q46
    have K := K47
    clear K47
    have q49 := (K.out.cells (⟨w.heap.size, 0, none⟩, .slice A1 xs.length c1) (List.mem_of_getElem? (i := 9) rfl)).2
    have q50 := (K.out.cells (⟨w.heap.size + 1, 0, none⟩, .slice A2 ys.length c2) (List.mem_of_getElem? (i := 8) rfl)).2
    go_upto_region 17 with (go_at_call 45; refine (Z4.out A1 A2 c1 c2 _ (K.out.rds (A1, xs) (List.mem_of_getElem? (i := 6) rfl)) (K.out.rds (A2, ys) (List.mem_of_getElem? (i := 5) rfl))).mono ?_; rintro e y52 ⟨rfl, hb⟩; have K51 := Lib.hid (K.out.ext hb); clear hb)
    clear K q49 q50
    have K := K51
    clear K51
    have q53 := (K.out.cells (⟨w.heap.size + 1, 0, none⟩, .slice A2 ys.length c2) (List.mem_of_getElem? (i := 8) rfl)).2
    have q54 := (K.out.cells (⟨g14, 0, none⟩, .slice A14 Bh.length c14) (List.mem_of_getElem? (i := 2) rfl)).2
    go_upto_region 18 with (go_at_call 57; refine (Z5.out A2 A14 c2 c14 _ (K.out.rds (A2, ys) (List.mem_of_getElem? (i := 5) rfl)) (K.out.rds (A14, Bh) (List.mem_of_getElem? (i := 0) rfl))).mono ?_; rintro e y56 ⟨rfl, hb⟩; have K55 := Lib.hid (K.out.ext hb); clear hb)
    have hK := K55.out.two (.int .i64 lo) (.int .i64 hi) 73
    generalize hgW : y56.alloc (.cells #[.int .i64 lo, .int .i64 hi] 73) = W30 at *
    generalize hgg : y56.heap.size = g30 at *
    clear K K55 q53 q54 hgW hgg
    have K := Lib.hid hK
    clear hK
    go_wp2_with (go_at_call 16; refine (sanity_any _).mono ?_; rintro e y58 ⟨rfl, hb⟩; have K57 := Lib.hid (And.intro (K.out.ext hb) (trivial)); clear hb)
    go_ret
    exact ⟨rfl, K57.out.1.bl⟩
end Go.Proofs.Ytknkneccnhgjmaa
