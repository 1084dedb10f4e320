/- Walk: the law FloodBounds. -/
import Derived.Test.YtknkneccnhgjmaaP5
import Derived.Test.YtknkneccnhgjmaaL7
namespace Go.Proofs.Ytknkneccnhgjmaa
open Go.RowKit Go.Shelf

set_option maxRecDepth 100000 in
set_option maxHeartbeats 8000000 in
theorem FloodBounds_row (w : World) (A1 : Option Addr) (c1 : Nat) (xs : List Int) (r1 : Rd w w.heap.size A1 xs) (m1 : xs.length ≤ maxLen) (A2 : Option Addr) (c2 : Nat) (ys : List Int) (r2 : Rd w w.heap.size A2 ys) (m2 : ys.length ≤ maxLen) (n : Int) (_ : (Lit.int .i64 n).wf = true)
    (A3 : Option Addr) (c3 : Nat) (zs : List Int) (A4 : Option Addr) (c4 : Nat) (us : List Int) (p : Int) (r3 : Rd w w.heap.size A3 zs) (m3 : zs.length ≤ maxLen) (r4 : Rd w w.heap.size A4 us) (m4 : us.length ≤ maxLen) :
    Calls Try.prog 8 #[.agg #[.slice A1 xs.length c1], .agg #[.slice A2 ys.length c2], .int .i64 n, .agg #[.slice A3 zs.length c3, .slice A4 us.length c4, .int .i64 p]] w fun e w' => e = .returned (.bool true) ∧ Below w.heap.size w w' := by
  have hK : Ex w w [] [] := ⟨Below.refl _ _, fun p hp => (by cases hp), fun p hp => (by cases hp)⟩
  have K := Lib.hid ((((hK.addRd r1).addRd r2).addRd r3).addRd r4)
  have M1 := Lib.hid m1
  have M2 := Lib.hid m2
  have M3 := Lib.hid m3
  have M4 := Lib.hid m4
  clear hK r1 r2 r3 r4 m1 m2 m3 m4
  cases hf0 : fewB xs with
  | false =>
    have F0 := Lib.hid hf0
    clear hf0
    go_enter Try.func8, Try.ntmps8
    go_upto_region 1 with fail
    have hK := (((K.out.one (.slice A1 xs.length c1) 26).one (.slice A2 ys.length c2) 26).three (.slice A3 zs.length c3) (.slice A4 us.length c4) (.int .i64 p) 45)
    simp only [World.size_alloc] at hK
    generalize hgW : ((w.alloc (.cells #[.slice A1 xs.length c1] 26)).alloc (.cells #[.slice A2 ys.length c2] 26)).alloc (.cells #[.slice A3 zs.length c3, .slice A4 us.length c4, .int .i64 p] 45) = W0 at *
    clear K hgW
    have K := Lib.hid hK
    clear hK
    have q1 := (K.out.cells (⟨w.heap.size, 0, none⟩, .slice A1 xs.length c1) (List.mem_of_getElem? (i := 4) rfl)).2
    go_wp2_with (first
      | (go_at_call 16; have _t := K2; clear _t; refine (sanity_any _).mono ?_; rintro e y6 ⟨rfl, hb⟩; have K5 := Lib.hid (And.intro (K2.out.1.ext hb) (trivial)); clear hb)
      | (go_at_call 20; refine (few_any A1 c1 xs _ M1.out).mono ?_; rw [F0.out]; rintro e y3 ⟨rfl, hb⟩; have K2 := Lib.hid (And.intro (K.out.ext hb) (trivial)); have q4 := (K2.out.1.cells (⟨w.heap.size + 1, 0, none⟩, .slice A2 ys.length c2) (List.mem_of_getElem? (i := 3) rfl)).2; clear hb))
    go_ret
    exact ⟨rfl, K5.out.1.bl⟩
  | true =>
  have F0 := Lib.hid hf0
  clear hf0
  cases hf1 : fewB ys with
  | false =>
    have F1 := Lib.hid hf1
    clear hf1
    go_enter Try.func8, Try.ntmps8
    go_upto_region 1 with fail
    have hK := (((K.out.one (.slice A1 xs.length c1) 26).one (.slice A2 ys.length c2) 26).three (.slice A3 zs.length c3) (.slice A4 us.length c4) (.int .i64 p) 45)
    simp only [World.size_alloc] at hK
    generalize hgW : ((w.alloc (.cells #[.slice A1 xs.length c1] 26)).alloc (.cells #[.slice A2 ys.length c2] 26)).alloc (.cells #[.slice A3 zs.length c3, .slice A4 us.length c4, .int .i64 p] 45) = W0 at *
    clear K hgW
    have K := Lib.hid hK
    clear hK
    have q1 := (K.out.cells (⟨w.heap.size, 0, none⟩, .slice A1 xs.length c1) (List.mem_of_getElem? (i := 4) rfl)).2
    go_wp2_with (first
      | (go_at_call 16; have _t := K5; clear _t; refine (sanity_any _).mono ?_; rintro e y9 ⟨rfl, hb⟩; have K8 := Lib.hid (And.intro (K5.out.1.ext hb) (trivial)); clear hb)
      | (go_at_call 20; have _t := K2; clear _t; refine (few_any A2 c2 ys _ M2.out).mono ?_; rw [F1.out]; rintro e y6 ⟨rfl, hb⟩; have K5 := Lib.hid (And.intro (K2.out.1.ext hb) (trivial)); have q7 := (K5.out.1.cells (⟨w.heap.size + 1 + 1, 0, none⟩, .slice A3 zs.length c3) (List.mem_of_getElem? (i := 0) rfl)).2; clear hb)
      | (go_at_call 20; refine (few_any A1 c1 xs _ M1.out).mono ?_; rw [F0.out]; rintro e y3 ⟨rfl, hb⟩; have K2 := Lib.hid (And.intro (K.out.ext hb) (trivial)); have q4 := (K2.out.1.cells (⟨w.heap.size + 1, 0, none⟩, .slice A2 ys.length c2) (List.mem_of_getElem? (i := 3) rfl)).2; clear hb))
    go_ret
    exact ⟨rfl, K8.out.1.bl⟩
  | true =>
  have F1 := Lib.hid hf1
  clear hf1
  cases hf2 : fewB zs with
  | false =>
    have F2 := Lib.hid hf2
    clear hf2
    go_enter Try.func8, Try.ntmps8
    go_upto_region 1 with fail
    have hK := (((K.out.one (.slice A1 xs.length c1) 26).one (.slice A2 ys.length c2) 26).three (.slice A3 zs.length c3) (.slice A4 us.length c4) (.int .i64 p) 45)
    simp only [World.size_alloc] at hK
    generalize hgW : ((w.alloc (.cells #[.slice A1 xs.length c1] 26)).alloc (.cells #[.slice A2 ys.length c2] 26)).alloc (.cells #[.slice A3 zs.length c3, .slice A4 us.length c4, .int .i64 p] 45) = W0 at *
    clear K hgW
    have K := Lib.hid hK
    clear hK
    have q1 := (K.out.cells (⟨w.heap.size, 0, none⟩, .slice A1 xs.length c1) (List.mem_of_getElem? (i := 4) rfl)).2
    go_wp2_with (first
      | (go_at_call 16; have _t := K8; clear _t; refine (sanity_any _).mono ?_; rintro e y12 ⟨rfl, hb⟩; have K11 := Lib.hid (And.intro (K8.out.1.ext hb) (trivial)); clear hb)
      | (go_at_call 20; have _t := K5; clear _t; refine (few_any A3 c3 zs _ M3.out).mono ?_; rw [F2.out]; rintro e y9 ⟨rfl, hb⟩; have K8 := Lib.hid (And.intro (K5.out.1.ext hb) (trivial)); have q10 := (K8.out.1.cells (⟨w.heap.size + 1 + 1, 1, none⟩, .slice A4 us.length c4) (List.mem_of_getElem? (i := 1) rfl)).2; clear hb)
      | (go_at_call 20; have _t := K2; clear _t; refine (few_any A2 c2 ys _ M2.out).mono ?_; rw [F1.out]; rintro e y6 ⟨rfl, hb⟩; have K5 := Lib.hid (And.intro (K2.out.1.ext hb) (trivial)); have q7 := (K5.out.1.cells (⟨w.heap.size + 1 + 1, 0, none⟩, .slice A3 zs.length c3) (List.mem_of_getElem? (i := 0) rfl)).2; clear hb)
      | (go_at_call 20; refine (few_any A1 c1 xs _ M1.out).mono ?_; rw [F0.out]; rintro e y3 ⟨rfl, hb⟩; have K2 := Lib.hid (And.intro (K.out.ext hb) (trivial)); have q4 := (K2.out.1.cells (⟨w.heap.size + 1, 0, none⟩, .slice A2 ys.length c2) (List.mem_of_getElem? (i := 3) rfl)).2; clear hb))
    go_ret
    exact ⟨rfl, K11.out.1.bl⟩
  | true =>
  have F2 := Lib.hid hf2
  clear hf2
  cases hf3 : fewB us with
  | false =>
    have F3 := Lib.hid hf3
    clear hf3
    go_enter Try.func8, Try.ntmps8
    go_upto_region 1 with fail
    have hK := (((K.out.one (.slice A1 xs.length c1) 26).one (.slice A2 ys.length c2) 26).three (.slice A3 zs.length c3) (.slice A4 us.length c4) (.int .i64 p) 45)
    simp only [World.size_alloc] at hK
    generalize hgW : ((w.alloc (.cells #[.slice A1 xs.length c1] 26)).alloc (.cells #[.slice A2 ys.length c2] 26)).alloc (.cells #[.slice A3 zs.length c3, .slice A4 us.length c4, .int .i64 p] 45) = W0 at *
    clear K hgW
    have K := Lib.hid hK
    clear hK
    have q1 := (K.out.cells (⟨w.heap.size, 0, none⟩, .slice A1 xs.length c1) (List.mem_of_getElem? (i := 4) rfl)).2
    go_wp2_with (first
      | (go_at_call 16; have _t := K11; clear _t; refine (sanity_any _).mono ?_; rintro e y14 ⟨rfl, hb⟩; have K13 := Lib.hid (And.intro (K11.out.1.ext hb) (trivial)); clear hb)
      | (go_at_call 20; have _t := K8; clear _t; refine (few_any A4 c4 us _ M4.out).mono ?_; rw [F3.out]; rintro e y12 ⟨rfl, hb⟩; have K11 := Lib.hid (And.intro (K8.out.1.ext hb) (trivial)); clear hb)
      | (go_at_call 20; have _t := K5; clear _t; refine (few_any A3 c3 zs _ M3.out).mono ?_; rw [F2.out]; rintro e y9 ⟨rfl, hb⟩; have K8 := Lib.hid (And.intro (K5.out.1.ext hb) (trivial)); have q10 := (K8.out.1.cells (⟨w.heap.size + 1 + 1, 1, none⟩, .slice A4 us.length c4) (List.mem_of_getElem? (i := 1) rfl)).2; clear hb)
      | (go_at_call 20; have _t := K2; clear _t; refine (few_any A2 c2 ys _ M2.out).mono ?_; rw [F1.out]; rintro e y6 ⟨rfl, hb⟩; have K5 := Lib.hid (And.intro (K2.out.1.ext hb) (trivial)); have q7 := (K5.out.1.cells (⟨w.heap.size + 1 + 1, 0, none⟩, .slice A3 zs.length c3) (List.mem_of_getElem? (i := 0) rfl)).2; clear hb)
      | (go_at_call 20; refine (few_any A1 c1 xs _ M1.out).mono ?_; rw [F0.out]; rintro e y3 ⟨rfl, hb⟩; have K2 := Lib.hid (And.intro (K.out.ext hb) (trivial)); have q4 := (K2.out.1.cells (⟨w.heap.size + 1, 0, none⟩, .slice A2 ys.length c2) (List.mem_of_getElem? (i := 3) rfl)).2; clear hb))
    go_ret
    exact ⟨rfl, K13.out.1.bl⟩
  | true =>
  have F3 := Lib.hid hf3
  clear hf3
  have HB5 := Lib.hid (fun W r1 r2 r3 r4 => fcheckB_any A1 A2 A3 A4 c1 c2 c3 c4 xs ys zs us n p W r1 r2 r3 r4 M1.out M2.out M3.out M4.out)
  have HB6 := Lib.hid (fun W r1 r2 r3 r4 => rcheckB_any A1 A2 A3 A4 c1 c2 c3 c4 xs ys zs us n p W r1 r2 r3 r4 M1.out M2.out M3.out M4.out)
  generalize cbE xs ys n zs us p = EE at *
  have hB1 := fun W r1 r2 => Backlog_any A1 A2 c1 c2 xs ys W r1 r2 M1.out M2.out
  have hB2 := fun W r1 r2 => rBacklog_any A1 A2 c1 c2 xs ys W r1 r2 M1.out M2.out
  have hD1 := fun W r1 r2 => Delay_any A1 A2 c1 c2 xs ys W r1 r2 M1.out M2.out
  have hD2 := fun W r1 r2 => rDelay_any A1 A2 c1 c2 xs ys W r1 r2 M1.out M2.out
  have hsh := fun (vL : Valid xs) (vS : Valid ys) (he : ys.length = xs.length) => back_shown vL vS he
  cases ho : ok2 xs ys
  case false =>
    simp only [ho, pick_f, pickI_f, errB_f, Bool.false_eq_true, if_false] at hB1 hB2 hD1 hD2
    have HB1 := Lib.hid hB1
    have HB2 := Lib.hid hB2
    have HD1 := Lib.hid hD1
    have HD2 := Lib.hid hD2
    clear hB1 hB2 hD1 hD2 ho hsh
    go_enter Try.func8, Try.ntmps8
    go_upto_region 1 with fail
    have hK := (((K.out.one (.slice A1 xs.length c1) 26).one (.slice A2 ys.length c2) 26).three (.slice A3 zs.length c3) (.slice A4 us.length c4) (.int .i64 p) 45)
    simp only [World.size_alloc] at hK
    generalize hgW : ((w.alloc (.cells #[.slice A1 xs.length c1] 26)).alloc (.cells #[.slice A2 ys.length c2] 26)).alloc (.cells #[.slice A3 zs.length c3, .slice A4 us.length c4, .int .i64 p] 45) = W0 at *
    clear K hgW
    have K := Lib.hid hK
    clear hK
    have q1 := (K.out.cells (⟨w.heap.size, 0, none⟩, .slice A1 xs.length c1) (List.mem_of_getElem? (i := 4) rfl)).2
    go_upto_region 3 with (first
      | (go_at_call 20; have _t := K8; clear _t; refine (few_any A4 c4 us _ M4.out).mono ?_; rw [F3.out]; rintro e y12 ⟨rfl, hb⟩; have K11 := Lib.hid (And.intro (K8.out.1.ext hb) (trivial)); clear hb)
      | (go_at_call 20; have _t := K5; clear _t; refine (few_any A3 c3 zs _ M3.out).mono ?_; rw [F2.out]; rintro e y9 ⟨rfl, hb⟩; have K8 := Lib.hid (And.intro (K5.out.1.ext hb) (trivial)); have q10 := (K8.out.1.cells (⟨w.heap.size + 1 + 1, 1, none⟩, .slice A4 us.length c4) (List.mem_of_getElem? (i := 1) rfl)).2; clear hb)
      | (go_at_call 20; have _t := K2; clear _t; refine (few_any A2 c2 ys _ M2.out).mono ?_; rw [F1.out]; rintro e y6 ⟨rfl, hb⟩; have K5 := Lib.hid (And.intro (K2.out.1.ext hb) (trivial)); have q7 := (K5.out.1.cells (⟨w.heap.size + 1 + 1, 0, none⟩, .slice A3 zs.length c3) (List.mem_of_getElem? (i := 0) rfl)).2; clear hb)
      | (go_at_call 20; refine (few_any A1 c1 xs _ M1.out).mono ?_; rw [F0.out]; rintro e y3 ⟨rfl, hb⟩; have K2 := Lib.hid (And.intro (K.out.ext hb) (trivial)); have q4 := (K2.out.1.cells (⟨w.heap.size + 1, 0, none⟩, .slice A2 ys.length c2) (List.mem_of_getElem? (i := 3) rfl)).2; clear hb))
    have hK := K11.out.1
    generalize hgW : y12 = W1 at *
    clear K hgW
    have K := Lib.hid hK
    clear hK
    have q13 := (K.out.cells (⟨w.heap.size, 0, none⟩, .slice A1 xs.length c1) (List.mem_of_getElem? (i := 4) rfl)).2
    have q14 := (K.out.cells (⟨w.heap.size + 1, 0, none⟩, .slice A2 ys.length c2) (List.mem_of_getElem? (i := 3) rfl)).2
    go_upto_region 4 with (go_at_call 29; refine (HB1.out _ (K.out.rds (A1, xs) (List.mem_of_getElem? (i := 3) rfl)) (K.out.rds (A2, ys) (List.mem_of_getElem? (i := 2) rfl))).mono ?_; rintro e y16 ⟨A10, c10, B10, b10, rfl, hr, hr', hf, hf', hb⟩; have K15 := Lib.hid (And.intro (K.out.ext hb) (And.intro hr hr')); clear hr hr' hf hf' hb)
    have hK := ((K15.out.1.addRd K15.out.2.1).addRd K15.out.2.2).three (.slice A10 ([] : List Int).length c10) (.slice B10 ([] : List Int).length b10) (.int .i64 0) 45
    generalize hgW : y16.alloc (.cells #[.slice A10 ([] : List Int).length c10, .slice B10 ([] : List Int).length b10, .int .i64 0] 45) = W10 at *
    generalize hgg : y16.heap.size = g10 at *
    clear K K15 q13 q14 hgW hgg
    have K := Lib.hid hK
    clear hK
    have q17 := (K.out.cells (⟨w.heap.size, 0, none⟩, .slice A1 xs.length c1) (List.mem_of_getElem? (i := 7) rfl)).2
    have q18 := (K.out.cells (⟨w.heap.size + 1, 0, none⟩, .slice A2 ys.length c2) (List.mem_of_getElem? (i := 6) rfl)).2
    go_upto_region 5 with (go_at_call 32; refine (HB2.out _ (K.out.rds (A1, xs) (List.mem_of_getElem? (i := 5) rfl)) (K.out.rds (A2, ys) (List.mem_of_getElem? (i := 4) rfl))).mono ?_; rintro e y20 ⟨rfl, hb⟩; have K19 := Lib.hid (K.out.ext hb); clear hb)
    have hK := K19.out.three (.int .i64 0) (.int .i64 0) (.int .i64 1) 51
    generalize hgW : y20.alloc (.cells #[.int .i64 0, .int .i64 0, .int .i64 1] 51) = W12 at *
    generalize hgg : y20.heap.size = g12 at *
    clear K K19 q17 q18 hgW hgg
    have K := Lib.hid hK
    clear hK
    have q21 := (K.out.cells (⟨w.heap.size, 0, none⟩, .slice A1 xs.length c1) (List.mem_of_getElem? (i := 10) rfl)).2
    have q22 := (K.out.cells (⟨w.heap.size + 1, 0, none⟩, .slice A2 ys.length c2) (List.mem_of_getElem? (i := 9) rfl)).2
    go_upto_region 6 with (go_at_call 30; refine (HD1.out _ (K.out.rds (A1, xs) (List.mem_of_getElem? (i := 5) rfl)) (K.out.rds (A2, ys) (List.mem_of_getElem? (i := 4) rfl))).mono ?_; rintro e y24 ⟨rfl, hb⟩; have K23 := Lib.hid (K.out.ext hb); clear hb)
    clear K q21 q22
    have K := K23
    clear K23
    have q25 := (K.out.cells (⟨w.heap.size, 0, none⟩, .slice A1 xs.length c1) (List.mem_of_getElem? (i := 10) rfl)).2
    have q26 := (K.out.cells (⟨w.heap.size + 1, 0, none⟩, .slice A2 ys.length c2) (List.mem_of_getElem? (i := 9) rfl)).2
    go_upto_region 7 with (go_at_call 33; refine (HD2.out _ (K.out.rds (A1, xs) (List.mem_of_getElem? (i := 5) rfl)) (K.out.rds (A2, ys) (List.mem_of_getElem? (i := 4) rfl))).mono ?_; rintro e y28 ⟨rfl, hb⟩; have K27 := Lib.hid (K.out.ext hb); clear hb)
    clear K q25 q26
    have K := K27
    clear K27
    have q29 := (K.out.cells (⟨g12, 0, none⟩, .int .i64 0) (List.mem_of_getElem? (i := 0) rfl)).2
    have q30 := (K.out.cells (⟨g12, 2, none⟩, .int .i64 1) (List.mem_of_getElem? (i := 2) rfl)).2
    have q31 := (K.out.cells (⟨g10, 0, none⟩, .slice A10 ([] : List Int).length c10) (List.mem_of_getElem? (i := 3) rfl)).2
    have q32 := (K.out.cells (⟨g10, 1, none⟩, .slice B10 ([] : List Int).length b10) (List.mem_of_getElem? (i := 4) rfl)).2
    have q33 := (K.out.cells (⟨g10, 2, none⟩, .int .i64 0) (List.mem_of_getElem? (i := 5) rfl)).2
    go_upto_region 9 with fail
    clear q29 q30 q31 q32 q33
    obtain ⟨l34, q35⟩ := (K.out.cells (⟨w.heap.size, 0, none⟩, .slice A1 xs.length c1) (List.mem_of_getElem? (i := 10) rfl))
    dsimp only at l34 q35
    obtain ⟨l36, q37⟩ := (K.out.cells (⟨w.heap.size + 1, 0, none⟩, .slice A2 ys.length c2) (List.mem_of_getElem? (i := 9) rfl))
    dsimp only at l36 q37
    obtain ⟨l38, q39⟩ := (K.out.cells (⟨w.heap.size + 1 + 1, 0, none⟩, .slice A3 zs.length c3) (List.mem_of_getElem? (i := 6) rfl))
    dsimp only at l38 q39
    obtain ⟨l40, q41⟩ := (K.out.cells (⟨w.heap.size + 1 + 1, 1, none⟩, .slice A4 us.length c4) (List.mem_of_getElem? (i := 7) rfl))
    dsimp only at l40 q41
    obtain ⟨l42, q43⟩ := (K.out.cells (⟨w.heap.size + 1 + 1, 2, none⟩, .int .i64 p) (List.mem_of_getElem? (i := 8) rfl))
    dsimp only at l42 q43
    refine wp_region_ext (by kernel_rfl) (by kernel_rfl) ?_
    intro ι _ X hX hC
    have rX := fun k => (bcell (hX k)).1
    repeat (first | go_big_quiet_skip | (go_big_quiet_want; go_big_quiet_op; first | go_big_quiet_on | (apply Exists.intro; refine ⟨fun _ => ?_, ?_⟩; (focus ((first | (go_at_call 16; with_reducible exact Calls.ext_of hX hC (sanity_any _)) | (go_at_call 35; with_reducible exact Calls.ext_of hX hC (HB5.out _ ((K.out.rds (A1, xs) (List.mem_of_getElem? (i := 5) rfl)).ext (hX _)) ((K.out.rds (A2, ys) (List.mem_of_getElem? (i := 4) rfl)).ext (hX _)) ((K.out.rds (A3, zs) (List.mem_of_getElem? (i := 3) rfl)).ext (hX _)) ((K.out.rds (A4, us) (List.mem_of_getElem? (i := 2) rfl)).ext (hX _)))) | (go_at_call 34; with_reducible exact Calls.ext_of hX hC (HB6.out _ ((K.out.rds (A1, xs) (List.mem_of_getElem? (i := 5) rfl)).ext (hX _)) ((K.out.rds (A2, ys) (List.mem_of_getElem? (i := 4) rfl)).ext (hX _)) ((K.out.rds (A3, zs) (List.mem_of_getElem? (i := 3) rfl)).ext (hX _)) ((K.out.rds (A4, us) (List.mem_of_getElem? (i := 2) rfl)).ext (hX _))))))); go_big_quiet_on)))
    refine wpQuiet_nil ?_
    intro w1 hb1
    clear rX hX hC
    go_wp2
    go_ret
    exact ⟨ret_bool (by simp), (K.out.ext hb1).bl⟩
  case true =>
    have ⟨vL, vS, he⟩ := ok2_iff.1 ho
    have hCB := fun A B c b W r1 r2 r3 r4 => rcheckB_any A1 A2 A B c1 c2 c b xs ys (closedL xs) (backOut xs ys) (backTop xs ys).2 ((backTop xs ys).1 : Nat) W r1 r2 r3 r4 M1.out M2.out (by rw [closedL_length]; exact M1.out) (by unfold backOut; rw [leastL_length, closedL_length]; exact M1.out)
    rw [hsh vL vS he] at hCB
    simp only [ho, pick_t, pickI_t, errB_t, if_true] at hB1 hB2 hD1 hD2
    rw [← back_apart] at hB2
    have HCB := Lib.hid hCB
    clear hCB vL vS he
    generalize (apartT (closedL xs) ys).1 = T1 at *
    generalize delayI xs ys = D at *
    generalize closedL xs = C at *
    generalize backOut xs ys = O at *
    generalize backTop xs ys = T at *
    obtain ⟨P, N⟩ := T
    dsimp only at hB1 hB2 HCB
    have HB1 := Lib.hid hB1
    have HB2 := Lib.hid hB2
    have HD1 := Lib.hid hD1
    have HD2 := Lib.hid hD2
    clear hB1 hB2 hD1 hD2 ho hsh
    go_enter Try.func8, Try.ntmps8
    go_upto_region 1 with fail
    have hK := (((K.out.one (.slice A1 xs.length c1) 26).one (.slice A2 ys.length c2) 26).three (.slice A3 zs.length c3) (.slice A4 us.length c4) (.int .i64 p) 45)
    simp only [World.size_alloc] at hK
    generalize hgW : ((w.alloc (.cells #[.slice A1 xs.length c1] 26)).alloc (.cells #[.slice A2 ys.length c2] 26)).alloc (.cells #[.slice A3 zs.length c3, .slice A4 us.length c4, .int .i64 p] 45) = W0 at *
    clear K hgW
    have K := Lib.hid hK
    clear hK
    have q1 := (K.out.cells (⟨w.heap.size, 0, none⟩, .slice A1 xs.length c1) (List.mem_of_getElem? (i := 4) rfl)).2
    go_upto_region 3 with (first
      | (go_at_call 20; have _t := K8; clear _t; refine (few_any A4 c4 us _ M4.out).mono ?_; rw [F3.out]; rintro e y12 ⟨rfl, hb⟩; have K11 := Lib.hid (And.intro (K8.out.1.ext hb) (trivial)); clear hb)
      | (go_at_call 20; have _t := K5; clear _t; refine (few_any A3 c3 zs _ M3.out).mono ?_; rw [F2.out]; rintro e y9 ⟨rfl, hb⟩; have K8 := Lib.hid (And.intro (K5.out.1.ext hb) (trivial)); have q10 := (K8.out.1.cells (⟨w.heap.size + 1 + 1, 1, none⟩, .slice A4 us.length c4) (List.mem_of_getElem? (i := 1) rfl)).2; clear hb)
      | (go_at_call 20; have _t := K2; clear _t; refine (few_any A2 c2 ys _ M2.out).mono ?_; rw [F1.out]; rintro e y6 ⟨rfl, hb⟩; have K5 := Lib.hid (And.intro (K2.out.1.ext hb) (trivial)); have q7 := (K5.out.1.cells (⟨w.heap.size + 1 + 1, 0, none⟩, .slice A3 zs.length c3) (List.mem_of_getElem? (i := 0) rfl)).2; clear hb)
      | (go_at_call 20; refine (few_any A1 c1 xs _ M1.out).mono ?_; rw [F0.out]; rintro e y3 ⟨rfl, hb⟩; have K2 := Lib.hid (And.intro (K.out.ext hb) (trivial)); have q4 := (K2.out.1.cells (⟨w.heap.size + 1, 0, none⟩, .slice A2 ys.length c2) (List.mem_of_getElem? (i := 3) rfl)).2; clear hb))
    have hK := K11.out.1
    generalize hgW : y12 = W1 at *
    clear K hgW
    have K := Lib.hid hK
    clear hK
    have q13 := (K.out.cells (⟨w.heap.size, 0, none⟩, .slice A1 xs.length c1) (List.mem_of_getElem? (i := 4) rfl)).2
    have q14 := (K.out.cells (⟨w.heap.size + 1, 0, none⟩, .slice A2 ys.length c2) (List.mem_of_getElem? (i := 3) rfl)).2
    go_upto_region 4 with (go_at_call 29; refine (HB1.out _ (K.out.rds (A1, xs) (List.mem_of_getElem? (i := 3) rfl)) (K.out.rds (A2, ys) (List.mem_of_getElem? (i := 2) rfl))).mono ?_; rintro e y16 ⟨A10, c10, B10, b10, rfl, hr, hr', hf, hf', hb⟩; have K15 := Lib.hid (And.intro (K.out.ext hb) (And.intro hr hr')); clear hr hr' hf hf' hb)
    have hK := ((K15.out.1.addRd K15.out.2.1).addRd K15.out.2.2).three (.slice A10 C.length c10) (.slice B10 O.length b10) (.int .i64 P) 45
    generalize hgW : y16.alloc (.cells #[.slice A10 C.length c10, .slice B10 O.length b10, .int .i64 P] 45) = W10 at *
    generalize hgg : y16.heap.size = g10 at *
    clear K K15 q13 q14 hgW hgg
    have K := Lib.hid hK
    clear hK
    have q17 := (K.out.cells (⟨w.heap.size, 0, none⟩, .slice A1 xs.length c1) (List.mem_of_getElem? (i := 7) rfl)).2
    have q18 := (K.out.cells (⟨w.heap.size + 1, 0, none⟩, .slice A2 ys.length c2) (List.mem_of_getElem? (i := 6) rfl)).2
    go_upto_region 5 with (go_at_call 32; refine (HB2.out _ (K.out.rds (A1, xs) (List.mem_of_getElem? (i := 5) rfl)) (K.out.rds (A2, ys) (List.mem_of_getElem? (i := 4) rfl))).mono ?_; rintro e y20 ⟨rfl, hb⟩; have K19 := Lib.hid (K.out.ext hb); clear hb)
    have hK := K19.out.three (.int .i64 N) (.int .i64 (T1 : Nat)) (.int .i64 0) 51
    generalize hgW : y20.alloc (.cells #[.int .i64 N, .int .i64 (T1 : Nat), .int .i64 0] 51) = W12 at *
    generalize hgg : y20.heap.size = g12 at *
    clear K K19 q17 q18 hgW hgg
    have K := Lib.hid hK
    clear hK
    have q21 := (K.out.cells (⟨w.heap.size, 0, none⟩, .slice A1 xs.length c1) (List.mem_of_getElem? (i := 10) rfl)).2
    have q22 := (K.out.cells (⟨w.heap.size + 1, 0, none⟩, .slice A2 ys.length c2) (List.mem_of_getElem? (i := 9) rfl)).2
    go_upto_region 6 with (go_at_call 30; refine (HD1.out _ (K.out.rds (A1, xs) (List.mem_of_getElem? (i := 5) rfl)) (K.out.rds (A2, ys) (List.mem_of_getElem? (i := 4) rfl))).mono ?_; rintro e y24 ⟨rfl, hb⟩; have K23 := Lib.hid (K.out.ext hb); clear hb)
    clear K q21 q22
    have K := K23
    clear K23
    have q25 := (K.out.cells (⟨w.heap.size, 0, none⟩, .slice A1 xs.length c1) (List.mem_of_getElem? (i := 10) rfl)).2
    have q26 := (K.out.cells (⟨w.heap.size + 1, 0, none⟩, .slice A2 ys.length c2) (List.mem_of_getElem? (i := 9) rfl)).2
    go_upto_region 7 with (go_at_call 33; refine (HD2.out _ (K.out.rds (A1, xs) (List.mem_of_getElem? (i := 5) rfl)) (K.out.rds (A2, ys) (List.mem_of_getElem? (i := 4) rfl))).mono ?_; rintro e y28 ⟨rfl, hb⟩; have K27 := Lib.hid (K.out.ext hb); clear hb)
    clear K q25 q26
    have K := K27
    clear K27
    have q29 := (K.out.cells (⟨g12, 0, none⟩, .int .i64 N) (List.mem_of_getElem? (i := 0) rfl)).2
    have q30 := (K.out.cells (⟨g12, 2, none⟩, .int .i64 0) (List.mem_of_getElem? (i := 2) rfl)).2
    have q31 := (K.out.cells (⟨w.heap.size, 0, none⟩, .slice A1 xs.length c1) (List.mem_of_getElem? (i := 10) rfl)).2
    have q32 := (K.out.cells (⟨w.heap.size + 1, 0, none⟩, .slice A2 ys.length c2) (List.mem_of_getElem? (i := 9) rfl)).2
    have q33 := (K.out.cells (⟨g10, 0, none⟩, .slice A10 C.length c10) (List.mem_of_getElem? (i := 3) rfl)).2
    have q34 := (K.out.cells (⟨g10, 1, none⟩, .slice B10 O.length b10) (List.mem_of_getElem? (i := 4) rfl)).2
    have q35 := (K.out.cells (⟨g10, 2, none⟩, .int .i64 P) (List.mem_of_getElem? (i := 5) rfl)).2
    go_upto_region 9 with (go_at_call 34; refine (HCB.out A10 B10 c10 b10 _ (K.out.rds (A1, xs) (List.mem_of_getElem? (i := 5) rfl)) (K.out.rds (A2, ys) (List.mem_of_getElem? (i := 4) rfl)) (K.out.rds (A10, C) (List.mem_of_getElem? (i := 1) rfl)) (K.out.rds (B10, O) (List.mem_of_getElem? (i := 0) rfl))).mono ?_; rintro e y37 ⟨rfl, hb⟩; have K36 := Lib.hid (And.intro (K.out.ext hb) (trivial)); clear hb)
    have hK := K36.out.1
    clear K K36 q29 q30 q31 q32 q33 q34 q35
    have K := Lib.hid hK
    clear hK
    obtain ⟨l38, q39⟩ := (K.out.cells (⟨w.heap.size, 0, none⟩, .slice A1 xs.length c1) (List.mem_of_getElem? (i := 10) rfl))
    dsimp only at l38 q39
    obtain ⟨l40, q41⟩ := (K.out.cells (⟨w.heap.size + 1, 0, none⟩, .slice A2 ys.length c2) (List.mem_of_getElem? (i := 9) rfl))
    dsimp only at l40 q41
    obtain ⟨l42, q43⟩ := (K.out.cells (⟨w.heap.size + 1 + 1, 0, none⟩, .slice A3 zs.length c3) (List.mem_of_getElem? (i := 6) rfl))
    dsimp only at l42 q43
    obtain ⟨l44, q45⟩ := (K.out.cells (⟨w.heap.size + 1 + 1, 1, none⟩, .slice A4 us.length c4) (List.mem_of_getElem? (i := 7) rfl))
    dsimp only at l44 q45
    obtain ⟨l46, q47⟩ := (K.out.cells (⟨w.heap.size + 1 + 1, 2, none⟩, .int .i64 p) (List.mem_of_getElem? (i := 8) rfl))
    dsimp only at l46 q47
    refine wp_region_ext (by kernel_rfl) (by kernel_rfl) ?_
    intro ι _ X hX hC
    have rX := fun k => (bcell (hX k)).1
    repeat (first | go_big_quiet_skip | (go_big_quiet_want; go_big_quiet_op; first | go_big_quiet_on | (apply Exists.intro; refine ⟨fun _ => ?_, ?_⟩; (focus ((first | (go_at_call 16; with_reducible exact Calls.ext_of hX hC (sanity_any _)) | (go_at_call 35; with_reducible exact Calls.ext_of hX hC (HB5.out _ ((K.out.rds (A1, xs) (List.mem_of_getElem? (i := 5) rfl)).ext (hX _)) ((K.out.rds (A2, ys) (List.mem_of_getElem? (i := 4) rfl)).ext (hX _)) ((K.out.rds (A3, zs) (List.mem_of_getElem? (i := 3) rfl)).ext (hX _)) ((K.out.rds (A4, us) (List.mem_of_getElem? (i := 2) rfl)).ext (hX _)))) | (go_at_call 34; with_reducible exact Calls.ext_of hX hC (HB6.out _ ((K.out.rds (A1, xs) (List.mem_of_getElem? (i := 5) rfl)).ext (hX _)) ((K.out.rds (A2, ys) (List.mem_of_getElem? (i := 4) rfl)).ext (hX _)) ((K.out.rds (A3, zs) (List.mem_of_getElem? (i := 3) rfl)).ext (hX _)) ((K.out.rds (A4, us) (List.mem_of_getElem? (i := 2) rfl)).ext (hX _))))))); go_big_quiet_on)))
    refine wpQuiet_nil ?_
    intro w1 hb1
    clear rX hX hC
    go_wp2
    go_ret
    exact ⟨ret_bool (by simp), (K.out.ext hb1).bl⟩
end Go.Proofs.Ytknkneccnhgjmaa
