/- Walk: the law FloodGreater. -/
import Derived.Test.YtknkneccnhgjmaaP2
import Derived.Test.YtknkneccnhgjmaaL3
namespace Go.Proofs.Ytknkneccnhgjmaa
open Go.RowKit Go.Shelf

theorem Sum_cases (xs ys : List Int) : (ok2 xs ys = true ∧ fitB (sumL xs ys) = true ∧ pick (ok2 xs ys && fitB (sumL xs ys)) (sumL xs ys) = sumL xs ys ∧ (if ok2 xs ys then rngB (sumL xs ys) else 1) = 0) ∨
    ((ok2 xs ys && fitB (sumL xs ys)) = false ∧ pick (ok2 xs ys && fitB (sumL xs ys)) (sumL xs ys) = [] ∧ (if ok2 xs ys then rngB (sumL xs ys) else 1) ≠ 0) := by
  cases h : ok2 xs ys
  · exact .inr ⟨rfl, rfl, by simp⟩
  · cases hf : fitB (sumL xs ys)
    · exact .inr ⟨rfl, rfl, by simp [rngB, hf]⟩
    · exact .inl ⟨rfl, rfl, rfl, by simp [rngB, hf]⟩
theorem Lower_yes {A1 A2 : Option Addr} {c1 c2 : Nat} {xs ys : List Int} (h : ok2 xs ys = true) (w : World) (r1 : Rd w w.heap.size A1 xs) (r2 : Rd w w.heap.size A2 ys) (m1 : xs.length ≤ maxLen) (m2 : ys.length ≤ maxLen) :
    Calls Try.prog 28 #[.agg #[.slice A1 xs.length c1], .agg #[.slice A2 ys.length c2]] w fun e w' => RCE w (lowerL xs ys) 0 e w' := by
  have := Lower_any A1 A2 c1 c2 xs ys w r1 r2 m1 m2
  rwa [h, pick_t, errB_t] at this
theorem Lower_no {A1 A2 : Option Addr} {c1 c2 : Nat} {xs ys : List Int} (h : ok2 xs ys = false) (w : World) (r1 : Rd w w.heap.size A1 xs) (r2 : Rd w w.heap.size A2 ys) (m1 : xs.length ≤ maxLen) (m2 : ys.length ≤ maxLen) :
    Calls Try.prog 28 #[.agg #[.slice A1 xs.length c1], .agg #[.slice A2 ys.length c2]] w fun e w' => RCE w [] 1 e w' := by
  have := Lower_any A1 A2 c1 c2 xs ys w r1 r2 m1 m2
  rwa [h, pick_f, errB_f] at this
theorem Left_yes {A1 A2 : Option Addr} {c1 c2 : Nat} {xs ys : List Int} (h : ok2 xs ys = true) (w : World) (r1 : Rd w w.heap.size A1 xs) (r2 : Rd w w.heap.size A2 ys) (m1 : xs.length ≤ maxLen) (m2 : ys.length ≤ maxLen) :
    Calls Try.prog 31 #[.agg #[.slice A1 xs.length c1], .agg #[.slice A2 ys.length c2]] w fun e w' => RCE w (leftL xs ys) 0 e w' := by
  have := Left_any A1 A2 c1 c2 xs ys w r1 r2 m1 m2
  rwa [h, pick_t, errB_t] at this
theorem Delay_yes {A1 A2 : Option Addr} {c1 c2 : Nat} {xs ys : List Int} (h : ok2 xs ys = true) (w : World) (r1 : Rd w w.heap.size A1 xs) (r2 : Rd w w.heap.size A2 ys) (m1 : xs.length ≤ maxLen) (m2 : ys.length ≤ maxLen) :
    Calls Try.prog 30 #[.agg #[.slice A1 xs.length c1], .agg #[.slice A2 ys.length c2]] w fun e w' => e = .returned (.tuple #[.int .i64 (delayI xs ys), .int .i64 0]) ∧ Below w.heap.size w w' := by
  have := Delay_any A1 A2 c1 c2 xs ys w r1 r2 m1 m2
  rwa [h, errB_t, if_pos rfl] at this
theorem Backlog_yes {A1 A2 : Option Addr} {c1 c2 : Nat} {xs ys : List Int} (h : ok2 xs ys = true) (w : World) (r1 : Rd w w.heap.size A1 xs) (r2 : Rd w w.heap.size A2 ys) (m1 : xs.length ≤ maxLen) (m2 : ys.length ≤ maxLen) :
    Calls Try.prog 29 #[.agg #[.slice A1 xs.length c1], .agg #[.slice A2 ys.length c2]] w fun e w' => RSurge w (backTop xs ys).2 (closedL xs) (backOut xs ys) ((backTop xs ys).1 : Nat) 0 e w' := by
  have := Backlog_any A1 A2 c1 c2 xs ys w r1 r2 m1 m2
  rwa [h, pick_t, pick_t, pickI_t, pickI_t, errB_t] at this

set_option maxRecDepth 100000 in
set_option maxHeartbeats 8000000 in
theorem FloodGreater_row (w : World) (A1 : Option Addr) (c1 : Nat) (xs : List Int) (r1 : Rd w w.heap.size A1 xs) (m1 : xs.length ≤ maxLen) (A2 : Option Addr) (c2 : Nat) (ys : List Int) (r2 : Rd w w.heap.size A2 ys) (m2 : ys.length ≤ maxLen)
    (A3 : Option Addr) (c3 : Nat) (zs : List Int) (r3 : Rd w w.heap.size A3 zs) (m3 : zs.length ≤ maxLen) (A4 : Option Addr) (c4 : Nat) (us : List Int) (r4 : Rd w w.heap.size A4 us) (m4 : us.length ≤ maxLen) :
    Calls Try.prog 7 #[.agg #[.slice A1 xs.length c1], .agg #[.slice A2 ys.length c2], .agg #[.slice A3 zs.length c3], .agg #[.slice A4 us.length c4]] w fun e w' => e = .returned (.bool true) ∧ Below w.heap.size w w' := by
  have hK : Ex w w [] [] := ⟨Below.refl _ _, fun p hp => (by cases hp), fun p hp => (by cases hp)⟩
  have K := Lib.hid ((((hK.addRd r1).addRd r2).addRd r3).addRd r4)
  have M1 := Lib.hid m1
  have M2 := Lib.hid m2
  have M3 := Lib.hid m3
  have M4 := Lib.hid m4
  clear hK r1 r2 r3 r4 m1 m2 m3 m4
  cases hf0 : fewB xs with
  | false =>
    have F0 := Lib.hid hf0
    clear hf0
    go_enter Try.func7, Try.ntmps7
    go_upto_region 1 with fail
    have hK := ((((K.out.one (.slice A1 xs.length c1) 26).one (.slice A2 ys.length c2) 26).one (.slice A3 zs.length c3) 26).one (.slice A4 us.length c4) 26)
    simp only [World.size_alloc] at hK
    generalize hgW : (((w.alloc (.cells #[.slice A1 xs.length c1] 26)).alloc (.cells #[.slice A2 ys.length c2] 26)).alloc (.cells #[.slice A3 zs.length c3] 26)).alloc (.cells #[.slice A4 us.length c4] 26) = W0 at *
    clear K hgW
    have K := Lib.hid hK
    clear hK
    have q1 := (K.out.cells (⟨w.heap.size, 0, none⟩, .slice A1 xs.length c1) (List.mem_of_getElem? (i := 3) rfl)).2
    go_wp2_with (first
      | (go_at_call 16; have _t := K2; clear _t; refine (sanity_any _).mono ?_; rintro e y6 ⟨rfl, hb⟩; have K5 := Lib.hid (And.intro (K2.out.1.ext hb) (trivial)); clear hb)
      | (go_at_call 20; refine (few_any A1 c1 xs _ M1.out).mono ?_; rw [F0.out]; rintro e y3 ⟨rfl, hb⟩; have K2 := Lib.hid (And.intro (K.out.ext hb) (trivial)); have q4 := (K2.out.1.cells (⟨w.heap.size + 1, 0, none⟩, .slice A2 ys.length c2) (List.mem_of_getElem? (i := 2) rfl)).2; clear hb))
    go_ret
    exact ⟨rfl, K5.out.1.bl⟩
  | true =>
  have F0 := Lib.hid hf0
  clear hf0
  cases hf1 : fewB ys with
  | false =>
    have F1 := Lib.hid hf1
    clear hf1
    go_enter Try.func7, Try.ntmps7
    go_upto_region 1 with fail
    have hK := ((((K.out.one (.slice A1 xs.length c1) 26).one (.slice A2 ys.length c2) 26).one (.slice A3 zs.length c3) 26).one (.slice A4 us.length c4) 26)
    simp only [World.size_alloc] at hK
    generalize hgW : (((w.alloc (.cells #[.slice A1 xs.length c1] 26)).alloc (.cells #[.slice A2 ys.length c2] 26)).alloc (.cells #[.slice A3 zs.length c3] 26)).alloc (.cells #[.slice A4 us.length c4] 26) = W0 at *
    clear K hgW
    have K := Lib.hid hK
    clear hK
    have q1 := (K.out.cells (⟨w.heap.size, 0, none⟩, .slice A1 xs.length c1) (List.mem_of_getElem? (i := 3) rfl)).2
    go_wp2_with (first
      | (go_at_call 16; have _t := K5; clear _t; refine (sanity_any _).mono ?_; rintro e y9 ⟨rfl, hb⟩; have K8 := Lib.hid (And.intro (K5.out.1.ext hb) (trivial)); clear hb)
      | (go_at_call 20; have _t := K2; clear _t; refine (few_any A2 c2 ys _ M2.out).mono ?_; rw [F1.out]; rintro e y6 ⟨rfl, hb⟩; have K5 := Lib.hid (And.intro (K2.out.1.ext hb) (trivial)); have q7 := (K5.out.1.cells (⟨w.heap.size + 1 + 1, 0, none⟩, .slice A3 zs.length c3) (List.mem_of_getElem? (i := 1) rfl)).2; clear hb)
      | (go_at_call 20; refine (few_any A1 c1 xs _ M1.out).mono ?_; rw [F0.out]; rintro e y3 ⟨rfl, hb⟩; have K2 := Lib.hid (And.intro (K.out.ext hb) (trivial)); have q4 := (K2.out.1.cells (⟨w.heap.size + 1, 0, none⟩, .slice A2 ys.length c2) (List.mem_of_getElem? (i := 2) rfl)).2; clear hb))
    go_ret
    exact ⟨rfl, K8.out.1.bl⟩
  | true =>
  have F1 := Lib.hid hf1
  clear hf1
  cases hf2 : fewB zs with
  | false =>
    have F2 := Lib.hid hf2
    clear hf2
    go_enter Try.func7, Try.ntmps7
    go_upto_region 1 with fail
    have hK := ((((K.out.one (.slice A1 xs.length c1) 26).one (.slice A2 ys.length c2) 26).one (.slice A3 zs.length c3) 26).one (.slice A4 us.length c4) 26)
    simp only [World.size_alloc] at hK
    generalize hgW : (((w.alloc (.cells #[.slice A1 xs.length c1] 26)).alloc (.cells #[.slice A2 ys.length c2] 26)).alloc (.cells #[.slice A3 zs.length c3] 26)).alloc (.cells #[.slice A4 us.length c4] 26) = W0 at *
    clear K hgW
    have K := Lib.hid hK
    clear hK
    have q1 := (K.out.cells (⟨w.heap.size, 0, none⟩, .slice A1 xs.length c1) (List.mem_of_getElem? (i := 3) rfl)).2
    go_wp2_with (first
      | (go_at_call 16; have _t := K8; clear _t; refine (sanity_any _).mono ?_; rintro e y12 ⟨rfl, hb⟩; have K11 := Lib.hid (And.intro (K8.out.1.ext hb) (trivial)); clear hb)
      | (go_at_call 20; have _t := K5; clear _t; refine (few_any A3 c3 zs _ M3.out).mono ?_; rw [F2.out]; rintro e y9 ⟨rfl, hb⟩; have K8 := Lib.hid (And.intro (K5.out.1.ext hb) (trivial)); have q10 := (K8.out.1.cells (⟨w.heap.size + 1 + 1 + 1, 0, none⟩, .slice A4 us.length c4) (List.mem_of_getElem? (i := 0) rfl)).2; clear hb)
      | (go_at_call 20; have _t := K2; clear _t; refine (few_any A2 c2 ys _ M2.out).mono ?_; rw [F1.out]; rintro e y6 ⟨rfl, hb⟩; have K5 := Lib.hid (And.intro (K2.out.1.ext hb) (trivial)); have q7 := (K5.out.1.cells (⟨w.heap.size + 1 + 1, 0, none⟩, .slice A3 zs.length c3) (List.mem_of_getElem? (i := 1) rfl)).2; clear hb)
      | (go_at_call 20; refine (few_any A1 c1 xs _ M1.out).mono ?_; rw [F0.out]; rintro e y3 ⟨rfl, hb⟩; have K2 := Lib.hid (And.intro (K.out.ext hb) (trivial)); have q4 := (K2.out.1.cells (⟨w.heap.size + 1, 0, none⟩, .slice A2 ys.length c2) (List.mem_of_getElem? (i := 2) rfl)).2; clear hb))
    go_ret
    exact ⟨rfl, K11.out.1.bl⟩
  | true =>
  have F2 := Lib.hid hf2
  clear hf2
  cases hf3 : fewB us with
  | false =>
    have F3 := Lib.hid hf3
    clear hf3
    go_enter Try.func7, Try.ntmps7
    go_upto_region 1 with fail
    have hK := ((((K.out.one (.slice A1 xs.length c1) 26).one (.slice A2 ys.length c2) 26).one (.slice A3 zs.length c3) 26).one (.slice A4 us.length c4) 26)
    simp only [World.size_alloc] at hK
    generalize hgW : (((w.alloc (.cells #[.slice A1 xs.length c1] 26)).alloc (.cells #[.slice A2 ys.length c2] 26)).alloc (.cells #[.slice A3 zs.length c3] 26)).alloc (.cells #[.slice A4 us.length c4] 26) = W0 at *
    clear K hgW
    have K := Lib.hid hK
    clear hK
    have q1 := (K.out.cells (⟨w.heap.size, 0, none⟩, .slice A1 xs.length c1) (List.mem_of_getElem? (i := 3) rfl)).2
    go_wp2_with (first
      | (go_at_call 16; have _t := K11; clear _t; refine (sanity_any _).mono ?_; rintro e y14 ⟨rfl, hb⟩; have K13 := Lib.hid (And.intro (K11.out.1.ext hb) (trivial)); clear hb)
      | (go_at_call 20; have _t := K8; clear _t; refine (few_any A4 c4 us _ M4.out).mono ?_; rw [F3.out]; rintro e y12 ⟨rfl, hb⟩; have K11 := Lib.hid (And.intro (K8.out.1.ext hb) (trivial)); clear hb)
      | (go_at_call 20; have _t := K5; clear _t; refine (few_any A3 c3 zs _ M3.out).mono ?_; rw [F2.out]; rintro e y9 ⟨rfl, hb⟩; have K8 := Lib.hid (And.intro (K5.out.1.ext hb) (trivial)); have q10 := (K8.out.1.cells (⟨w.heap.size + 1 + 1 + 1, 0, none⟩, .slice A4 us.length c4) (List.mem_of_getElem? (i := 0) rfl)).2; clear hb)
      | (go_at_call 20; have _t := K2; clear _t; refine (few_any A2 c2 ys _ M2.out).mono ?_; rw [F1.out]; rintro e y6 ⟨rfl, hb⟩; have K5 := Lib.hid (And.intro (K2.out.1.ext hb) (trivial)); have q7 := (K5.out.1.cells (⟨w.heap.size + 1 + 1, 0, none⟩, .slice A3 zs.length c3) (List.mem_of_getElem? (i := 1) rfl)).2; clear hb)
      | (go_at_call 20; refine (few_any A1 c1 xs _ M1.out).mono ?_; rw [F0.out]; rintro e y3 ⟨rfl, hb⟩; have K2 := Lib.hid (And.intro (K.out.ext hb) (trivial)); have q4 := (K2.out.1.cells (⟨w.heap.size + 1, 0, none⟩, .slice A2 ys.length c2) (List.mem_of_getElem? (i := 2) rfl)).2; clear hb))
    go_ret
    exact ⟨rfl, K13.out.1.bl⟩
  | true =>
  have F3 := Lib.hid hf3
  clear hf3
  rcases Sum_cases xs ys with ⟨ho, hfit, e1, e2⟩ | ⟨_, e1, e2⟩
  rotate_left
  · have HE := Lib.hid e2
    have hS := fun W r1 r2 => Sum_any A1 A2 c1 c2 xs ys W r1 r2 M1.out M2.out
    rw [e1] at hS
    have HS := Lib.hid hS
    have HL := Lib.hid (fun W r1 r2 => Lower_any A3 A4 c3 c4 zs us W r1 r2 M3.out M4.out)
    clear hS e1 e2
    generalize (if ok2 xs ys then rngB (sumL xs ys) else 1) = E at *
    generalize pick (ok2 zs us) (lowerL zs us) = L at *
    generalize errB (ok2 zs us) = E2 at *
    have hne : (E != 0) = true := by simpa using HE.out
    go_enter Try.func7, Try.ntmps7
    go_upto_region 1 with fail
    have hK := ((((K.out.one (.slice A1 xs.length c1) 26).one (.slice A2 ys.length c2) 26).one (.slice A3 zs.length c3) 26).one (.slice A4 us.length c4) 26)
    simp only [World.size_alloc] at hK
    generalize hgW : (((w.alloc (.cells #[.slice A1 xs.length c1] 26)).alloc (.cells #[.slice A2 ys.length c2] 26)).alloc (.cells #[.slice A3 zs.length c3] 26)).alloc (.cells #[.slice A4 us.length c4] 26) = W0 at *
    clear K hgW
    have K := Lib.hid hK
    clear hK
    have q1 := (K.out.cells (⟨w.heap.size, 0, none⟩, .slice A1 xs.length c1) (List.mem_of_getElem? (i := 3) rfl)).2
    go_upto_region 3 with (first
      | (go_at_call 20; have _t := K8; clear _t; refine (few_any A4 c4 us _ M4.out).mono ?_; rw [F3.out]; rintro e y12 ⟨rfl, hb⟩; have K11 := Lib.hid (And.intro (K8.out.1.ext hb) (trivial)); clear hb)
      | (go_at_call 20; have _t := K5; clear _t; refine (few_any A3 c3 zs _ M3.out).mono ?_; rw [F2.out]; rintro e y9 ⟨rfl, hb⟩; have K8 := Lib.hid (And.intro (K5.out.1.ext hb) (trivial)); have q10 := (K8.out.1.cells (⟨w.heap.size + 1 + 1 + 1, 0, none⟩, .slice A4 us.length c4) (List.mem_of_getElem? (i := 0) rfl)).2; clear hb)
      | (go_at_call 20; have _t := K2; clear _t; refine (few_any A2 c2 ys _ M2.out).mono ?_; rw [F1.out]; rintro e y6 ⟨rfl, hb⟩; have K5 := Lib.hid (And.intro (K2.out.1.ext hb) (trivial)); have q7 := (K5.out.1.cells (⟨w.heap.size + 1 + 1, 0, none⟩, .slice A3 zs.length c3) (List.mem_of_getElem? (i := 1) rfl)).2; clear hb)
      | (go_at_call 20; refine (few_any A1 c1 xs _ M1.out).mono ?_; rw [F0.out]; rintro e y3 ⟨rfl, hb⟩; have K2 := Lib.hid (And.intro (K.out.ext hb) (trivial)); have q4 := (K2.out.1.cells (⟨w.heap.size + 1, 0, none⟩, .slice A2 ys.length c2) (List.mem_of_getElem? (i := 2) rfl)).2; clear hb))
    have hK := K11.out.1
    generalize hgW : y12 = W1 at *
    clear K hgW
    have K := Lib.hid hK
    clear hK
    have q13 := (K.out.cells (⟨w.heap.size, 0, none⟩, .slice A1 xs.length c1) (List.mem_of_getElem? (i := 3) rfl)).2
    have q14 := (K.out.cells (⟨w.heap.size + 1, 0, none⟩, .slice A2 ys.length c2) (List.mem_of_getElem? (i := 2) rfl)).2
    go_upto_region 4 with (go_at_call 27; refine (HS.out _ (K.out.rds (A1, xs) (List.mem_of_getElem? (i := 3) rfl)) (K.out.rds (A2, ys) (List.mem_of_getElem? (i := 2) rfl))).mono ?_; rintro e y16 ⟨A9, c9, rfl, hr, hf, hb⟩; have K15 := Lib.hid (And.intro (K.out.ext hb) hr); clear hr hf hb)
    have hK := K15.out.1.box (A := A9) (c := c9) K15.out.2
    generalize hgW : y16.alloc (.cells #[.slice A9 ([] : List Int).length c9] 26) = W9 at *
    generalize hgg : y16.heap.size = g9 at *
    clear K K15 q13 q14 hgW hgg
    have K := Lib.hid hK
    clear hK
    have q17 := (K.out.cells (⟨w.heap.size + 1 + 1, 0, none⟩, .slice A3 zs.length c3) (List.mem_of_getElem? (i := 2) rfl)).2
    have q18 := (K.out.cells (⟨w.heap.size + 1 + 1 + 1, 0, none⟩, .slice A4 us.length c4) (List.mem_of_getElem? (i := 1) rfl)).2
    go_upto_region 5 with (go_at_call 28; refine (HL.out _ (K.out.rds (A3, zs) (List.mem_of_getElem? (i := 2) rfl)) (K.out.rds (A4, us) (List.mem_of_getElem? (i := 1) rfl))).mono ?_; rintro e y20 ⟨A11, c11, rfl, hr, hf, hb⟩; have K19 := Lib.hid (And.intro (K.out.ext hb) hr); clear hr hf hb)
    have hK := K19.out.1.box (A := A11) (c := c11) K19.out.2
    generalize hgW : y20.alloc (.cells #[.slice A11 L.length c11] 26) = W11 at *
    generalize hgg : y20.heap.size = g11 at *
    clear K K19 q17 q18 hgW hgg
    have K := Lib.hid hK
    clear hK
    go_wp2_with (go_at_call 16; refine (sanity_any _).mono ?_; rintro e y22 ⟨rfl, hb⟩; have K21 := Lib.hid (And.intro (K.out.ext hb) (trivial)); clear hb)
    go_ret
    exact ⟨rfl, K21.out.1.bl⟩
  have hS := fun W r1 r2 => Sum_any A1 A2 c1 c2 xs ys W r1 r2 M1.out M2.out
  rw [e1, e2] at hS
  have HS := Lib.hid hS
  have HO := Lib.hid (And.intro ho hfit)
  clear hS e1 e2 ho hfit
  cases hl : ok2 zs us with
  | false =>
    have HL := Lib.hid (fun W r1 r2 => Lower_no (A1 := A3) (A2 := A4) (c1 := c3) (c2 := c4) hl W r1 r2 M3.out M4.out)
    clear hl
    go_enter Try.func7, Try.ntmps7
    go_upto_region 1 with fail
    have hK := ((((K.out.one (.slice A1 xs.length c1) 26).one (.slice A2 ys.length c2) 26).one (.slice A3 zs.length c3) 26).one (.slice A4 us.length c4) 26)
    simp only [World.size_alloc] at hK
    generalize hgW : (((w.alloc (.cells #[.slice A1 xs.length c1] 26)).alloc (.cells #[.slice A2 ys.length c2] 26)).alloc (.cells #[.slice A3 zs.length c3] 26)).alloc (.cells #[.slice A4 us.length c4] 26) = W0 at *
    clear K hgW
    have K := Lib.hid hK
    clear hK
    have q1 := (K.out.cells (⟨w.heap.size, 0, none⟩, .slice A1 xs.length c1) (List.mem_of_getElem? (i := 3) rfl)).2
    go_upto_region 3 with (first
      | (go_at_call 20; have _t := K8; clear _t; refine (few_any A4 c4 us _ M4.out).mono ?_; rw [F3.out]; rintro e y12 ⟨rfl, hb⟩; have K11 := Lib.hid (And.intro (K8.out.1.ext hb) (trivial)); clear hb)
      | (go_at_call 20; have _t := K5; clear _t; refine (few_any A3 c3 zs _ M3.out).mono ?_; rw [F2.out]; rintro e y9 ⟨rfl, hb⟩; have K8 := Lib.hid (And.intro (K5.out.1.ext hb) (trivial)); have q10 := (K8.out.1.cells (⟨w.heap.size + 1 + 1 + 1, 0, none⟩, .slice A4 us.length c4) (List.mem_of_getElem? (i := 0) rfl)).2; clear hb)
      | (go_at_call 20; have _t := K2; clear _t; refine (few_any A2 c2 ys _ M2.out).mono ?_; rw [F1.out]; rintro e y6 ⟨rfl, hb⟩; have K5 := Lib.hid (And.intro (K2.out.1.ext hb) (trivial)); have q7 := (K5.out.1.cells (⟨w.heap.size + 1 + 1, 0, none⟩, .slice A3 zs.length c3) (List.mem_of_getElem? (i := 1) rfl)).2; clear hb)
      | (go_at_call 20; refine (few_any A1 c1 xs _ M1.out).mono ?_; rw [F0.out]; rintro e y3 ⟨rfl, hb⟩; have K2 := Lib.hid (And.intro (K.out.ext hb) (trivial)); have q4 := (K2.out.1.cells (⟨w.heap.size + 1, 0, none⟩, .slice A2 ys.length c2) (List.mem_of_getElem? (i := 2) rfl)).2; clear hb))
    have hK := K11.out.1
    generalize hgW : y12 = W1 at *
    clear K hgW
    have K := Lib.hid hK
    clear hK
    have q13 := (K.out.cells (⟨w.heap.size, 0, none⟩, .slice A1 xs.length c1) (List.mem_of_getElem? (i := 3) rfl)).2
    have q14 := (K.out.cells (⟨w.heap.size + 1, 0, none⟩, .slice A2 ys.length c2) (List.mem_of_getElem? (i := 2) rfl)).2
    go_upto_region 4 with (go_at_call 27; refine (HS.out _ (K.out.rds (A1, xs) (List.mem_of_getElem? (i := 3) rfl)) (K.out.rds (A2, ys) (List.mem_of_getElem? (i := 2) rfl))).mono ?_; rintro e y16 ⟨A9, c9, rfl, hr, hf, hb⟩; have K15 := Lib.hid (And.intro (K.out.ext hb) hr); clear hr hf hb)
    have hK := K15.out.1.box (A := A9) (c := c9) K15.out.2
    generalize hgW : y16.alloc (.cells #[.slice A9 (sumL xs ys).length c9] 26) = W9 at *
    generalize hgg : y16.heap.size = g9 at *
    clear K K15 q13 q14 hgW hgg
    have K := Lib.hid hK
    clear hK
    have q17 := (K.out.cells (⟨w.heap.size + 1 + 1, 0, none⟩, .slice A3 zs.length c3) (List.mem_of_getElem? (i := 2) rfl)).2
    have q18 := (K.out.cells (⟨w.heap.size + 1 + 1 + 1, 0, none⟩, .slice A4 us.length c4) (List.mem_of_getElem? (i := 1) rfl)).2
    go_upto_region 5 with (go_at_call 28; refine (HL.out _ (K.out.rds (A3, zs) (List.mem_of_getElem? (i := 2) rfl)) (K.out.rds (A4, us) (List.mem_of_getElem? (i := 1) rfl))).mono ?_; rintro e y20 ⟨A11, c11, rfl, hr, hf, hb⟩; have K19 := Lib.hid (And.intro (K.out.ext hb) hr); clear hr hf hb)
    have hK := K19.out.1.box (A := A11) (c := c11) K19.out.2
    generalize hgW : y20.alloc (.cells #[.slice A11 ([] : List Int).length c11] 26) = W11 at *
    generalize hgg : y20.heap.size = g11 at *
    clear K K19 q17 q18 hgW hgg
    have K := Lib.hid hK
    clear hK
    go_wp2_with (go_at_call 16; refine (sanity_any _).mono ?_; rintro e y22 ⟨rfl, hb⟩; have K21 := Lib.hid (And.intro (K.out.ext hb) (trivial)); clear hb)
    go_ret
    exact ⟨rfl, K21.out.1.bl⟩
  | true =>
  have HL := Lib.hid (fun W r1 r2 => Lower_yes (A1 := A3) (A2 := A4) (c1 := c3) (c2 := c4) hl W r1 r2 M3.out M4.out)
  have HO2 := Lib.hid hl
  clear hl
  by_cases hlen : xs.length = zs.length
  rotate_left
  · have hne : (((sumL xs ys).length : Int) != ((lowerL zs us).length : Int)) = true := by rw [sumL_length, lowerL_length]; simp; omega
    generalize sumL xs ys = S at *
    generalize lowerL zs us = L at *
    clear hlen
    go_enter Try.func7, Try.ntmps7
    go_upto_region 1 with fail
    have hK := ((((K.out.one (.slice A1 xs.length c1) 26).one (.slice A2 ys.length c2) 26).one (.slice A3 zs.length c3) 26).one (.slice A4 us.length c4) 26)
    simp only [World.size_alloc] at hK
    generalize hgW : (((w.alloc (.cells #[.slice A1 xs.length c1] 26)).alloc (.cells #[.slice A2 ys.length c2] 26)).alloc (.cells #[.slice A3 zs.length c3] 26)).alloc (.cells #[.slice A4 us.length c4] 26) = W0 at *
    clear K hgW
    have K := Lib.hid hK
    clear hK
    have q1 := (K.out.cells (⟨w.heap.size, 0, none⟩, .slice A1 xs.length c1) (List.mem_of_getElem? (i := 3) rfl)).2
    go_upto_region 3 with (first
      | (go_at_call 20; have _t := K8; clear _t; refine (few_any A4 c4 us _ M4.out).mono ?_; rw [F3.out]; rintro e y12 ⟨rfl, hb⟩; have K11 := Lib.hid (And.intro (K8.out.1.ext hb) (trivial)); clear hb)
      | (go_at_call 20; have _t := K5; clear _t; refine (few_any A3 c3 zs _ M3.out).mono ?_; rw [F2.out]; rintro e y9 ⟨rfl, hb⟩; have K8 := Lib.hid (And.intro (K5.out.1.ext hb) (trivial)); have q10 := (K8.out.1.cells (⟨w.heap.size + 1 + 1 + 1, 0, none⟩, .slice A4 us.length c4) (List.mem_of_getElem? (i := 0) rfl)).2; clear hb)
      | (go_at_call 20; have _t := K2; clear _t; refine (few_any A2 c2 ys _ M2.out).mono ?_; rw [F1.out]; rintro e y6 ⟨rfl, hb⟩; have K5 := Lib.hid (And.intro (K2.out.1.ext hb) (trivial)); have q7 := (K5.out.1.cells (⟨w.heap.size + 1 + 1, 0, none⟩, .slice A3 zs.length c3) (List.mem_of_getElem? (i := 1) rfl)).2; clear hb)
      | (go_at_call 20; refine (few_any A1 c1 xs _ M1.out).mono ?_; rw [F0.out]; rintro e y3 ⟨rfl, hb⟩; have K2 := Lib.hid (And.intro (K.out.ext hb) (trivial)); have q4 := (K2.out.1.cells (⟨w.heap.size + 1, 0, none⟩, .slice A2 ys.length c2) (List.mem_of_getElem? (i := 2) rfl)).2; clear hb))
    have hK := K11.out.1
    generalize hgW : y12 = W1 at *
    clear K hgW
    have K := Lib.hid hK
    clear hK
    have q13 := (K.out.cells (⟨w.heap.size, 0, none⟩, .slice A1 xs.length c1) (List.mem_of_getElem? (i := 3) rfl)).2
    have q14 := (K.out.cells (⟨w.heap.size + 1, 0, none⟩, .slice A2 ys.length c2) (List.mem_of_getElem? (i := 2) rfl)).2
    go_upto_region 4 with (go_at_call 27; refine (HS.out _ (K.out.rds (A1, xs) (List.mem_of_getElem? (i := 3) rfl)) (K.out.rds (A2, ys) (List.mem_of_getElem? (i := 2) rfl))).mono ?_; rintro e y16 ⟨A9, c9, rfl, hr, hf, hb⟩; have K15 := Lib.hid (And.intro (K.out.ext hb) hr); clear hr hf hb)
    have hK := K15.out.1.box (A := A9) (c := c9) K15.out.2
    generalize hgW : y16.alloc (.cells #[.slice A9 S.length c9] 26) = W9 at *
    generalize hgg : y16.heap.size = g9 at *
    clear K K15 q13 q14 hgW hgg
    have K := Lib.hid hK
    clear hK
    have q17 := (K.out.cells (⟨w.heap.size + 1 + 1, 0, none⟩, .slice A3 zs.length c3) (List.mem_of_getElem? (i := 2) rfl)).2
    have q18 := (K.out.cells (⟨w.heap.size + 1 + 1 + 1, 0, none⟩, .slice A4 us.length c4) (List.mem_of_getElem? (i := 1) rfl)).2
    go_upto_region 5 with (go_at_call 28; refine (HL.out _ (K.out.rds (A3, zs) (List.mem_of_getElem? (i := 2) rfl)) (K.out.rds (A4, us) (List.mem_of_getElem? (i := 1) rfl))).mono ?_; rintro e y20 ⟨A11, c11, rfl, hr, hf, hb⟩; have K19 := Lib.hid (And.intro (K.out.ext hb) hr); clear hr hf hb)
    have hK := K19.out.1.box (A := A11) (c := c11) K19.out.2
    generalize hgW : y20.alloc (.cells #[.slice A11 L.length c11] 26) = W11 at *
    generalize hgg : y20.heap.size = g11 at *
    clear K K19 q17 q18 hgW hgg
    have K := Lib.hid hK
    clear hK
    have q21 := (K.out.cells (⟨g9, 0, none⟩, .slice A9 S.length c9) (List.mem_of_getElem? (i := 1) rfl)).2
    have q22 := (K.out.cells (⟨g11, 0, none⟩, .slice A11 L.length c11) (List.mem_of_getElem? (i := 0) rfl)).2
    go_wp2_with (go_at_call 16; refine (sanity_any _).mono ?_; rintro e y24 ⟨rfl, hb⟩; have K23 := Lib.hid (And.intro (K.out.ext hb) (trivial)); clear hb)
    go_ret
    exact ⟨rfl, K23.out.1.bl⟩
  have ⟨v1, v2, h21⟩ := ok2_iff.1 HO.out.1
  have ⟨v3, v4, h43⟩ := ok2_iff.1 HO2.out
  have vS := sumL_valid v1 v2 h21 HO.out.2
  have vL := lowerL_valid v3 v4 h43
  have hsl : (lowerL zs us).length = (sumL xs ys).length := by rw [sumL_length, lowerL_length]; exact hlen.symm
  have ok1 : ok2 xs zs = true := ok2_iff.2 ⟨v1, v3, hlen.symm⟩
  have okS : ok2 (sumL xs ys) (lowerL zs us) = true := ok2_iff.2 ⟨vS, vL, hsl⟩
  have okL : ok2 zs xs = true := ok2_iff.2 ⟨v3, v1, hlen⟩
  have okM : ok2 zs (sumL xs ys) = true := ok2_iff.2 ⟨v3, vS, by rw [sumL_length]; exact hlen⟩
  have hge : ∀ i, nth xs i ≤ nth (sumL xs ys) i := fun i => by
    rcases Nat.lt_or_ge i xs.length with h | h
    · rw [nth_sumL h]; have := (v2.bd i).1; omega
    · rw [nth_out h, nth_out (by rw [sumL_length]; exact h)]; exact Int.le_refl _
  have hle : ∀ i, nth (lowerL zs us) i ≤ nth zs i := fun i => by
    rcases Nat.lt_or_ge i zs.length with h | h
    · rw [nth_lowerL h]; omega
    · rw [nth_out h, nth_out (by rw [lowerL_length]; exact h)]; exact Int.le_refl _
  have hab := back_mono (L := xs) (S := zs) (L' := sumL xs ys) (S' := lowerL zs us) (sumL_length xs ys).symm hge hle
  have hcd := delay_mono (L := xs) (S := zs) (L' := sumL xs ys) (S' := lowerL zs us) (sumL_length xs ys).symm hge hle
  have HM := Lib.hid (And.intro (atMostB_iff.2 (left_service v3 fun i => (v1.bd i).1)) (atMostB_iff.2 (left_mono (S := zs) hge)))
  have m121 : xs.length ≤ 121 := v1.2.1
  have mz : zs.length ≤ 1000 := by omega
  have mS : (sumL xs ys).length ≤ maxLen := by rw [sumL_length]; exact M1.out
  have mL : (lowerL zs us).length ≤ maxLen := by rw [lowerL_length]; exact M3.out
  have ml1 : (leftL zs xs).length ≤ 1000 := by rw [leftL_length]; exact mz
  have ml2 : (leftL zs (sumL xs ys)).length ≤ 1000 := by rw [leftL_length]; exact mz
  have hne : (((sumL xs ys).length : Int) != ((lowerL zs us).length : Int)) = false := by rw [hsl]; simp
  have HN := Lib.hid (And.intro mz (And.intro ml1 ml2))
  have HB1 := Lib.hid (fun W r1 r2 => Backlog_yes (A1 := A1) (A2 := A3) (c1 := c1) (c2 := c3) ok1 W r1 r2 M1.out M3.out)
  have HB2 := Lib.hid (fun A A' c c' W r1 r2 => Backlog_yes (A1 := A) (A2 := A') (c1 := c) (c2 := c') okS W r1 r2 mS mL)
  have HD1 := Lib.hid (fun W r1 r2 => Delay_yes (A1 := A1) (A2 := A3) (c1 := c1) (c2 := c3) ok1 W r1 r2 M1.out M3.out)
  have HD2 := Lib.hid (fun A A' c c' W r1 r2 => Delay_yes (A1 := A) (A2 := A') (c1 := c) (c2 := c') okS W r1 r2 mS mL)
  have HF1 := Lib.hid (fun W r1 r2 => Left_yes (A1 := A3) (A2 := A1) (c1 := c3) (c2 := c1) okL W r1 r2 M3.out M1.out)
  have HF2 := Lib.hid (fun A c W r1 r2 => Left_yes (A1 := A3) (A2 := A) (c1 := c3) (c2 := c) okM W r1 r2 M3.out mS)
  clear v1 v2 v3 v4 h21 h43 vS vL hsl ok1 okS okL okM hge hle m121 mz mS mL ml1 ml2 hlen HO HO2
  generalize sumL xs ys = S at *
  generalize lowerL zs us = L at *
  generalize leftL zs xs = F at *
  generalize leftL zs S = G at *
  generalize backTop xs zs = T1 at *
  generalize backTop S L = T2 at *
  generalize delayI xs zs = D1 at *
  generalize delayI S L = D2 at *
  generalize closedL xs = C1 at *
  generalize closedL S = C2 at *
  generalize backOut xs zs = O1 at *
  generalize backOut S L = O2 at *
  obtain ⟨p1, n1⟩ := T1
  obtain ⟨p2, n2⟩ := T2
  dsimp only at hab HB1 HB2
  go_enter Try.func7, Try.ntmps7
  go_upto_region 1 with fail
  have hK := ((((K.out.one (.slice A1 xs.length c1) 26).one (.slice A2 ys.length c2) 26).one (.slice A3 zs.length c3) 26).one (.slice A4 us.length c4) 26)
  simp only [World.size_alloc] at hK
  generalize hgW : (((w.alloc (.cells #[.slice A1 xs.length c1] 26)).alloc (.cells #[.slice A2 ys.length c2] 26)).alloc (.cells #[.slice A3 zs.length c3] 26)).alloc (.cells #[.slice A4 us.length c4] 26) = W0 at *
  clear K hgW
  have K := Lib.hid hK
  clear hK
  have q1 := (K.out.cells (⟨w.heap.size, 0, none⟩, .slice A1 xs.length c1) (List.mem_of_getElem? (i := 3) rfl)).2
  go_upto_region 3 with (first
    | (go_at_call 20; have _t := K8; clear _t; refine (few_any A4 c4 us _ M4.out).mono ?_; rw [F3.out]; rintro e y12 ⟨rfl, hb⟩; have K11 := Lib.hid (And.intro (K8.out.1.ext hb) (trivial)); clear hb)
    | (go_at_call 20; have _t := K5; clear _t; refine (few_any A3 c3 zs _ M3.out).mono ?_; rw [F2.out]; rintro e y9 ⟨rfl, hb⟩; have K8 := Lib.hid (And.intro (K5.out.1.ext hb) (trivial)); have q10 := (K8.out.1.cells (⟨w.heap.size + 1 + 1 + 1, 0, none⟩, .slice A4 us.length c4) (List.mem_of_getElem? (i := 0) rfl)).2; clear hb)
    | (go_at_call 20; have _t := K2; clear _t; refine (few_any A2 c2 ys _ M2.out).mono ?_; rw [F1.out]; rintro e y6 ⟨rfl, hb⟩; have K5 := Lib.hid (And.intro (K2.out.1.ext hb) (trivial)); have q7 := (K5.out.1.cells (⟨w.heap.size + 1 + 1, 0, none⟩, .slice A3 zs.length c3) (List.mem_of_getElem? (i := 1) rfl)).2; clear hb)
    | (go_at_call 20; refine (few_any A1 c1 xs _ M1.out).mono ?_; rw [F0.out]; rintro e y3 ⟨rfl, hb⟩; have K2 := Lib.hid (And.intro (K.out.ext hb) (trivial)); have q4 := (K2.out.1.cells (⟨w.heap.size + 1, 0, none⟩, .slice A2 ys.length c2) (List.mem_of_getElem? (i := 2) rfl)).2; clear hb))
  have hK := K11.out.1
  generalize hgW : y12 = W1 at *
  clear K hgW
  have K := Lib.hid hK
  clear hK
  have q13 := (K.out.cells (⟨w.heap.size, 0, none⟩, .slice A1 xs.length c1) (List.mem_of_getElem? (i := 3) rfl)).2
  have q14 := (K.out.cells (⟨w.heap.size + 1, 0, none⟩, .slice A2 ys.length c2) (List.mem_of_getElem? (i := 2) rfl)).2
  go_upto_region 4 with (go_at_call 27; refine (HS.out _ (K.out.rds (A1, xs) (List.mem_of_getElem? (i := 3) rfl)) (K.out.rds (A2, ys) (List.mem_of_getElem? (i := 2) rfl))).mono ?_; rintro e y16 ⟨A9, c9, rfl, hr, hf, hb⟩; have K15 := Lib.hid (And.intro (K.out.ext hb) hr); clear hr hf hb)
  have hK := K15.out.1.box (A := A9) (c := c9) K15.out.2
  generalize hgW : y16.alloc (.cells #[.slice A9 S.length c9] 26) = W9 at *
  generalize hgg : y16.heap.size = g9 at *
  clear K K15 q13 q14 hgW hgg
  have K := Lib.hid hK
  clear hK
  have q17 := (K.out.cells (⟨w.heap.size + 1 + 1, 0, none⟩, .slice A3 zs.length c3) (List.mem_of_getElem? (i := 2) rfl)).2
  have q18 := (K.out.cells (⟨w.heap.size + 1 + 1 + 1, 0, none⟩, .slice A4 us.length c4) (List.mem_of_getElem? (i := 1) rfl)).2
  go_upto_region 5 with (go_at_call 28; refine (HL.out _ (K.out.rds (A3, zs) (List.mem_of_getElem? (i := 2) rfl)) (K.out.rds (A4, us) (List.mem_of_getElem? (i := 1) rfl))).mono ?_; rintro e y20 ⟨A11, c11, rfl, hr, hf, hb⟩; have K19 := Lib.hid (And.intro (K.out.ext hb) hr); clear hr hf hb)
  have hK := K19.out.1.box (A := A11) (c := c11) K19.out.2
  generalize hgW : y20.alloc (.cells #[.slice A11 L.length c11] 26) = W11 at *
  generalize hgg : y20.heap.size = g11 at *
  clear K K19 q17 q18 hgW hgg
  have K := Lib.hid hK
  clear hK
  have q21 := (K.out.cells (⟨g9, 0, none⟩, .slice A9 S.length c9) (List.mem_of_getElem? (i := 1) rfl)).2
  have q22 := (K.out.cells (⟨g11, 0, none⟩, .slice A11 L.length c11) (List.mem_of_getElem? (i := 0) rfl)).2
  go_upto_region 7 with fail
  clear q21 q22
  have q23 := (K.out.cells (⟨w.heap.size, 0, none⟩, .slice A1 xs.length c1) (List.mem_of_getElem? (i := 5) rfl)).2
  have q24 := (K.out.cells (⟨w.heap.size + 1 + 1, 0, none⟩, .slice A3 zs.length c3) (List.mem_of_getElem? (i := 3) rfl)).2
  go_upto_region 8 with (go_at_call 29; refine (HB1.out _ (K.out.rds (A1, xs) (List.mem_of_getElem? (i := 5) rfl)) (K.out.rds (A3, zs) (List.mem_of_getElem? (i := 3) rfl))).mono ?_; rintro e y26 ⟨A14, c14, B14, b14, rfl, hr, hr', hf, hf', hb⟩; have K25 := Lib.hid (And.intro (K.out.ext hb) (And.intro hr hr')); clear hr hr' hf hf' hb)
  have hK := ((K25.out.1.addRd K25.out.2.1).addRd K25.out.2.2).three (.slice A14 C1.length c14) (.slice B14 O1.length b14) (.int .i64 p1) 45
  generalize hgW : y26.alloc (.cells #[.slice A14 C1.length c14, .slice B14 O1.length b14, .int .i64 p1] 45) = W14 at *
  generalize hgg : y26.heap.size = g14 at *
  clear K K25 q23 q24 hgW hgg
  have K := Lib.hid hK
  clear hK
  have q27 := (K.out.cells (⟨g9, 0, none⟩, .slice A9 S.length c9) (List.mem_of_getElem? (i := 4) rfl)).2
  have q28 := (K.out.cells (⟨g11, 0, none⟩, .slice A11 L.length c11) (List.mem_of_getElem? (i := 3) rfl)).2
  go_upto_region 9 with (go_at_call 29; refine (HB2.out A9 A11 c9 c11 _ (K.out.rds (A9, S) (List.mem_of_getElem? (i := 3) rfl)) (K.out.rds (A11, L) (List.mem_of_getElem? (i := 2) rfl))).mono ?_; rintro e y30 ⟨A17, c17, B17, b17, rfl, hr, hr', hf, hf', hb⟩; have K29 := Lib.hid (And.intro (K.out.ext hb) (And.intro hr hr')); clear hr hr' hf hf' hb)
  have hK := ((K29.out.1.addRd K29.out.2.1).addRd K29.out.2.2).three (.slice A17 C2.length c17) (.slice B17 O2.length b17) (.int .i64 p2) 45
  generalize hgW : y30.alloc (.cells #[.slice A17 C2.length c17, .slice B17 O2.length b17, .int .i64 p2] 45) = W17 at *
  generalize hgg : y30.heap.size = g17 at *
  clear K K29 q27 q28 hgW hgg
  have K := Lib.hid hK
  clear hK
  have q31 := (K.out.cells (⟨w.heap.size, 0, none⟩, .slice A1 xs.length c1) (List.mem_of_getElem? (i := 11) rfl)).2
  have q32 := (K.out.cells (⟨w.heap.size + 1 + 1, 0, none⟩, .slice A3 zs.length c3) (List.mem_of_getElem? (i := 9) rfl)).2
  go_upto_region 10 with (go_at_call 30; refine (HD1.out _ (K.out.rds (A1, xs) (List.mem_of_getElem? (i := 9) rfl)) (K.out.rds (A3, zs) (List.mem_of_getElem? (i := 7) rfl))).mono ?_; rintro e y34 ⟨rfl, hb⟩; have K33 := Lib.hid (K.out.ext hb); clear hb)
  clear K q31 q32
  have K := K33
  clear K33
  have q35 := (K.out.cells (⟨g9, 0, none⟩, .slice A9 S.length c9) (List.mem_of_getElem? (i := 7) rfl)).2
  have q36 := (K.out.cells (⟨g11, 0, none⟩, .slice A11 L.length c11) (List.mem_of_getElem? (i := 6) rfl)).2
  go_upto_region 11 with (go_at_call 30; refine (HD2.out A9 A11 c9 c11 _ (K.out.rds (A9, S) (List.mem_of_getElem? (i := 5) rfl)) (K.out.rds (A11, L) (List.mem_of_getElem? (i := 4) rfl))).mono ?_; rintro e y38 ⟨rfl, hb⟩; have K37 := Lib.hid (K.out.ext hb); clear hb)
  clear K q35 q36
  have K := K37
  clear K37
  have q39 := (K.out.cells (⟨w.heap.size + 1 + 1, 0, none⟩, .slice A3 zs.length c3) (List.mem_of_getElem? (i := 9) rfl)).2
  have q40 := (K.out.cells (⟨w.heap.size, 0, none⟩, .slice A1 xs.length c1) (List.mem_of_getElem? (i := 11) rfl)).2
  go_upto_region 12 with (go_at_call 31; refine (HF1.out _ (K.out.rds (A3, zs) (List.mem_of_getElem? (i := 7) rfl)) (K.out.rds (A1, xs) (List.mem_of_getElem? (i := 9) rfl))).mono ?_; rintro e y42 ⟨A23, c23, rfl, hr, hf, hb⟩; have K41 := Lib.hid (And.intro (K.out.ext hb) hr); clear hr hf hb)
  have hK := K41.out.1.box (A := A23) (c := c23) K41.out.2
  generalize hgW : y42.alloc (.cells #[.slice A23 F.length c23] 26) = W23 at *
  generalize hgg : y42.heap.size = g23 at *
  clear K K41 q39 q40 hgW hgg
  have K := Lib.hid hK
  clear hK
  have q43 := (K.out.cells (⟨w.heap.size + 1 + 1, 0, none⟩, .slice A3 zs.length c3) (List.mem_of_getElem? (i := 10) rfl)).2
  have q44 := (K.out.cells (⟨g9, 0, none⟩, .slice A9 S.length c9) (List.mem_of_getElem? (i := 8) rfl)).2
  go_upto_region 13 with (go_at_call 31; refine (HF2.out A9 c9 _ (K.out.rds (A3, zs) (List.mem_of_getElem? (i := 8) rfl)) (K.out.rds (A9, S) (List.mem_of_getElem? (i := 6) rfl))).mono ?_; rintro e y46 ⟨A25, c25, rfl, hr, hf, hb⟩; have K45 := Lib.hid (And.intro (K.out.ext hb) hr); clear hr hf hb)
  have hK := K45.out.1.box (A := A25) (c := c25) K45.out.2
  generalize hgW : y46.alloc (.cells #[.slice A25 G.length c25] 26) = W25 at *
  generalize hgg : y46.heap.size = g25 at *
  clear K K45 q43 q44 hgW hgg
  have K := Lib.hid hK
  clear hK
  go_wp2_with (first
    | (go_at_call 24; have _t := K51; clear _t; refine (atMost_any A25 A23 c25 c23 G F _ (K51.out.1.rds (A25, G) (List.mem_of_getElem? (i := 0) rfl)) (K51.out.1.rds (A23, F) (List.mem_of_getElem? (i := 1) rfl)) HN.out.2.2 HN.out.2.1).mono ?_; rw [HM.out.2]; rintro e y56 ⟨rfl, hb⟩; have K55 := Lib.hid (And.intro (K51.out.1.ext hb) (trivial)); clear hb)
    | (go_at_call 24; have _t := K47; clear _t; refine (atMost_any A23 A3 c23 c3 F zs _ (K47.out.1.rds (A23, F) (List.mem_of_getElem? (i := 1) rfl)) (K47.out.1.rds (A3, zs) (List.mem_of_getElem? (i := 9) rfl)) HN.out.2.1 HN.out.1).mono ?_; rw [HM.out.1]; rintro e y52 ⟨rfl, hb⟩; have K51 := Lib.hid (And.intro (K47.out.1.ext hb) (trivial)); have q53 := (K51.out.1.cells (⟨g25, 0, none⟩, .slice A25 G.length c25) (List.mem_of_getElem? (i := 0) rfl)).2; have q54 := (K51.out.1.cells (⟨g23, 0, none⟩, .slice A23 F.length c23) (List.mem_of_getElem? (i := 1) rfl)).2; clear hb)
    | (go_at_call 16; refine (sanity_any _).mono ?_; rintro e y48 ⟨rfl, hb⟩; have K47 := Lib.hid (And.intro (K.out.ext hb) (trivial)); have q49 := (K47.out.1.cells (⟨g23, 0, none⟩, .slice A23 F.length c23) (List.mem_of_getElem? (i := 1) rfl)).2; have q50 := (K47.out.1.cells (⟨w.heap.size + 1 + 1, 0, none⟩, .slice A3 zs.length c3) (List.mem_of_getElem? (i := 11) rfl)).2; clear hb))
  go_ret
  exact ⟨rfl, K55.out.1.bl⟩
end Go.Proofs.Ytknkneccnhgjmaa
