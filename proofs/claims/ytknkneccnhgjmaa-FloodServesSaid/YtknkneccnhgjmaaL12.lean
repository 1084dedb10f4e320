/- Walk: the law FloodServes. -/
import Derived.Test.YtknkneccnhgjmaaG12
import Derived.Test.YtknkneccnhgjmaaL7
namespace Go.Proofs.Ytknkneccnhgjmaa
open Go.RowKit Go.Shelf

theorem Least_yes {A1 A2 : Option Addr} {c1 c2 : Nat} {xs ys : List Int} (h : ok2 xs ys = true) (w : World) (r1 : Rd w w.heap.size A1 xs) (r2 : Rd w w.heap.size A2 ys) (m1 : xs.length ≤ maxLen) (m2 : ys.length ≤ maxLen) :
    Calls Try.prog 38 #[.agg #[.slice A1 xs.length c1], .agg #[.slice A2 ys.length c2]] w fun e w' => RCE w (leastL xs ys) 0 e w' := by
  have := Least_any A1 A2 c1 c2 xs ys w r1 r2 m1 m2
  rwa [h, pick_t, errB_t] at this
theorem Least_no {A1 A2 : Option Addr} {c1 c2 : Nat} {xs ys : List Int} (h : ok2 xs ys = false) (w : World) (r1 : Rd w w.heap.size A1 xs) (r2 : Rd w w.heap.size A2 ys) (m1 : xs.length ≤ maxLen) (m2 : ys.length ≤ maxLen) :
    Calls Try.prog 38 #[.agg #[.slice A1 xs.length c1], .agg #[.slice A2 ys.length c2]] w fun e w' => RCE w [] 1 e w' := by
  have := Least_any A1 A2 c1 c2 xs ys w r1 r2 m1 m2
  rwa [h, pick_f, errB_f] at this
/-- With a service that begins with 0, what is served at least is the course and the service, joined. -/
theorem least_join {xs ys : List Int} (h : nth ys 0 = 0) : leastL xs ys = joinL xs ys := by
  have e : (leastL xs ys).length = (joinL xs ys).length := by rw [leastL_length, joinL_length]
  refine nth_ext e fun i hi => ?_
  rw [leastL_length] at hi
  rw [nth_leastL hi, nth_joinL hi]
  have := joinAt_le xs ys (Nat.le_refl i)
  rw [Nat.sub_self, h] at this
  omega
theorem two_reaches {xs zs us : List Int} (hl : zs.length = xs.length) (hz : 1 ≤ zs.length) (h1 : nth zs 0 = 0) (h2 : nth us 0 = 0) : leastL (leastL xs zs) us = leastL xs (joinL zs us) := by
  rw [least_join h1, least_join h2, least_join (ys := joinL zs us), joinL_assoc xs zs us hl]
  rw [nth_joinL (by omega)]
  have h := splitAt_le zs us 0
  rw [joinAt_eq, show splitAt zs us 0 = 0 by omega, Nat.sub_self, h1, h2]
  rfl
theorem served_least {xs zs : List Int} (h : ok2 xs zs = true) : ok3 xs (leastL xs zs) zs = true ∧ servedB xs (leastL xs zs) zs = true ∧ ok2 xs (leastL xs zs) = true := by
  obtain ⟨vx, vz, he⟩ := ok2_iff.1 h
  have k2 : ok2 xs (leastL xs zs) = true := ok2_iff.2 ⟨vx, leastL_valid vx vz he, leastL_length xs zs⟩
  have k1 : ok3 xs (leastL xs zs) zs = true := by
    rw [ok3_eq]
    unfold ok3'
    rw [k2, h]
    rfl
  refine ⟨k1, ?_, k2⟩
  unfold servedB
  rw [k1, decide_eq_true (failsI_neg_iff.2 fun t ht => ⟨least_le t ht, Int.le_refl _⟩)]
  rfl
theorem served_most {xs ys zs : List Int} (h2 : errB (ok3 xs ys zs) = 0) (h4 : servedB xs ys zs = true) : atMostB (leastL xs zs) ys = true ∧ atMostB ys xs = true ∧ ys.length ≤ 1000 := by
  have k2 : ok3 xs ys zs = true := by
    cases h : ok3 xs ys zs
    · rw [h] at h2; exact absurd h2 (by decide)
    · rfl
  have hs : failsI xs ys zs < 0 := by
    unfold servedB at h4
    rw [k2, Bool.true_and, decide_eq_true_eq] at h4
    exact h4
  rw [failsI_neg_iff] at hs
  have k3 : ok2 xs ys = true := by
    rw [ok3_eq] at k2
    unfold ok3' at k2
    rw [Bool.and_eq_true] at k2
    exact k2.1
  obtain ⟨vx, vy, hy⟩ := ok2_iff.1 k3
  have := vx.2.1
  exact ⟨atMostB_iff.2 ⟨by rw [leastL_length]; exact hy, fun i hi => (hs i (by rw [leastL_length] at hi; exact hi)).2⟩, atMostB_iff.2 ⟨hy.symm, fun i hi => (hs i (by omega)).1⟩, by omega⟩

/-- Two curves in a chain. -/
theorem chain2 (A1 A2 : Option Addr) (c1 c2 : Nat) (xs ys : List Int) (w : World) (r1 : Rd w w.heap.size A1 xs) (r2 : Rd w w.heap.size A2 ys) (m1 : xs.length ≤ maxLen) (m2 : ys.length ≤ maxLen) :
    Calls Try.prog 55 #[.slice (some ⟨w.heap.size, 0, none⟩) 2 2] (w.alloc (.cells #[.slice A1 xs.length c1, .slice A2 ys.length c2] 26)) fun e w' => RCE w (pick (ok2 xs ys && fitB (joinL xs ys)) (joinL xs ys)) (if ok2 xs ys then rngB (joinL xs ys) else 1) e w' := by
  have hb : Below w.heap.size w (w.alloc (.cells #[.slice A1 xs.length c1, .slice A2 ys.length c2] 26)) := (Below.refl _ w).alloc (Nat.le_refl _) _
  have h : RdC (w.alloc (.cells #[.slice A1 xs.length c1, .slice A2 ys.length c2] 26)) (w.alloc (.cells #[.slice A1 xs.length c1, .slice A2 ys.length c2] 26)).heap.size (some ⟨w.heap.size, 0, none⟩) [⟨A1, c1, xs⟩, ⟨A2, c2, ys⟩] := by
    refine ⟨fun _ => ⟨_, _, rfl, by simp, fun i hi => ?_⟩, fun i hi => ?_⟩
    · match i, hi with
      | 0, _ => simp [go_sem, Cv.v]
      | 1, _ => simp [go_sem, Cv.v]
    · match i, hi with
      | 0, _ => exact r1.ext hb
      | 1, _ => exact r2.ext hb
  have hc := Chain_any (some ⟨w.heap.size, 0, none⟩) 2 [⟨A1, c1, xs⟩, ⟨A2, c2, ys⟩] _ h (by simp) (fun i hi => by
    match i, hi with
    | 0, _ => exact m1
    | 1, _ => exact m2) (by simp)
  have hE : chainE [⟨A1, c1, xs⟩, ⟨A2, c2, ys⟩] = if ok2 xs ys then rngB (joinL xs ys) else 1 := by
    unfold chainE
    rw [rightB_two]
    have : chainFit [⟨A1, c1, xs⟩, ⟨A2, c2, ys⟩] ([(⟨A1, c1, xs⟩ : Cv), ⟨A2, c2, ys⟩].length - 1) = fitB (joinL xs ys) := by simp [chainFit, chainTo]
    rw [this]
    rfl
  have hP : pick (decide (chainE [⟨A1, c1, xs⟩, ⟨A2, c2, ys⟩] = 0)) (chainTo [⟨A1, c1, xs⟩, ⟨A2, c2, ys⟩] ([(⟨A1, c1, xs⟩ : Cv), ⟨A2, c2, ys⟩].length - 1)) = pick (ok2 xs ys && fitB (joinL xs ys)) (joinL xs ys) := by
    rw [hE]
    show pick _ (joinL xs ys) = _
    cases ok2 xs ys
    · rfl
    · rw [if_pos rfl]
      rcases fit_cases (joinL xs ys) with ⟨_, h1, h2⟩ | ⟨_, h1, h2⟩ <;> rw [h1, h2] <;> rfl
  rw [hP, hE] at hc
  refine hc.mono fun e w' ⟨A, c, he, hr, hf, hb'⟩ => ⟨A, c, he, hr, hf.mono hb.size, hb.trans (hb'.mono hb.size)⟩

set_option maxRecDepth 100000 in
set_option maxHeartbeats 8000000 in
theorem FloodServes_row (w : World) (A1 : Option Addr) (c1 : Nat) (xs : List Int) (r1 : Rd w w.heap.size A1 xs) (m1 : xs.length ≤ maxLen) (A2 : Option Addr) (c2 : Nat) (ys : List Int) (r2 : Rd w w.heap.size A2 ys) (m2 : ys.length ≤ maxLen)
    (A3 : Option Addr) (c3 : Nat) (zs : List Int) (r3 : Rd w w.heap.size A3 zs) (m3 : zs.length ≤ maxLen) (A4 : Option Addr) (c4 : Nat) (us : List Int) (r4 : Rd w w.heap.size A4 us) (m4 : us.length ≤ maxLen) :
    Calls Try.prog 12 #[.agg #[.slice A1 xs.length c1], .agg #[.slice A2 ys.length c2], .agg #[.slice A3 zs.length c3], .agg #[.slice A4 us.length c4]] w fun e w' => e = .returned (.bool true) ∧ Below w.heap.size w w' := by
  have hK : Ex w w [] [] := ⟨Below.refl _ _, fun p hp => (by cases hp), fun p hp => (by cases hp)⟩
  have K := Lib.hid ((((hK.addRd r1).addRd r2).addRd r3).addRd r4)
  have M1 := Lib.hid m1
  have M2 := Lib.hid m2
  have M3 := Lib.hid m3
  have M4 := Lib.hid m4
  clear hK r1 r2 r3 r4 m1 m2 m3 m4
  cases hf0 : fewB xs with
  | false =>
    have F0 := Lib.hid hf0
    clear hf0
    go_enter Try.func12, Try.ntmps12
    go_upto_region 1 with fail
    have hK := ((((K.out.one (.slice A1 xs.length c1) 26).one (.slice A2 ys.length c2) 26).one (.slice A3 zs.length c3) 26).one (.slice A4 us.length c4) 26)
    simp only [World.size_alloc] at hK
    generalize hgW : (((w.alloc (.cells #[.slice A1 xs.length c1] 26)).alloc (.cells #[.slice A2 ys.length c2] 26)).alloc (.cells #[.slice A3 zs.length c3] 26)).alloc (.cells #[.slice A4 us.length c4] 26) = W0 at *
    clear K hgW
    have K := Lib.hid hK
    clear hK
    have q1 := (K.out.cells (⟨w.heap.size, 0, none⟩, .slice A1 xs.length c1) (List.mem_of_getElem? (i := 3) rfl)).2
    go_wp2_with (first
      | (go_at_call 16; have _t := K2; clear _t; refine (sanity_any _).mono ?_; rintro e y6 ⟨rfl, hb⟩; have K5 := Lib.hid (And.intro (K2.out.1.ext hb) (trivial)); clear hb)
      | (go_at_call 20; refine (few_any A1 c1 xs _ M1.out).mono ?_; rw [F0.out]; rintro e y3 ⟨rfl, hb⟩; have K2 := Lib.hid (And.intro (K.out.ext hb) (trivial)); have q4 := (K2.out.1.cells (⟨w.heap.size + 1, 0, none⟩, .slice A2 ys.length c2) (List.mem_of_getElem? (i := 2) rfl)).2; clear hb))
    go_ret
    exact ⟨rfl, K5.out.1.bl⟩
  | true =>
  have F0 := Lib.hid hf0
  clear hf0
  cases hf1 : fewB ys with
  | false =>
    have F1 := Lib.hid hf1
    clear hf1
    go_enter Try.func12, Try.ntmps12
    go_upto_region 1 with fail
    have hK := ((((K.out.one (.slice A1 xs.length c1) 26).one (.slice A2 ys.length c2) 26).one (.slice A3 zs.length c3) 26).one (.slice A4 us.length c4) 26)
    simp only [World.size_alloc] at hK
    generalize hgW : (((w.alloc (.cells #[.slice A1 xs.length c1] 26)).alloc (.cells #[.slice A2 ys.length c2] 26)).alloc (.cells #[.slice A3 zs.length c3] 26)).alloc (.cells #[.slice A4 us.length c4] 26) = W0 at *
    clear K hgW
    have K := Lib.hid hK
    clear hK
    have q1 := (K.out.cells (⟨w.heap.size, 0, none⟩, .slice A1 xs.length c1) (List.mem_of_getElem? (i := 3) rfl)).2
    go_wp2_with (first
      | (go_at_call 16; have _t := K5; clear _t; refine (sanity_any _).mono ?_; rintro e y9 ⟨rfl, hb⟩; have K8 := Lib.hid (And.intro (K5.out.1.ext hb) (trivial)); clear hb)
      | (go_at_call 20; have _t := K2; clear _t; refine (few_any A2 c2 ys _ M2.out).mono ?_; rw [F1.out]; rintro e y6 ⟨rfl, hb⟩; have K5 := Lib.hid (And.intro (K2.out.1.ext hb) (trivial)); have q7 := (K5.out.1.cells (⟨w.heap.size + 1 + 1, 0, none⟩, .slice A3 zs.length c3) (List.mem_of_getElem? (i := 1) rfl)).2; clear hb)
      | (go_at_call 20; refine (few_any A1 c1 xs _ M1.out).mono ?_; rw [F0.out]; rintro e y3 ⟨rfl, hb⟩; have K2 := Lib.hid (And.intro (K.out.ext hb) (trivial)); have q4 := (K2.out.1.cells (⟨w.heap.size + 1, 0, none⟩, .slice A2 ys.length c2) (List.mem_of_getElem? (i := 2) rfl)).2; clear hb))
    go_ret
    exact ⟨rfl, K8.out.1.bl⟩
  | true =>
  have F1 := Lib.hid hf1
  clear hf1
  cases hf2 : fewB zs with
  | false =>
    have F2 := Lib.hid hf2
    clear hf2
    go_enter Try.func12, Try.ntmps12
    go_upto_region 1 with fail
    have hK := ((((K.out.one (.slice A1 xs.length c1) 26).one (.slice A2 ys.length c2) 26).one (.slice A3 zs.length c3) 26).one (.slice A4 us.length c4) 26)
    simp only [World.size_alloc] at hK
    generalize hgW : (((w.alloc (.cells #[.slice A1 xs.length c1] 26)).alloc (.cells #[.slice A2 ys.length c2] 26)).alloc (.cells #[.slice A3 zs.length c3] 26)).alloc (.cells #[.slice A4 us.length c4] 26) = W0 at *
    clear K hgW
    have K := Lib.hid hK
    clear hK
    have q1 := (K.out.cells (⟨w.heap.size, 0, none⟩, .slice A1 xs.length c1) (List.mem_of_getElem? (i := 3) rfl)).2
    go_wp2_with (first
      | (go_at_call 16; have _t := K8; clear _t; refine (sanity_any _).mono ?_; rintro e y12 ⟨rfl, hb⟩; have K11 := Lib.hid (And.intro (K8.out.1.ext hb) (trivial)); clear hb)
      | (go_at_call 20; have _t := K5; clear _t; refine (few_any A3 c3 zs _ M3.out).mono ?_; rw [F2.out]; rintro e y9 ⟨rfl, hb⟩; have K8 := Lib.hid (And.intro (K5.out.1.ext hb) (trivial)); have q10 := (K8.out.1.cells (⟨w.heap.size + 1 + 1 + 1, 0, none⟩, .slice A4 us.length c4) (List.mem_of_getElem? (i := 0) rfl)).2; clear hb)
      | (go_at_call 20; have _t := K2; clear _t; refine (few_any A2 c2 ys _ M2.out).mono ?_; rw [F1.out]; rintro e y6 ⟨rfl, hb⟩; have K5 := Lib.hid (And.intro (K2.out.1.ext hb) (trivial)); have q7 := (K5.out.1.cells (⟨w.heap.size + 1 + 1, 0, none⟩, .slice A3 zs.length c3) (List.mem_of_getElem? (i := 1) rfl)).2; clear hb)
      | (go_at_call 20; refine (few_any A1 c1 xs _ M1.out).mono ?_; rw [F0.out]; rintro e y3 ⟨rfl, hb⟩; have K2 := Lib.hid (And.intro (K.out.ext hb) (trivial)); have q4 := (K2.out.1.cells (⟨w.heap.size + 1, 0, none⟩, .slice A2 ys.length c2) (List.mem_of_getElem? (i := 2) rfl)).2; clear hb))
    go_ret
    exact ⟨rfl, K11.out.1.bl⟩
  | true =>
  have F2 := Lib.hid hf2
  clear hf2
  cases hf3 : fewB us with
  | false =>
    have F3 := Lib.hid hf3
    clear hf3
    go_enter Try.func12, Try.ntmps12
    go_upto_region 1 with fail
    have hK := ((((K.out.one (.slice A1 xs.length c1) 26).one (.slice A2 ys.length c2) 26).one (.slice A3 zs.length c3) 26).one (.slice A4 us.length c4) 26)
    simp only [World.size_alloc] at hK
    generalize hgW : (((w.alloc (.cells #[.slice A1 xs.length c1] 26)).alloc (.cells #[.slice A2 ys.length c2] 26)).alloc (.cells #[.slice A3 zs.length c3] 26)).alloc (.cells #[.slice A4 us.length c4] 26) = W0 at *
    clear K hgW
    have K := Lib.hid hK
    clear hK
    have q1 := (K.out.cells (⟨w.heap.size, 0, none⟩, .slice A1 xs.length c1) (List.mem_of_getElem? (i := 3) rfl)).2
    go_wp2_with (first
      | (go_at_call 16; have _t := K11; clear _t; refine (sanity_any _).mono ?_; rintro e y14 ⟨rfl, hb⟩; have K13 := Lib.hid (And.intro (K11.out.1.ext hb) (trivial)); clear hb)
      | (go_at_call 20; have _t := K8; clear _t; refine (few_any A4 c4 us _ M4.out).mono ?_; rw [F3.out]; rintro e y12 ⟨rfl, hb⟩; have K11 := Lib.hid (And.intro (K8.out.1.ext hb) (trivial)); clear hb)
      | (go_at_call 20; have _t := K5; clear _t; refine (few_any A3 c3 zs _ M3.out).mono ?_; rw [F2.out]; rintro e y9 ⟨rfl, hb⟩; have K8 := Lib.hid (And.intro (K5.out.1.ext hb) (trivial)); have q10 := (K8.out.1.cells (⟨w.heap.size + 1 + 1 + 1, 0, none⟩, .slice A4 us.length c4) (List.mem_of_getElem? (i := 0) rfl)).2; clear hb)
      | (go_at_call 20; have _t := K2; clear _t; refine (few_any A2 c2 ys _ M2.out).mono ?_; rw [F1.out]; rintro e y6 ⟨rfl, hb⟩; have K5 := Lib.hid (And.intro (K2.out.1.ext hb) (trivial)); have q7 := (K5.out.1.cells (⟨w.heap.size + 1 + 1, 0, none⟩, .slice A3 zs.length c3) (List.mem_of_getElem? (i := 1) rfl)).2; clear hb)
      | (go_at_call 20; refine (few_any A1 c1 xs _ M1.out).mono ?_; rw [F0.out]; rintro e y3 ⟨rfl, hb⟩; have K2 := Lib.hid (And.intro (K.out.ext hb) (trivial)); have q4 := (K2.out.1.cells (⟨w.heap.size + 1, 0, none⟩, .slice A2 ys.length c2) (List.mem_of_getElem? (i := 2) rfl)).2; clear hb))
    go_ret
    exact ⟨rfl, K13.out.1.bl⟩
  | true =>
  have F3 := Lib.hid hf3
  clear hf3
  cases ho : ok2 xs zs
  case false =>
    have HL := Lib.hid (fun W r1 r2 => Least_no (A1 := A1) (A2 := A3) (c1 := c1) (c2 := c3) ho W r1 r2 M1.out M3.out)
    clear ho
    go_enter Try.func12, Try.ntmps12
    go_upto_region 1 with fail
    have hK := ((((K.out.one (.slice A1 xs.length c1) 26).one (.slice A2 ys.length c2) 26).one (.slice A3 zs.length c3) 26).one (.slice A4 us.length c4) 26)
    simp only [World.size_alloc] at hK
    generalize hgW : (((w.alloc (.cells #[.slice A1 xs.length c1] 26)).alloc (.cells #[.slice A2 ys.length c2] 26)).alloc (.cells #[.slice A3 zs.length c3] 26)).alloc (.cells #[.slice A4 us.length c4] 26) = W0 at *
    clear K hgW
    have K := Lib.hid hK
    clear hK
    have q1 := (K.out.cells (⟨w.heap.size, 0, none⟩, .slice A1 xs.length c1) (List.mem_of_getElem? (i := 3) rfl)).2
    go_upto_region 3 with (first
      | (go_at_call 20; have _t := K8; clear _t; refine (few_any A4 c4 us _ M4.out).mono ?_; rw [F3.out]; rintro e y12 ⟨rfl, hb⟩; have K11 := Lib.hid (And.intro (K8.out.1.ext hb) (trivial)); clear hb)
      | (go_at_call 20; have _t := K5; clear _t; refine (few_any A3 c3 zs _ M3.out).mono ?_; rw [F2.out]; rintro e y9 ⟨rfl, hb⟩; have K8 := Lib.hid (And.intro (K5.out.1.ext hb) (trivial)); have q10 := (K8.out.1.cells (⟨w.heap.size + 1 + 1 + 1, 0, none⟩, .slice A4 us.length c4) (List.mem_of_getElem? (i := 0) rfl)).2; clear hb)
      | (go_at_call 20; have _t := K2; clear _t; refine (few_any A2 c2 ys _ M2.out).mono ?_; rw [F1.out]; rintro e y6 ⟨rfl, hb⟩; have K5 := Lib.hid (And.intro (K2.out.1.ext hb) (trivial)); have q7 := (K5.out.1.cells (⟨w.heap.size + 1 + 1, 0, none⟩, .slice A3 zs.length c3) (List.mem_of_getElem? (i := 1) rfl)).2; clear hb)
      | (go_at_call 20; refine (few_any A1 c1 xs _ M1.out).mono ?_; rw [F0.out]; rintro e y3 ⟨rfl, hb⟩; have K2 := Lib.hid (And.intro (K.out.ext hb) (trivial)); have q4 := (K2.out.1.cells (⟨w.heap.size + 1, 0, none⟩, .slice A2 ys.length c2) (List.mem_of_getElem? (i := 2) rfl)).2; clear hb))
    have hK := K11.out.1
    generalize hgW : y12 = W1 at *
    clear K hgW
    have K := Lib.hid hK
    clear hK
    have q13 := (K.out.cells (⟨w.heap.size, 0, none⟩, .slice A1 xs.length c1) (List.mem_of_getElem? (i := 3) rfl)).2
    have q14 := (K.out.cells (⟨w.heap.size + 1 + 1, 0, none⟩, .slice A3 zs.length c3) (List.mem_of_getElem? (i := 1) rfl)).2
    go_upto_region 4 with (go_at_call 38; refine (HL.out _ (K.out.rds (A1, xs) (List.mem_of_getElem? (i := 3) rfl)) (K.out.rds (A3, zs) (List.mem_of_getElem? (i := 1) rfl))).mono ?_; rintro e y16 ⟨A9, c9, rfl, hr, hf, hb⟩; have K15 := Lib.hid (And.intro (K.out.ext hb) hr); clear hr hf hb)
    have hK := K15.out.1.box (A := A9) (c := c9) K15.out.2
    generalize hgW : y16.alloc (.cells #[.slice A9 ([] : List Int).length c9] 26) = W9 at *
    generalize hgg : y16.heap.size = g9 at *
    clear K K15 q13 q14 hgW hgg
    have K := Lib.hid hK
    clear hK
    go_wp2_with (go_at_call 16; refine (sanity_any _).mono ?_; rintro e y18 ⟨rfl, hb⟩; have K17 := Lib.hid (And.intro (K.out.ext hb) (trivial)); clear hb)
    go_ret
    exact ⟨rfl, K17.out.1.bl⟩
  case true =>
    have HL := Lib.hid (fun W r1 r2 => Least_yes (A1 := A1) (A2 := A3) (c1 := c1) (c2 := c3) ho W r1 r2 M1.out M3.out)
    obtain ⟨vx, vz, hzx⟩ := ok2_iff.1 ho
    obtain ⟨s1, s2, s3⟩ := served_least ho
    have hLl : (leastL xs zs).length = xs.length := leastL_length xs zs
    have m121 := vx.2.1
    have ml : (leastL xs zs).length ≤ 1000 := by omega
    have ml2 : (leastL xs zs).length ≤ maxLen := by rw [hLl]; exact M1.out
    have HS1 := Lib.hid (fun A c W r1 r2 r3 => Served_any A1 A A3 c1 c c3 xs (leastL xs zs) zs W r1 r2 r3 M1.out ml2 M3.out)
    rw [s1, s2, errB_t] at HS1
    have HS2 := Lib.hid (fun W r1 r2 r3 => Served_any A1 A2 A3 c1 c2 c3 xs ys zs W r1 r2 r3 M1.out M2.out M3.out)
    have HM := Lib.hid (fun h2 h4 => served_most (xs := xs) (ys := ys) (zs := zs) h2 h4)
    have HC := Lib.hid (fun W r1 r2 => chain2 A3 A4 c3 c4 zs us W r1 r2 M3.out M4.out)
    have HZ := Lib.hid (fun (h : ok2 zs us = true) (h1 : nth zs 0 = 0) (h2 : nth us 0 = 0) => two_reaches (us := us) hzx vz.1 h1 h2)
    have hX : ∀ (h : ok2 zs us = true) (A c W) (r1 : Rd W W.heap.size A (leastL xs zs)) (r2 : Rd W W.heap.size A4 us), Calls Try.prog 38 #[.agg #[.slice A (leastL xs zs).length c], .agg #[.slice A4 us.length c4]] W fun e w' => RCE W (leastL (leastL xs zs) us) 0 e w' := fun h A c W r1 r2 =>
      Least_yes (ok2_iff.2 ⟨(ok2_iff.1 s3).2.1, (ok2_iff.1 h).2.1, by rw [hLl]; exact (ok2_iff.1 h).2.2.trans hzx⟩) W r1 r2 ml2 M4.out
    have hY : ∀ (h : ok2 zs us = true) (hf : fitB (joinL zs us) = true) (A c W) (r1 : Rd W W.heap.size A1 xs) (r2 : Rd W W.heap.size A (joinL zs us)), Calls Try.prog 38 #[.agg #[.slice A1 xs.length c1], .agg #[.slice A (joinL zs us).length c]] W fun e w' => RCE W (leastL xs (joinL zs us)) 0 e w' := fun h hf A c W r1 r2 =>
      Least_yes (ok2_iff.2 ⟨vx, joinL_valid vz (ok2_iff.1 h).2.1 (ok2_iff.1 h).2.2 hf, by rw [joinL_length]; exact hzx⟩) W r1 r2 M1.out (by rw [joinL_length]; exact M3.out)
    have HX := Lib.hid hX
    have HY := Lib.hid hY
    have HN := Lib.hid (And.intro ml (And.intro (show xs.length ≤ 1000 by omega) (And.intro (show (leastL (leastL xs zs) us).length ≤ 1000 by rw [leastL_length]; exact ml) vz)))
    clear ho vx vz hzx s1 s2 s3 hLl m121 ml ml2 hX hY
    generalize leastL xs zs = L at *
    generalize leastL L us = X1 at *
    generalize leastL xs (joinL zs us) = Y1 at *
    generalize servedN xs L zs = n0 at *
    generalize servedN xs ys zs = n1 at *
    generalize servedB xs ys zs = B2 at *
    generalize errB (ok3 xs ys zs) = E2 at *
    go_enter Try.func12, Try.ntmps12
    go_upto_region 1 with fail
    have hK := ((((K.out.one (.slice A1 xs.length c1) 26).one (.slice A2 ys.length c2) 26).one (.slice A3 zs.length c3) 26).one (.slice A4 us.length c4) 26)
    simp only [World.size_alloc] at hK
    generalize hgW : (((w.alloc (.cells #[.slice A1 xs.length c1] 26)).alloc (.cells #[.slice A2 ys.length c2] 26)).alloc (.cells #[.slice A3 zs.length c3] 26)).alloc (.cells #[.slice A4 us.length c4] 26) = W0 at *
    clear K hgW
    have K := Lib.hid hK
    clear hK
    have q1 := (K.out.cells (⟨w.heap.size, 0, none⟩, .slice A1 xs.length c1) (List.mem_of_getElem? (i := 3) rfl)).2
    go_upto_region 3 with (first
      | (go_at_call 20; have _t := K8; clear _t; refine (few_any A4 c4 us _ M4.out).mono ?_; rw [F3.out]; rintro e y12 ⟨rfl, hb⟩; have K11 := Lib.hid (And.intro (K8.out.1.ext hb) (trivial)); clear hb)
      | (go_at_call 20; have _t := K5; clear _t; refine (few_any A3 c3 zs _ M3.out).mono ?_; rw [F2.out]; rintro e y9 ⟨rfl, hb⟩; have K8 := Lib.hid (And.intro (K5.out.1.ext hb) (trivial)); have q10 := (K8.out.1.cells (⟨w.heap.size + 1 + 1 + 1, 0, none⟩, .slice A4 us.length c4) (List.mem_of_getElem? (i := 0) rfl)).2; clear hb)
      | (go_at_call 20; have _t := K2; clear _t; refine (few_any A2 c2 ys _ M2.out).mono ?_; rw [F1.out]; rintro e y6 ⟨rfl, hb⟩; have K5 := Lib.hid (And.intro (K2.out.1.ext hb) (trivial)); have q7 := (K5.out.1.cells (⟨w.heap.size + 1 + 1, 0, none⟩, .slice A3 zs.length c3) (List.mem_of_getElem? (i := 1) rfl)).2; clear hb)
      | (go_at_call 20; refine (few_any A1 c1 xs _ M1.out).mono ?_; rw [F0.out]; rintro e y3 ⟨rfl, hb⟩; have K2 := Lib.hid (And.intro (K.out.ext hb) (trivial)); have q4 := (K2.out.1.cells (⟨w.heap.size + 1, 0, none⟩, .slice A2 ys.length c2) (List.mem_of_getElem? (i := 2) rfl)).2; clear hb))
    have hK := K11.out.1
    generalize hgW : y12 = W1 at *
    clear K hgW
    have K := Lib.hid hK
    clear hK
    have q13 := (K.out.cells (⟨w.heap.size, 0, none⟩, .slice A1 xs.length c1) (List.mem_of_getElem? (i := 3) rfl)).2
    have q14 := (K.out.cells (⟨w.heap.size + 1 + 1, 0, none⟩, .slice A3 zs.length c3) (List.mem_of_getElem? (i := 1) rfl)).2
    go_upto_region 4 with (go_at_call 38; refine (HL.out _ (K.out.rds (A1, xs) (List.mem_of_getElem? (i := 3) rfl)) (K.out.rds (A3, zs) (List.mem_of_getElem? (i := 1) rfl))).mono ?_; rintro e y16 ⟨A9, c9, rfl, hr, hf, hb⟩; have K15 := Lib.hid (And.intro (K.out.ext hb) hr); clear hr hf hb)
    have hK := K15.out.1.box (A := A9) (c := c9) K15.out.2
    generalize hgW : y16.alloc (.cells #[.slice A9 L.length c9] 26) = W9 at *
    generalize hgg : y16.heap.size = g9 at *
    clear K K15 q13 q14 hgW hgg
    have K := Lib.hid hK
    clear hK
    go_upto_region 6 with fail
    have q17 := (K.out.cells (⟨w.heap.size, 0, none⟩, .slice A1 xs.length c1) (List.mem_of_getElem? (i := 4) rfl)).2
    have q18 := (K.out.cells (⟨g9, 0, none⟩, .slice A9 L.length c9) (List.mem_of_getElem? (i := 0) rfl)).2
    have q19 := (K.out.cells (⟨w.heap.size + 1 + 1, 0, none⟩, .slice A3 zs.length c3) (List.mem_of_getElem? (i := 2) rfl)).2
    go_upto_region 7 with (go_at_call 36; refine (HS1.out A9 c9 _ (K.out.rds (A1, xs) (List.mem_of_getElem? (i := 4) rfl)) (K.out.rds (A9, L) (List.mem_of_getElem? (i := 0) rfl)) (K.out.rds (A3, zs) (List.mem_of_getElem? (i := 2) rfl))).mono ?_; rintro e y21 ⟨rfl, hb⟩; have K20 := Lib.hid (K.out.ext hb); clear hb)
    clear K q17 q18 q19
    have K := K20
    clear K20
    have q22 := (K.out.cells (⟨w.heap.size, 0, none⟩, .slice A1 xs.length c1) (List.mem_of_getElem? (i := 4) rfl)).2
    have q23 := (K.out.cells (⟨w.heap.size + 1, 0, none⟩, .slice A2 ys.length c2) (List.mem_of_getElem? (i := 3) rfl)).2
    have q24 := (K.out.cells (⟨w.heap.size + 1 + 1, 0, none⟩, .slice A3 zs.length c3) (List.mem_of_getElem? (i := 2) rfl)).2
    go_upto_region 8 with (go_at_call 36; refine (HS2.out _ (K.out.rds (A1, xs) (List.mem_of_getElem? (i := 4) rfl)) (K.out.rds (A2, ys) (List.mem_of_getElem? (i := 3) rfl)) (K.out.rds (A3, zs) (List.mem_of_getElem? (i := 2) rfl))).mono ?_; rintro e y26 ⟨rfl, hb⟩; have K25 := Lib.hid (K.out.ext hb); clear hb)
    clear K q22 q23 q24
    have K := K25
    clear K25
    have HQ := Lib.hid (fun (h : (if ok2 zs us then rngB (joinL zs us) else 1) = (0 : Int)) => (show ok2 zs us = true ∧ fitB (joinL zs us) = true ∧ pick (ok2 zs us && fitB (joinL zs us)) (joinL zs us) = joinL zs us from by
      rcases Join_cases zs us with ⟨k1, k2, k3, _⟩ | ⟨_, _, k⟩
      · exact ⟨k1, k2, k3⟩
      · exact absurd h k))
    generalize (if ok2 zs us then rngB (joinL zs us) else 1) = E3 at *
    generalize joinL zs us = J at *
    generalize pick (ok2 zs us && fitB J) J = Ch at *
    by_cases h1 : E2 = 0
    rotate_left
    · have hne : (E2 == 0) = false := by simpa using h1
      go_upto_region 10 with fail
      clear HM
      have q27 := (K.out.cells (⟨w.heap.size + 1 + 1, 0, none⟩, .slice A3 zs.length c3) (List.mem_of_getElem? (i := 2) rfl)).2
      have q28 := (K.out.cells (⟨w.heap.size + 1 + 1 + 1, 0, none⟩, .slice A4 us.length c4) (List.mem_of_getElem? (i := 1) rfl)).2
      go_upto_region 11 with (go_at_call 55; refine (HC.out _ (K.out.rds (A3, zs) (List.mem_of_getElem? (i := 2) rfl)) (K.out.rds (A4, us) (List.mem_of_getElem? (i := 1) rfl))).mono ?_; rintro e y30 ⟨A17, c17, rfl, hr, hf, hb⟩; have K29 := Lib.hid (And.intro (K.out.ext hb) hr); clear hr hf hb)
      have hK := K29.out.1.box (A := A17) (c := c17) K29.out.2
      generalize hgW : y30.alloc (.cells #[.slice A17 Ch.length c17] 26) = W17 at *
      generalize hgg : y30.heap.size = g17 at *
      clear K K29 q27 q28 hgW hgg
      have K := Lib.hid hK
      clear hK
      by_cases h3 : E3 = 0
      rotate_left
      · have hne : (E3 != 0) = true := by simpa using h3
        go_wp2_with (go_at_call 16; refine (sanity_any _).mono ?_; rintro e y32 ⟨rfl, hb⟩; have K31 := Lib.hid (And.intro (K.out.ext hb) (trivial)); clear hb)
        go_ret
        exact ⟨rfl, K31.out.1.bl⟩
      obtain ⟨hu, hfit, rfl⟩ := HQ.out h3
      subst h3
      obtain ⟨b3, o3, rfl, lb3, g3⟩ := (K.out.rds (A3, zs) (List.mem_of_getElem? (i := 3) rfl)) HN.out.2.2.2.1
      obtain ⟨b4, o4, rfl, lb4, g4⟩ := (K.out.rds (A4, us) (List.mem_of_getElem? (i := 2) rfl)) (ok2_iff.1 hu).2.1.1
      have hz3 := HN.out.2.2.2.1
      have hz4 := (ok2_iff.1 hu).2.1.1
      dsimp only at lb3 lb4 g3 g4
      have k3 := g3 0 hz3
      have k4 := g4 0 hz4
      rw [Nat.add_zero] at k3 k4
      have i3 : (0 : Int) < (zs.length : Int) := by omega
      have i4 : (0 : Int) < (us.length : Int) := by omega
      have HU := Lib.hid (And.intro hu hfit)
      clear g3 g4 hu hfit
      have q31 := (K.out.cells (⟨w.heap.size + 1 + 1, 0, none⟩, .slice (some ⟨b3, o3, none⟩) zs.length c3) (List.mem_of_getElem? (i := 3) rfl)).2
      have q32 := (K.out.cells (⟨w.heap.size + 1 + 1 + 1, 0, none⟩, .slice (some ⟨b4, o4, none⟩) us.length c4) (List.mem_of_getElem? (i := 2) rfl)).2
      by_cases h4 : nth zs 0 = 0
      rotate_left
      · have hne : (nth zs 0 != 0) = true := by simpa using h4
        go_wp2_with (go_at_call 16; refine (sanity_any _).mono ?_; rintro e y34 ⟨rfl, hb⟩; have K33 := Lib.hid (And.intro (K.out.ext hb) (trivial)); clear hb)
        go_ret
        exact ⟨rfl, K33.out.1.bl⟩
      have hne4 : (nth zs 0 != 0) = false := by simpa using h4
      by_cases h5 : nth us 0 = 0
      rotate_left
      · have hne : (nth us 0 != 0) = true := by simpa using h5
        go_wp2_with (go_at_call 16; refine (sanity_any _).mono ?_; rintro e y34 ⟨rfl, hb⟩; have K33 := Lib.hid (And.intro (K.out.ext hb) (trivial)); clear hb)
        go_ret
        exact ⟨rfl, K33.out.1.bl⟩
      have hne5 : (nth us 0 != 0) = false := by simpa using h5
      have hxy := HZ.out HU.out.1 h4 h5
      subst hxy
      have HX1 := Lib.hid (HX.out HU.out.1)
      have HY1 := Lib.hid (HY.out HU.out.1 HU.out.2)
      clear HX HY HZ h4 h5
      go_upto_region 13 with fail
      clear q31 q32 k3 k4 hne4 hne5 i3 i4 hz3 hz4 lb3 lb4
      have q33 := (K.out.cells (⟨g9, 0, none⟩, .slice A9 L.length c9) (List.mem_of_getElem? (i := 1) rfl)).2
      have q34 := (K.out.cells (⟨w.heap.size + 1 + 1 + 1, 0, none⟩, .slice (some ⟨b4, o4, none⟩) us.length c4) (List.mem_of_getElem? (i := 2) rfl)).2
      go_upto_region 14 with (go_at_call 38; refine (HX1.out A9 c9 _ (K.out.rds (A9, L) (List.mem_of_getElem? (i := 1) rfl)) (K.out.rds ((some ⟨b4, o4, none⟩), us) (List.mem_of_getElem? (i := 2) rfl))).mono ?_; rintro e y36 ⟨A19, c19, rfl, hr, hf, hb⟩; have K35 := Lib.hid (And.intro (K.out.ext hb) hr); clear hr hf hb)
      have hK := K35.out.1.box (A := A19) (c := c19) K35.out.2
      generalize hgW : y36.alloc (.cells #[.slice A19 X1.length c19] 26) = W19 at *
      generalize hgg : y36.heap.size = g19 at *
      clear K K35 q33 q34 hgW hgg
      have K := Lib.hid hK
      clear hK
      have q37 := (K.out.cells (⟨w.heap.size, 0, none⟩, .slice A1 xs.length c1) (List.mem_of_getElem? (i := 6) rfl)).2
      have q38 := (K.out.cells (⟨g17, 0, none⟩, .slice A17 Ch.length c17) (List.mem_of_getElem? (i := 1) rfl)).2
      go_upto_region 15 with (go_at_call 38; refine (HY1.out A17 c17 _ (K.out.rds (A1, xs) (List.mem_of_getElem? (i := 6) rfl)) (K.out.rds (A17, Ch) (List.mem_of_getElem? (i := 1) rfl))).mono ?_; rintro e y40 ⟨A21, c21, rfl, hr, hf, hb⟩; have K39 := Lib.hid (And.intro (K.out.ext hb) hr); clear hr hf hb)
      have hK := K39.out.1.box (A := A21) (c := c21) K39.out.2
      generalize hgW : y40.alloc (.cells #[.slice A21 X1.length c21] 26) = W21 at *
      generalize hgg : y40.heap.size = g21 at *
      clear K K39 q37 q38 hgW hgg
      have K := Lib.hid hK
      clear hK
      go_wp2_with (first
        | (go_at_call 19; have _t := K41; clear _t; refine (Same_ex A19 A21 c19 c21 X1 _ (K41.out.1.rds (A19, X1) (List.mem_of_getElem? (i := 1) rfl)) (K41.out.1.rds (A21, X1) (List.mem_of_getElem? (i := 0) rfl)) HN.out.2.2.1).mono ?_; rintro e y46 ⟨rfl, hb⟩; have K45 := Lib.hid (And.intro (K41.out.1.ext hb) (trivial)); clear hb)
        | (go_at_call 16; refine (sanity_any _).mono ?_; rintro e y42 ⟨rfl, hb⟩; have K41 := Lib.hid (And.intro (K.out.ext hb) (trivial)); have q43 := (K41.out.1.cells (⟨g19, 0, none⟩, .slice A19 X1.length c19) (List.mem_of_getElem? (i := 1) rfl)).2; have q44 := (K41.out.1.cells (⟨g21, 0, none⟩, .slice A21 X1.length c21) (List.mem_of_getElem? (i := 0) rfl)).2; clear hb))
      go_ret
      exact ⟨rfl, K45.out.1.bl⟩
    subst h1
    cases B2
    · skip
      go_upto_region 10 with fail
      clear HM
      have q27 := (K.out.cells (⟨w.heap.size + 1 + 1, 0, none⟩, .slice A3 zs.length c3) (List.mem_of_getElem? (i := 2) rfl)).2
      have q28 := (K.out.cells (⟨w.heap.size + 1 + 1 + 1, 0, none⟩, .slice A4 us.length c4) (List.mem_of_getElem? (i := 1) rfl)).2
      go_upto_region 11 with (go_at_call 55; refine (HC.out _ (K.out.rds (A3, zs) (List.mem_of_getElem? (i := 2) rfl)) (K.out.rds (A4, us) (List.mem_of_getElem? (i := 1) rfl))).mono ?_; rintro e y30 ⟨A17, c17, rfl, hr, hf, hb⟩; have K29 := Lib.hid (And.intro (K.out.ext hb) hr); clear hr hf hb)
      have hK := K29.out.1.box (A := A17) (c := c17) K29.out.2
      generalize hgW : y30.alloc (.cells #[.slice A17 Ch.length c17] 26) = W17 at *
      generalize hgg : y30.heap.size = g17 at *
      clear K K29 q27 q28 hgW hgg
      have K := Lib.hid hK
      clear hK
      by_cases h3 : E3 = 0
      rotate_left
      · have hne : (E3 != 0) = true := by simpa using h3
        go_wp2_with (go_at_call 16; refine (sanity_any _).mono ?_; rintro e y32 ⟨rfl, hb⟩; have K31 := Lib.hid (And.intro (K.out.ext hb) (trivial)); clear hb)
        go_ret
        exact ⟨rfl, K31.out.1.bl⟩
      obtain ⟨hu, hfit, rfl⟩ := HQ.out h3
      subst h3
      obtain ⟨b3, o3, rfl, lb3, g3⟩ := (K.out.rds (A3, zs) (List.mem_of_getElem? (i := 3) rfl)) HN.out.2.2.2.1
      obtain ⟨b4, o4, rfl, lb4, g4⟩ := (K.out.rds (A4, us) (List.mem_of_getElem? (i := 2) rfl)) (ok2_iff.1 hu).2.1.1
      have hz3 := HN.out.2.2.2.1
      have hz4 := (ok2_iff.1 hu).2.1.1
      dsimp only at lb3 lb4 g3 g4
      have k3 := g3 0 hz3
      have k4 := g4 0 hz4
      rw [Nat.add_zero] at k3 k4
      have i3 : (0 : Int) < (zs.length : Int) := by omega
      have i4 : (0 : Int) < (us.length : Int) := by omega
      have HU := Lib.hid (And.intro hu hfit)
      clear g3 g4 hu hfit
      have q31 := (K.out.cells (⟨w.heap.size + 1 + 1, 0, none⟩, .slice (some ⟨b3, o3, none⟩) zs.length c3) (List.mem_of_getElem? (i := 3) rfl)).2
      have q32 := (K.out.cells (⟨w.heap.size + 1 + 1 + 1, 0, none⟩, .slice (some ⟨b4, o4, none⟩) us.length c4) (List.mem_of_getElem? (i := 2) rfl)).2
      by_cases h4 : nth zs 0 = 0
      rotate_left
      · have hne : (nth zs 0 != 0) = true := by simpa using h4
        go_wp2_with (go_at_call 16; refine (sanity_any _).mono ?_; rintro e y34 ⟨rfl, hb⟩; have K33 := Lib.hid (And.intro (K.out.ext hb) (trivial)); clear hb)
        go_ret
        exact ⟨rfl, K33.out.1.bl⟩
      have hne4 : (nth zs 0 != 0) = false := by simpa using h4
      by_cases h5 : nth us 0 = 0
      rotate_left
      · have hne : (nth us 0 != 0) = true := by simpa using h5
        go_wp2_with (go_at_call 16; refine (sanity_any _).mono ?_; rintro e y34 ⟨rfl, hb⟩; have K33 := Lib.hid (And.intro (K.out.ext hb) (trivial)); clear hb)
        go_ret
        exact ⟨rfl, K33.out.1.bl⟩
      have hne5 : (nth us 0 != 0) = false := by simpa using h5
      have hxy := HZ.out HU.out.1 h4 h5
      subst hxy
      have HX1 := Lib.hid (HX.out HU.out.1)
      have HY1 := Lib.hid (HY.out HU.out.1 HU.out.2)
      clear HX HY HZ h4 h5
      go_upto_region 13 with fail
      clear q31 q32 k3 k4 hne4 hne5 i3 i4 hz3 hz4 lb3 lb4
      have q33 := (K.out.cells (⟨g9, 0, none⟩, .slice A9 L.length c9) (List.mem_of_getElem? (i := 1) rfl)).2
      have q34 := (K.out.cells (⟨w.heap.size + 1 + 1 + 1, 0, none⟩, .slice (some ⟨b4, o4, none⟩) us.length c4) (List.mem_of_getElem? (i := 2) rfl)).2
      go_upto_region 14 with (go_at_call 38; refine (HX1.out A9 c9 _ (K.out.rds (A9, L) (List.mem_of_getElem? (i := 1) rfl)) (K.out.rds ((some ⟨b4, o4, none⟩), us) (List.mem_of_getElem? (i := 2) rfl))).mono ?_; rintro e y36 ⟨A19, c19, rfl, hr, hf, hb⟩; have K35 := Lib.hid (And.intro (K.out.ext hb) hr); clear hr hf hb)
      have hK := K35.out.1.box (A := A19) (c := c19) K35.out.2
      generalize hgW : y36.alloc (.cells #[.slice A19 X1.length c19] 26) = W19 at *
      generalize hgg : y36.heap.size = g19 at *
      clear K K35 q33 q34 hgW hgg
      have K := Lib.hid hK
      clear hK
      have q37 := (K.out.cells (⟨w.heap.size, 0, none⟩, .slice A1 xs.length c1) (List.mem_of_getElem? (i := 6) rfl)).2
      have q38 := (K.out.cells (⟨g17, 0, none⟩, .slice A17 Ch.length c17) (List.mem_of_getElem? (i := 1) rfl)).2
      go_upto_region 15 with (go_at_call 38; refine (HY1.out A17 c17 _ (K.out.rds (A1, xs) (List.mem_of_getElem? (i := 6) rfl)) (K.out.rds (A17, Ch) (List.mem_of_getElem? (i := 1) rfl))).mono ?_; rintro e y40 ⟨A21, c21, rfl, hr, hf, hb⟩; have K39 := Lib.hid (And.intro (K.out.ext hb) hr); clear hr hf hb)
      have hK := K39.out.1.box (A := A21) (c := c21) K39.out.2
      generalize hgW : y40.alloc (.cells #[.slice A21 X1.length c21] 26) = W21 at *
      generalize hgg : y40.heap.size = g21 at *
      clear K K39 q37 q38 hgW hgg
      have K := Lib.hid hK
      clear hK
      go_wp2_with (first
        | (go_at_call 19; have _t := K41; clear _t; refine (Same_ex A19 A21 c19 c21 X1 _ (K41.out.1.rds (A19, X1) (List.mem_of_getElem? (i := 1) rfl)) (K41.out.1.rds (A21, X1) (List.mem_of_getElem? (i := 0) rfl)) HN.out.2.2.1).mono ?_; rintro e y46 ⟨rfl, hb⟩; have K45 := Lib.hid (And.intro (K41.out.1.ext hb) (trivial)); clear hb)
        | (go_at_call 16; refine (sanity_any _).mono ?_; rintro e y42 ⟨rfl, hb⟩; have K41 := Lib.hid (And.intro (K.out.ext hb) (trivial)); have q43 := (K41.out.1.cells (⟨g19, 0, none⟩, .slice A19 X1.length c19) (List.mem_of_getElem? (i := 1) rfl)).2; have q44 := (K41.out.1.cells (⟨g21, 0, none⟩, .slice A21 X1.length c21) (List.mem_of_getElem? (i := 0) rfl)).2; clear hb))
      go_ret
      exact ⟨rfl, K45.out.1.bl⟩
    · skip
      have HM1 := Lib.hid (HM.out rfl rfl)
      clear HM
      have q27 := (K.out.cells (⟨g9, 0, none⟩, .slice A9 L.length c9) (List.mem_of_getElem? (i := 0) rfl)).2
      have q28 := (K.out.cells (⟨w.heap.size + 1, 0, none⟩, .slice A2 ys.length c2) (List.mem_of_getElem? (i := 3) rfl)).2
      go_upto_region 10 with (first
        | (go_at_call 24; have _t := K29; clear _t; refine (atMost_any A2 A1 c2 c1 ys xs _ (K29.out.1.rds (A2, ys) (List.mem_of_getElem? (i := 3) rfl)) (K29.out.1.rds (A1, xs) (List.mem_of_getElem? (i := 4) rfl)) HM1.out.2.2 HN.out.2.1).mono ?_; rw [HM1.out.2.1]; rintro e y34 ⟨rfl, hb⟩; have K33 := Lib.hid (And.intro (K29.out.1.ext hb) (trivial)); clear hb)
        | (go_at_call 24; refine (atMost_any A9 A2 c9 c2 L ys _ (K.out.rds (A9, L) (List.mem_of_getElem? (i := 0) rfl)) (K.out.rds (A2, ys) (List.mem_of_getElem? (i := 3) rfl)) HN.out.1 HM1.out.2.2).mono ?_; rw [HM1.out.1]; rintro e y30 ⟨rfl, hb⟩; have K29 := Lib.hid (And.intro (K.out.ext hb) (trivial)); have q31 := (K29.out.1.cells (⟨w.heap.size + 1, 0, none⟩, .slice A2 ys.length c2) (List.mem_of_getElem? (i := 3) rfl)).2; have q32 := (K29.out.1.cells (⟨w.heap.size, 0, none⟩, .slice A1 xs.length c1) (List.mem_of_getElem? (i := 4) rfl)).2; clear hb))
      have hK := K33.out.1
      generalize hgW : y34 = W13 at *
      clear K K29 K33 q27 q28 q31 q32 hgW
      have K := Lib.hid hK
      clear hK
      have q35 := (K.out.cells (⟨w.heap.size + 1 + 1, 0, none⟩, .slice A3 zs.length c3) (List.mem_of_getElem? (i := 2) rfl)).2
      have q36 := (K.out.cells (⟨w.heap.size + 1 + 1 + 1, 0, none⟩, .slice A4 us.length c4) (List.mem_of_getElem? (i := 1) rfl)).2
      go_upto_region 11 with (go_at_call 55; refine (HC.out _ (K.out.rds (A3, zs) (List.mem_of_getElem? (i := 2) rfl)) (K.out.rds (A4, us) (List.mem_of_getElem? (i := 1) rfl))).mono ?_; rintro e y38 ⟨A17, c17, rfl, hr, hf, hb⟩; have K37 := Lib.hid (And.intro (K.out.ext hb) hr); clear hr hf hb)
      have hK := K37.out.1.box (A := A17) (c := c17) K37.out.2
      generalize hgW : y38.alloc (.cells #[.slice A17 Ch.length c17] 26) = W17 at *
      generalize hgg : y38.heap.size = g17 at *
      clear K K37 q35 q36 hgW hgg
      have K := Lib.hid hK
      clear hK
      by_cases h3 : E3 = 0
      rotate_left
      · have hne : (E3 != 0) = true := by simpa using h3
        go_wp2_with (go_at_call 16; refine (sanity_any _).mono ?_; rintro e y40 ⟨rfl, hb⟩; have K39 := Lib.hid (And.intro (K.out.ext hb) (trivial)); clear hb)
        go_ret
        exact ⟨rfl, K39.out.1.bl⟩
      obtain ⟨hu, hfit, rfl⟩ := HQ.out h3
      subst h3
      obtain ⟨b3, o3, rfl, lb3, g3⟩ := (K.out.rds (A3, zs) (List.mem_of_getElem? (i := 3) rfl)) HN.out.2.2.2.1
      obtain ⟨b4, o4, rfl, lb4, g4⟩ := (K.out.rds (A4, us) (List.mem_of_getElem? (i := 2) rfl)) (ok2_iff.1 hu).2.1.1
      have hz3 := HN.out.2.2.2.1
      have hz4 := (ok2_iff.1 hu).2.1.1
      dsimp only at lb3 lb4 g3 g4
      have k3 := g3 0 hz3
      have k4 := g4 0 hz4
      rw [Nat.add_zero] at k3 k4
      have i3 : (0 : Int) < (zs.length : Int) := by omega
      have i4 : (0 : Int) < (us.length : Int) := by omega
      have HU := Lib.hid (And.intro hu hfit)
      clear g3 g4 hu hfit
      have q39 := (K.out.cells (⟨w.heap.size + 1 + 1, 0, none⟩, .slice (some ⟨b3, o3, none⟩) zs.length c3) (List.mem_of_getElem? (i := 3) rfl)).2
      have q40 := (K.out.cells (⟨w.heap.size + 1 + 1 + 1, 0, none⟩, .slice (some ⟨b4, o4, none⟩) us.length c4) (List.mem_of_getElem? (i := 2) rfl)).2
      by_cases h4 : nth zs 0 = 0
      rotate_left
      · have hne : (nth zs 0 != 0) = true := by simpa using h4
        go_wp2_with (go_at_call 16; refine (sanity_any _).mono ?_; rintro e y42 ⟨rfl, hb⟩; have K41 := Lib.hid (And.intro (K.out.ext hb) (trivial)); clear hb)
        go_ret
        exact ⟨rfl, K41.out.1.bl⟩
      have hne4 : (nth zs 0 != 0) = false := by simpa using h4
      by_cases h5 : nth us 0 = 0
      rotate_left
      · have hne : (nth us 0 != 0) = true := by simpa using h5
        go_wp2_with (go_at_call 16; refine (sanity_any _).mono ?_; rintro e y42 ⟨rfl, hb⟩; have K41 := Lib.hid (And.intro (K.out.ext hb) (trivial)); clear hb)
        go_ret
        exact ⟨rfl, K41.out.1.bl⟩
      have hne5 : (nth us 0 != 0) = false := by simpa using h5
      have hxy := HZ.out HU.out.1 h4 h5
      subst hxy
      have HX1 := Lib.hid (HX.out HU.out.1)
      have HY1 := Lib.hid (HY.out HU.out.1 HU.out.2)
      clear HX HY HZ h4 h5
      go_upto_region 13 with fail
      clear q39 q40 k3 k4 hne4 hne5 i3 i4 hz3 hz4 lb3 lb4
      have q41 := (K.out.cells (⟨g9, 0, none⟩, .slice A9 L.length c9) (List.mem_of_getElem? (i := 1) rfl)).2
      have q42 := (K.out.cells (⟨w.heap.size + 1 + 1 + 1, 0, none⟩, .slice (some ⟨b4, o4, none⟩) us.length c4) (List.mem_of_getElem? (i := 2) rfl)).2
      go_upto_region 14 with (go_at_call 38; refine (HX1.out A9 c9 _ (K.out.rds (A9, L) (List.mem_of_getElem? (i := 1) rfl)) (K.out.rds ((some ⟨b4, o4, none⟩), us) (List.mem_of_getElem? (i := 2) rfl))).mono ?_; rintro e y44 ⟨A19, c19, rfl, hr, hf, hb⟩; have K43 := Lib.hid (And.intro (K.out.ext hb) hr); clear hr hf hb)
      have hK := K43.out.1.box (A := A19) (c := c19) K43.out.2
      generalize hgW : y44.alloc (.cells #[.slice A19 X1.length c19] 26) = W19 at *
      generalize hgg : y44.heap.size = g19 at *
      clear K K43 q41 q42 hgW hgg
      have K := Lib.hid hK
      clear hK
      have q45 := (K.out.cells (⟨w.heap.size, 0, none⟩, .slice A1 xs.length c1) (List.mem_of_getElem? (i := 6) rfl)).2
      have q46 := (K.out.cells (⟨g17, 0, none⟩, .slice A17 Ch.length c17) (List.mem_of_getElem? (i := 1) rfl)).2
      go_upto_region 15 with (go_at_call 38; refine (HY1.out A17 c17 _ (K.out.rds (A1, xs) (List.mem_of_getElem? (i := 6) rfl)) (K.out.rds (A17, Ch) (List.mem_of_getElem? (i := 1) rfl))).mono ?_; rintro e y48 ⟨A21, c21, rfl, hr, hf, hb⟩; have K47 := Lib.hid (And.intro (K.out.ext hb) hr); clear hr hf hb)
      have hK := K47.out.1.box (A := A21) (c := c21) K47.out.2
      generalize hgW : y48.alloc (.cells #[.slice A21 X1.length c21] 26) = W21 at *
      generalize hgg : y48.heap.size = g21 at *
      clear K K47 q45 q46 hgW hgg
      have K := Lib.hid hK
      clear hK
      go_wp2_with (first
        | (go_at_call 19; have _t := K49; clear _t; refine (Same_ex A19 A21 c19 c21 X1 _ (K49.out.1.rds (A19, X1) (List.mem_of_getElem? (i := 1) rfl)) (K49.out.1.rds (A21, X1) (List.mem_of_getElem? (i := 0) rfl)) HN.out.2.2.1).mono ?_; rintro e y54 ⟨rfl, hb⟩; have K53 := Lib.hid (And.intro (K49.out.1.ext hb) (trivial)); clear hb)
        | (go_at_call 16; refine (sanity_any _).mono ?_; rintro e y50 ⟨rfl, hb⟩; have K49 := Lib.hid (And.intro (K.out.ext hb) (trivial)); have q51 := (K49.out.1.cells (⟨g19, 0, none⟩, .slice A19 X1.length c19) (List.mem_of_getElem? (i := 1) rfl)).2; have q52 := (K49.out.1.cells (⟨g21, 0, none⟩, .slice A21 X1.length c21) (List.mem_of_getElem? (i := 0) rfl)).2; clear hb))
      go_ret
      exact ⟨rfl, K53.out.1.bl⟩
end Go.Proofs.Ytknkneccnhgjmaa
