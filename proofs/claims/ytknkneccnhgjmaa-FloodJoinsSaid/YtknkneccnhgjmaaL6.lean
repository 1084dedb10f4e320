/- Walk: the law FloodJoins. -/
import Derived.Test.YtknkneccnhgjmaaP4
import Derived.Test.YtknkneccnhgjmaaL3
namespace Go.Proofs.Ytknkneccnhgjmaa
open Go.RowKit Go.Shelf

theorem Split_yes {A1 A2 : Option Addr} {c1 c2 : Nat} {xs ys : List Int} (h : ok2 xs ys = true) {t : Nat} (ht : t < xs.length) (w : World) (r1 : Rd w w.heap.size A1 xs) (r2 : Rd w w.heap.size A2 ys) (m1 : xs.length ≤ maxLen) (m2 : ys.length ≤ maxLen) :
    Calls Try.prog 26 #[.agg #[.slice A1 xs.length c1], .agg #[.slice A2 ys.length c2], .int .i64 t] w fun e w' => e = .returned (.tuple #[.int .i64 (splitAt xs ys t), .int .i64 0]) ∧ Below w.heap.size w w' := by
  have h1 := Split_any A1 A2 c1 c2 xs ys t w r1 r2 m1 m2
  have hw : withinB t 0 ((xs.length : Int) - 1) = true := by unfold withinB; rw [decide_eq_true_eq]; omega
  rwa [show splitN xs ys t = splitAt xs ys t by simp [splitN, h, hw], show stepE (ok2 xs ys) xs t = 0 by simp [stepE, h, hw]] at h1
theorem Join_yes {A1 A2 : Option Addr} {c1 c2 : Nat} {xs ys : List Int} (h : ok2 xs ys = true) (w : World) (r1 : Rd w w.heap.size A1 xs) (r2 : Rd w w.heap.size A2 ys) (m1 : xs.length ≤ maxLen) (m2 : ys.length ≤ maxLen) :
    Calls Try.prog 22 #[.agg #[.slice A1 xs.length c1], .agg #[.slice A2 ys.length c2]] w fun e w' => RCE w (pick (fitB (joinL xs ys)) (joinL xs ys)) (rngB (joinL xs ys)) e w' := by
  have h1 := Join_any A1 A2 c1 c2 xs ys w r1 r2 m1 m2
  rw [h] at h1
  exact h1
theorem Join_fit {A1 A2 : Option Addr} {c1 c2 : Nat} {xs ys : List Int} (h : ok2 xs ys = true) (hf : fitB (joinL xs ys) = true) (w : World) (r1 : Rd w w.heap.size A1 xs) (r2 : Rd w w.heap.size A2 ys) (m1 : xs.length ≤ maxLen) (m2 : ys.length ≤ maxLen) :
    Calls Try.prog 22 #[.agg #[.slice A1 xs.length c1], .agg #[.slice A2 ys.length c2]] w fun e w' => RCE w (joinL xs ys) 0 e w' := by
  have h1 := Join_yes (A1 := A1) (A2 := A2) (c1 := c1) (c2 := c2) h w r1 r2 m1 m2
  rwa [hf, pick_t, show rngB (joinL xs ys) = 0 by simp [rngB, hf]] at h1

set_option maxRecDepth 100000 in
set_option maxHeartbeats 8000000 in
theorem FloodJoins_row (w : World) (A1 : Option Addr) (c1 : Nat) (xs : List Int) (r1 : Rd w w.heap.size A1 xs) (m1 : xs.length ≤ maxLen) (A2 : Option Addr) (c2 : Nat) (ys : List Int) (r2 : Rd w w.heap.size A2 ys) (m2 : ys.length ≤ maxLen)
    (A3 : Option Addr) (c3 : Nat) (zs : List Int) (r3 : Rd w w.heap.size A3 zs) (m3 : zs.length ≤ maxLen) :
    Calls Try.prog 6 #[.agg #[.slice A1 xs.length c1], .agg #[.slice A2 ys.length c2], .agg #[.slice A3 zs.length c3]] w fun e w' => e = .returned (.bool true) ∧ Below w.heap.size w w' := by
  have hK : Ex w w [] [] := ⟨Below.refl _ _, fun p hp => (by cases hp), fun p hp => (by cases hp)⟩
  have K := Lib.hid (((hK.addRd r1).addRd r2).addRd r3)
  have M1 := Lib.hid m1
  have M2 := Lib.hid m2
  have M3 := Lib.hid m3
  clear hK r1 r2 r3 m1 m2 m3
  cases hf0 : fewB xs with
  | false =>
    have F0 := Lib.hid hf0
    clear hf0
    go_enter Try.func6, Try.ntmps6
    go_upto_region 1 with fail
    have hK := (((K.out.one (.slice A1 xs.length c1) 26).one (.slice A2 ys.length c2) 26).one (.slice A3 zs.length c3) 26)
    simp only [World.size_alloc] at hK
    generalize hgW : ((w.alloc (.cells #[.slice A1 xs.length c1] 26)).alloc (.cells #[.slice A2 ys.length c2] 26)).alloc (.cells #[.slice A3 zs.length c3] 26) = W0 at *
    clear K hgW
    have K := Lib.hid hK
    clear hK
    have q1 := (K.out.cells (⟨w.heap.size, 0, none⟩, .slice A1 xs.length c1) (List.mem_of_getElem? (i := 2) rfl)).2
    go_wp2_with (first
      | (go_at_call 16; have _t := K2; clear _t; refine (sanity_any _).mono ?_; rintro e y6 ⟨rfl, hb⟩; have K5 := Lib.hid (And.intro (K2.out.1.ext hb) (trivial)); clear hb)
      | (go_at_call 20; refine (few_any A1 c1 xs _ M1.out).mono ?_; rw [F0.out]; rintro e y3 ⟨rfl, hb⟩; have K2 := Lib.hid (And.intro (K.out.ext hb) (trivial)); have q4 := (K2.out.1.cells (⟨w.heap.size + 1, 0, none⟩, .slice A2 ys.length c2) (List.mem_of_getElem? (i := 1) rfl)).2; clear hb))
    go_ret
    exact ⟨rfl, K5.out.1.bl⟩
  | true =>
  have F0 := Lib.hid hf0
  clear hf0
  cases hf1 : fewB ys with
  | false =>
    have F1 := Lib.hid hf1
    clear hf1
    go_enter Try.func6, Try.ntmps6
    go_upto_region 1 with fail
    have hK := (((K.out.one (.slice A1 xs.length c1) 26).one (.slice A2 ys.length c2) 26).one (.slice A3 zs.length c3) 26)
    simp only [World.size_alloc] at hK
    generalize hgW : ((w.alloc (.cells #[.slice A1 xs.length c1] 26)).alloc (.cells #[.slice A2 ys.length c2] 26)).alloc (.cells #[.slice A3 zs.length c3] 26) = W0 at *
    clear K hgW
    have K := Lib.hid hK
    clear hK
    have q1 := (K.out.cells (⟨w.heap.size, 0, none⟩, .slice A1 xs.length c1) (List.mem_of_getElem? (i := 2) rfl)).2
    go_wp2_with (first
      | (go_at_call 16; have _t := K5; clear _t; refine (sanity_any _).mono ?_; rintro e y9 ⟨rfl, hb⟩; have K8 := Lib.hid (And.intro (K5.out.1.ext hb) (trivial)); clear hb)
      | (go_at_call 20; have _t := K2; clear _t; refine (few_any A2 c2 ys _ M2.out).mono ?_; rw [F1.out]; rintro e y6 ⟨rfl, hb⟩; have K5 := Lib.hid (And.intro (K2.out.1.ext hb) (trivial)); have q7 := (K5.out.1.cells (⟨w.heap.size + 1 + 1, 0, none⟩, .slice A3 zs.length c3) (List.mem_of_getElem? (i := 0) rfl)).2; clear hb)
      | (go_at_call 20; refine (few_any A1 c1 xs _ M1.out).mono ?_; rw [F0.out]; rintro e y3 ⟨rfl, hb⟩; have K2 := Lib.hid (And.intro (K.out.ext hb) (trivial)); have q4 := (K2.out.1.cells (⟨w.heap.size + 1, 0, none⟩, .slice A2 ys.length c2) (List.mem_of_getElem? (i := 1) rfl)).2; clear hb))
    go_ret
    exact ⟨rfl, K8.out.1.bl⟩
  | true =>
  have F1 := Lib.hid hf1
  clear hf1
  cases hf2 : fewB zs with
  | false =>
    have F2 := Lib.hid hf2
    clear hf2
    go_enter Try.func6, Try.ntmps6
    go_upto_region 1 with fail
    have hK := (((K.out.one (.slice A1 xs.length c1) 26).one (.slice A2 ys.length c2) 26).one (.slice A3 zs.length c3) 26)
    simp only [World.size_alloc] at hK
    generalize hgW : ((w.alloc (.cells #[.slice A1 xs.length c1] 26)).alloc (.cells #[.slice A2 ys.length c2] 26)).alloc (.cells #[.slice A3 zs.length c3] 26) = W0 at *
    clear K hgW
    have K := Lib.hid hK
    clear hK
    have q1 := (K.out.cells (⟨w.heap.size, 0, none⟩, .slice A1 xs.length c1) (List.mem_of_getElem? (i := 2) rfl)).2
    go_wp2_with (first
      | (go_at_call 16; have _t := K8; clear _t; refine (sanity_any _).mono ?_; rintro e y11 ⟨rfl, hb⟩; have K10 := Lib.hid (And.intro (K8.out.1.ext hb) (trivial)); clear hb)
      | (go_at_call 20; have _t := K5; clear _t; refine (few_any A3 c3 zs _ M3.out).mono ?_; rw [F2.out]; rintro e y9 ⟨rfl, hb⟩; have K8 := Lib.hid (And.intro (K5.out.1.ext hb) (trivial)); clear hb)
      | (go_at_call 20; have _t := K2; clear _t; refine (few_any A2 c2 ys _ M2.out).mono ?_; rw [F1.out]; rintro e y6 ⟨rfl, hb⟩; have K5 := Lib.hid (And.intro (K2.out.1.ext hb) (trivial)); have q7 := (K5.out.1.cells (⟨w.heap.size + 1 + 1, 0, none⟩, .slice A3 zs.length c3) (List.mem_of_getElem? (i := 0) rfl)).2; clear hb)
      | (go_at_call 20; refine (few_any A1 c1 xs _ M1.out).mono ?_; rw [F0.out]; rintro e y3 ⟨rfl, hb⟩; have K2 := Lib.hid (And.intro (K.out.ext hb) (trivial)); have q4 := (K2.out.1.cells (⟨w.heap.size + 1, 0, none⟩, .slice A2 ys.length c2) (List.mem_of_getElem? (i := 1) rfl)).2; clear hb))
    go_ret
    exact ⟨rfl, K10.out.1.bl⟩
  | true =>
  have F2 := Lib.hid hf2
  clear hf2
  rcases Join_cases xs ys with ⟨ho, hfit, e1, e2⟩ | ⟨hno, e1, e2⟩
  rotate_left
  · have HE := Lib.hid e2
    have hJ := fun W r1 r2 => Join_any A1 A2 c1 c2 xs ys W r1 r2 M1.out M2.out
    have hI := fun W r1 r2 => Join_any A2 A1 c2 c1 ys xs W r1 r2 M2.out M1.out
    have hc : ok2 ys xs = ok2 xs ys := ok2_comm ys xs
    have hsame : pick (ok2 ys xs && fitB (joinL ys xs)) (joinL ys xs) = pick (ok2 xs ys && fitB (joinL xs ys)) (joinL xs ys) ∧ (if ok2 ys xs then rngB (joinL ys xs) else 1) = if ok2 xs ys then rngB (joinL xs ys) else 1 := by
      rw [hc]
      cases ho : ok2 xs ys
      · exact ⟨rfl, rfl⟩
      · rw [joinL_comm (ok2_iff.1 ho).2.2]
        exact ⟨rfl, rfl⟩
    rw [hsame.1, hsame.2, e1] at hI
    rw [e1] at hJ
    have HJ := Lib.hid hJ
    have HI := Lib.hid hI
    have HN := Lib.hid (show ([] : List Int).length ≤ 1000 from Nat.zero_le _)
    clear hsame e1 e2 hc hno hJ hI
    generalize (if ok2 xs ys then rngB (joinL xs ys) else 1) = E at *
    have hne : (E != 0) = true := by simpa using HE.out
    go_enter Try.func6, Try.ntmps6
    go_upto_region 1 with fail
    have hK := (((K.out.one (.slice A1 xs.length c1) 26).one (.slice A2 ys.length c2) 26).one (.slice A3 zs.length c3) 26)
    simp only [World.size_alloc] at hK
    generalize hgW : ((w.alloc (.cells #[.slice A1 xs.length c1] 26)).alloc (.cells #[.slice A2 ys.length c2] 26)).alloc (.cells #[.slice A3 zs.length c3] 26) = W0 at *
    clear K hgW
    have K := Lib.hid hK
    clear hK
    have q1 := (K.out.cells (⟨w.heap.size, 0, none⟩, .slice A1 xs.length c1) (List.mem_of_getElem? (i := 2) rfl)).2
    go_upto_region 3 with (first
      | (go_at_call 20; have _t := K5; clear _t; refine (few_any A3 c3 zs _ M3.out).mono ?_; rw [F2.out]; rintro e y9 ⟨rfl, hb⟩; have K8 := Lib.hid (And.intro (K5.out.1.ext hb) (trivial)); clear hb)
      | (go_at_call 20; have _t := K2; clear _t; refine (few_any A2 c2 ys _ M2.out).mono ?_; rw [F1.out]; rintro e y6 ⟨rfl, hb⟩; have K5 := Lib.hid (And.intro (K2.out.1.ext hb) (trivial)); have q7 := (K5.out.1.cells (⟨w.heap.size + 1 + 1, 0, none⟩, .slice A3 zs.length c3) (List.mem_of_getElem? (i := 0) rfl)).2; clear hb)
      | (go_at_call 20; refine (few_any A1 c1 xs _ M1.out).mono ?_; rw [F0.out]; rintro e y3 ⟨rfl, hb⟩; have K2 := Lib.hid (And.intro (K.out.ext hb) (trivial)); have q4 := (K2.out.1.cells (⟨w.heap.size + 1, 0, none⟩, .slice A2 ys.length c2) (List.mem_of_getElem? (i := 1) rfl)).2; clear hb))
    have hK := K8.out.1
    generalize hgW : y9 = W1 at *
    clear K hgW
    have K := Lib.hid hK
    clear hK
    have q10 := (K.out.cells (⟨w.heap.size, 0, none⟩, .slice A1 xs.length c1) (List.mem_of_getElem? (i := 2) rfl)).2
    have q11 := (K.out.cells (⟨w.heap.size + 1, 0, none⟩, .slice A2 ys.length c2) (List.mem_of_getElem? (i := 1) rfl)).2
    go_upto_region 4 with (go_at_call 22; refine (HJ.out _ (K.out.rds (A1, xs) (List.mem_of_getElem? (i := 2) rfl)) (K.out.rds (A2, ys) (List.mem_of_getElem? (i := 1) rfl))).mono ?_; rintro e y13 ⟨A7, c7, rfl, hr, hf, hb⟩; have K12 := Lib.hid (And.intro (K.out.ext hb) hr); clear hr hf hb)
    have hK := K12.out.1.box (A := A7) (c := c7) K12.out.2
    generalize hgW : y13.alloc (.cells #[.slice A7 ([] : List Int).length c7] 26) = W7 at *
    generalize hgg : y13.heap.size = g7 at *
    clear K K12 q10 q11 hgW hgg
    have K := Lib.hid hK
    clear hK
    have q14 := (K.out.cells (⟨w.heap.size + 1, 0, none⟩, .slice A2 ys.length c2) (List.mem_of_getElem? (i := 2) rfl)).2
    have q15 := (K.out.cells (⟨w.heap.size, 0, none⟩, .slice A1 xs.length c1) (List.mem_of_getElem? (i := 3) rfl)).2
    go_upto_region 5 with (go_at_call 22; refine (HI.out _ (K.out.rds (A2, ys) (List.mem_of_getElem? (i := 2) rfl)) (K.out.rds (A1, xs) (List.mem_of_getElem? (i := 3) rfl))).mono ?_; rintro e y17 ⟨A8, c8, rfl, hr, hf, hb⟩; have K16 := Lib.hid (And.intro (K.out.ext hb) hr); clear hr hf hb)
    have hK := K16.out.1.box (A := A8) (c := c8) K16.out.2
    generalize hgW : y17.alloc (.cells #[.slice A8 ([] : List Int).length c8] 26) = W8 at *
    generalize hgg : y17.heap.size = g8 at *
    clear K K16 q14 q15 hgW hgg
    have K := Lib.hid hK
    clear hK
    have q18 := (K.out.cells (⟨g7, 0, none⟩, .slice A7 ([] : List Int).length c7) (List.mem_of_getElem? (i := 1) rfl)).2
    have q19 := (K.out.cells (⟨g8, 0, none⟩, .slice A8 ([] : List Int).length c8) (List.mem_of_getElem? (i := 0) rfl)).2
    go_upto_region 7 with (go_at_call 19; refine (Same_ex A7 A8 c7 c8 ([] : List Int) _ (K.out.rds (A7, ([] : List Int)) (List.mem_of_getElem? (i := 1) rfl)) (K.out.rds (A8, ([] : List Int)) (List.mem_of_getElem? (i := 0) rfl)) HN.out).mono ?_; rintro e y21 ⟨rfl, hb⟩; have K20 := Lib.hid (And.intro (K.out.ext hb) (trivial)); clear hb)
    have hK := K20.out.1
    clear K K20 q18 q19
    have K := Lib.hid hK
    clear hK
    go_wp2_with (go_at_call 16; refine (sanity_any _).mono ?_; rintro e y23 ⟨rfl, hb⟩; have K22 := Lib.hid (And.intro (K.out.ext hb) (trivial)); clear hb)
    go_ret
    exact ⟨rfl, K22.out.1.bl⟩
  have HJ := Lib.hid (fun W r1 r2 => Join_fit (A1 := A1) (A2 := A2) (c1 := c1) (c2 := c2) ho hfit W r1 r2 M1.out M2.out)
  have HO := Lib.hid (And.intro ho hfit)
  have hI := fun W r1 r2 => Join_fit (A1 := A2) (A2 := A1) (c1 := c2) (c2 := c1) ((ok2_comm ys xs).trans ho) (by rw [← joinL_comm (ok2_iff.1 ho).2.2]; exact hfit) W r1 r2 M2.out M1.out
  rw [← joinL_comm (ok2_iff.1 ho).2.2] at hI
  have HI := Lib.hid hI
  have V := Lib.hid (ok2_iff.1 ho)
  have HN := Lib.hid (show (joinL xs ys).length ≤ 1000 by rw [joinL_length]; have := V.out.1.2.1; omega)
  have HV := Lib.hid (joinL_valid V.out.1 V.out.2.1 V.out.2.2 hfit)
  have HF := Lib.hid (fun t (ht : t < xs.length) => split_facts (xs := xs) (ys := ys) (t := t) ht)
  have HL := Lib.hid (joinL_length xs ys)
  clear e1 e2 ho hfit hI
  go_enter Try.func6, Try.ntmps6
  go_upto_region 1 with fail
  have hK := (((K.out.one (.slice A1 xs.length c1) 26).one (.slice A2 ys.length c2) 26).one (.slice A3 zs.length c3) 26)
  simp only [World.size_alloc] at hK
  generalize hgW : ((w.alloc (.cells #[.slice A1 xs.length c1] 26)).alloc (.cells #[.slice A2 ys.length c2] 26)).alloc (.cells #[.slice A3 zs.length c3] 26) = W0 at *
  clear K hgW
  have K := Lib.hid hK
  clear hK
  have q1 := (K.out.cells (⟨w.heap.size, 0, none⟩, .slice A1 xs.length c1) (List.mem_of_getElem? (i := 2) rfl)).2
  go_upto_region 3 with (first
    | (go_at_call 20; have _t := K5; clear _t; refine (few_any A3 c3 zs _ M3.out).mono ?_; rw [F2.out]; rintro e y9 ⟨rfl, hb⟩; have K8 := Lib.hid (And.intro (K5.out.1.ext hb) (trivial)); clear hb)
    | (go_at_call 20; have _t := K2; clear _t; refine (few_any A2 c2 ys _ M2.out).mono ?_; rw [F1.out]; rintro e y6 ⟨rfl, hb⟩; have K5 := Lib.hid (And.intro (K2.out.1.ext hb) (trivial)); have q7 := (K5.out.1.cells (⟨w.heap.size + 1 + 1, 0, none⟩, .slice A3 zs.length c3) (List.mem_of_getElem? (i := 0) rfl)).2; clear hb)
    | (go_at_call 20; refine (few_any A1 c1 xs _ M1.out).mono ?_; rw [F0.out]; rintro e y3 ⟨rfl, hb⟩; have K2 := Lib.hid (And.intro (K.out.ext hb) (trivial)); have q4 := (K2.out.1.cells (⟨w.heap.size + 1, 0, none⟩, .slice A2 ys.length c2) (List.mem_of_getElem? (i := 1) rfl)).2; clear hb))
  have hK := K8.out.1
  generalize hgW : y9 = W1 at *
  clear K hgW
  have K := Lib.hid hK
  clear hK
  have HJL := Lib.hid HL.out
  generalize hJg : joinL xs ys = J at *
  have q10 := (K.out.cells (⟨w.heap.size, 0, none⟩, .slice A1 xs.length c1) (List.mem_of_getElem? (i := 2) rfl)).2
  have q11 := (K.out.cells (⟨w.heap.size + 1, 0, none⟩, .slice A2 ys.length c2) (List.mem_of_getElem? (i := 1) rfl)).2
  go_upto_region 4 with (go_at_call 22; refine (HJ.out _ (K.out.rds (A1, xs) (List.mem_of_getElem? (i := 2) rfl)) (K.out.rds (A2, ys) (List.mem_of_getElem? (i := 1) rfl))).mono ?_; rintro e y13 ⟨A7, c7, rfl, hr, hf, hb⟩; have K12 := Lib.hid (And.intro (K.out.ext hb) hr); clear hr hf hb)
  have hK := K12.out.1.box (A := A7) (c := c7) K12.out.2
  generalize hgW : y13.alloc (.cells #[.slice A7 J.length c7] 26) = W7 at *
  generalize hgg : y13.heap.size = g7 at *
  clear K K12 q10 q11 hgW hgg
  have K := Lib.hid hK
  clear hK
  have q14 := (K.out.cells (⟨w.heap.size + 1, 0, none⟩, .slice A2 ys.length c2) (List.mem_of_getElem? (i := 2) rfl)).2
  have q15 := (K.out.cells (⟨w.heap.size, 0, none⟩, .slice A1 xs.length c1) (List.mem_of_getElem? (i := 3) rfl)).2
  go_upto_region 5 with (go_at_call 22; refine (HI.out _ (K.out.rds (A2, ys) (List.mem_of_getElem? (i := 2) rfl)) (K.out.rds (A1, xs) (List.mem_of_getElem? (i := 3) rfl))).mono ?_; rintro e y17 ⟨A8, c8, rfl, hr, hf, hb⟩; have K16 := Lib.hid (And.intro (K.out.ext hb) hr); clear hr hf hb)
  have hK := K16.out.1.box (A := A8) (c := c8) K16.out.2
  generalize hgW : y17.alloc (.cells #[.slice A8 J.length c8] 26) = W8 at *
  generalize hgg : y17.heap.size = g8 at *
  clear K K16 q14 q15 hgW hgg
  have K := Lib.hid hK
  clear hK
  have q18 := (K.out.cells (⟨g7, 0, none⟩, .slice A7 J.length c7) (List.mem_of_getElem? (i := 1) rfl)).2
  have q19 := (K.out.cells (⟨g8, 0, none⟩, .slice A8 J.length c8) (List.mem_of_getElem? (i := 0) rfl)).2
  go_upto_region 7 with (go_at_call 19; refine (Same_ex A7 A8 c7 c8 J _ (K.out.rds (A7, J) (List.mem_of_getElem? (i := 1) rfl)) (K.out.rds (A8, J) (List.mem_of_getElem? (i := 0) rfl)) HN.out).mono ?_; rintro e y21 ⟨rfl, hb⟩; have K20 := Lib.hid (And.intro (K.out.ext hb) (trivial)); clear hb)
  have hK := K20.out.1
  clear K K20 q18 q19
  have K := Lib.hid hK
  clear hK
  have q22 := (K.out.cells (⟨g7, 0, none⟩, .slice A7 J.length c7) (List.mem_of_getElem? (i := 1) rfl)).2
  go_wp2
  clear q22
  go_loopg [61] J.length (fun gg s wr => ∃ t : Nat, t ≤ J.length ∧ J.length - t ≤ gg ∧ s = .int .i64 t ∧ Aside (Below y21.heap.size y21 wr))
  case atStart => exact ⟨0, Nat.zero_le _, by omega, rfl, Below.refl _ _⟩
  case round =>
    obtain ⟨t, ht, hg, rfl, hb⟩ := hrel
    have K' := Lib.hid (K.out.ext hb.out)
    by_cases hlt : t < J.length
    · have hltz : (t : Int) < (J.length : Int) := by omega
      have hx : t < xs.length := by have := HL.out; omega
      have hc := fun W r1 r2 => Split_yes (A1 := A1) (A2 := A2) (c1 := c1) (c2 := c2) HO.out.1 hx W r1 r2 M1.out M2.out
      have HC := Lib.hid hc
      obtain ⟨f1, f2, f3, f4⟩ := HF.out t hx
      generalize splitAt xs ys t = m at *
      have hy : t < ys.length := by have := V.out.2.2; omega
      clear hc
      have q1 := (K'.out.cells (⟨w.heap.size, 0, none⟩, .slice A1 xs.length c1) (List.mem_of_getElem? (i := 4) rfl)).2
      have q2 := (K'.out.cells (⟨w.heap.size + 1, 0, none⟩, .slice A2 ys.length c2) (List.mem_of_getElem? (i := 3) rfl)).2
      go_wp2_with fail
      refine (HC.out _ (K'.out.rds (A1, xs) (List.mem_of_getElem? (i := 4) rfl)) (K'.out.rds (A2, ys) (List.mem_of_getElem? (i := 3) rfl))).mono ?_
      rintro e y24 ⟨rfl, hb2⟩
      have K23 := Lib.hid (And.intro (K'.out.ext hb2) hb2)
      have HB := Lib.hid (hb.out.trans (hb2.mono hb.out.size))
      clear hb2
      obtain ⟨l1, z1⟩ := (K23.out.1.cells (⟨w.heap.size, 0, none⟩, .slice A1 xs.length c1) (List.mem_of_getElem? (i := 4) rfl))
      obtain ⟨l2, z2⟩ := (K23.out.1.cells (⟨w.heap.size + 1, 0, none⟩, .slice A2 ys.length c2) (List.mem_of_getElem? (i := 3) rfl))
      obtain ⟨l7, z7⟩ := (K23.out.1.cells (⟨g7, 0, none⟩, .slice A7 J.length c7) (List.mem_of_getElem? (i := 1) rfl))
      dsimp only at l1 l2 l7 z1 z2 z7
      obtain ⟨b1, o1, rfl, lb1, hc1⟩ := (K23.out.1.rds (A1, xs) (List.mem_of_getElem? (i := 4) rfl)) (show 0 < xs.length by omega)
      obtain ⟨b2, o2, rfl, lb2, hc2⟩ := (K23.out.1.rds (A2, ys) (List.mem_of_getElem? (i := 3) rfl)) (show 0 < ys.length by omega)
      obtain ⟨b3, o3, rfl, lb3, hc3⟩ := (K23.out.1.rds (A7, J) (List.mem_of_getElem? (i := 1) rfl)) (show 0 < J.length by omega)
      dsimp only at lb1 lb2 lb3 hc1 hc2 hc3
      have k1 := hc1 m (by omega)
      have k2 := hc2 (t - m) (by omega)
      have k3 := hc3 t hlt
      have k4 := hc1 t hx
      have k5 := hc2 0 (by omega)
      have k6 := hc2 t hy
      have k7 := hc1 0 (by omega)
      clear hc1 hc2 hc3 q1 q2
      have d1 : decide ((m : Int) < 0) = false := decide_eq_false (by omega)
      have d2 : decide (t < m) = false := decide_eq_false (by omega)
      have e1 : ((t : Int) - (m : Int)).toNat = t - m := by omega
      have i1 : (0 : Int) ≤ (m : Int) := by omega
      have i2 : (m : Int) < (xs.length : Int) := by omega
      have i3 : (0 : Int) ≤ (t : Int) - (m : Int) := by omega
      have i4 : (t : Int) - (m : Int) < (ys.length : Int) := by omega
      have i5 : (t : Int) < (xs.length : Int) := by omega
      have i6 : (t : Int) < (ys.length : Int) := by omega
      have i7 : (0 : Int) < (ys.length : Int) := by omega
      have i8 : (0 : Int) < (xs.length : Int) := by omega
      rw [Nat.add_zero] at k5 k7
      have n1 := V.out.1.bd m
      have n2 := V.out.2.1.bd (t - m)
      have n3 := V.out.1.bd t
      have n4 := V.out.2.1.bd t
      have n5 := V.out.1.bd 0
      have n6 := V.out.2.1.bd 0
      generalize nth xs m = v1 at *
      generalize nth ys (t - m) = v2 at *
      generalize nth J t = v3 at *
      generalize nth xs t = v4 at *
      generalize nth ys 0 = v5 at *
      generalize nth ys t = v6 at *
      generalize nth xs 0 = v7 at *
      have d3 : (v1 + v2 != v3) = false := by simpa using f2
      have d4 : decide (v4 + v5 < v3) = false := decide_eq_false (by omega)
      have d5 : decide (v6 + v7 < v3) = false := decide_eq_false (by omega)
      have h121 := V.out.1.2.1
      have h1 : IntKind.i64.wrap ((t : Int) - (m : Int)) = (t : Int) - (m : Int) := by rw [IntKind.wrap_i64]; omega
      have h2 : IntKind.i64.wrap (v1 + v2) = v1 + v2 := by rw [IntKind.wrap_i64]; omega
      have h3 : IntKind.i64.wrap (v4 + v5) = v4 + v5 := by rw [IntKind.wrap_i64]; omega
      have h4 : IntKind.i64.wrap (v6 + v7) = v6 + v7 := by rw [IntKind.wrap_i64]; omega
      have hsz := K23.out.2.size
      clear f2
      go_wp2
      refine wp_region_ext (by kernel_rfl) (by kernel_rfl) ?_
      intro ι _ X hX hC
      have rX := fun k => (bcell (hX k)).1
      repeat (first | go_big_quiet_skip | (go_big_quiet_want; go_big_quiet_op; first | go_big_quiet_on | (apply Exists.intro; refine ⟨fun _ => ?_, ?_⟩; (focus (fail)); go_big_quiet_on)))
      refine wpQuiet_nil ?_
      intro w1 hb1
      clear rX hX hC
      have HB2 := Lib.hid (HB.out.trans (hb1.mono (Nat.le_trans hb.out.size hsz)))
      clear h1 h2 h3 h4
      go_wp2
      go_roundg (J.length - (t + 1))
      case measure => omega
      case rel => exact ⟨t + 1, by omega, by omega, by go_num, HB2.out⟩
    · have hltz : ¬ (t : Int) < (J.length : Int) := by omega
      have hK := K'.out
      clear K K' HI HJ hb
      have K := Lib.hid hK
      clear hK hlt ht hg
      rcases Join_cases ys zs with ⟨ho2, hfit2, e1, e2⟩ | ⟨_, e1, e2⟩
      rotate_left
      · have HE := Lib.hid e2
        have hJ := fun W r1 r2 => Join_any A2 A3 c2 c3 ys zs W r1 r2 M2.out M3.out
        rw [e1] at hJ
        have HJ := Lib.hid hJ
        clear hJ e1 e2
        generalize (if ok2 ys zs then rngB (joinL ys zs) else 1) = E at *
        have hne : (E != 0) = true := by simpa using HE.out
        have q23 := (K.out.cells (⟨w.heap.size + 1, 0, none⟩, .slice A2 ys.length c2) (List.mem_of_getElem? (i := 3) rfl)).2
        have q24 := (K.out.cells (⟨w.heap.size + 1 + 1, 0, none⟩, .slice A3 zs.length c3) (List.mem_of_getElem? (i := 2) rfl)).2
        go_wp2_with fail
        refine (HJ.out _ (K.out.rds (A2, ys) (List.mem_of_getElem? (i := 3) rfl)) (K.out.rds (A3, zs) (List.mem_of_getElem? (i := 2) rfl))).mono ?_
        rintro e y26 ⟨A14, c14, rfl, hr, hf, hb⟩
        have K25 := Lib.hid (And.intro (K.out.ext hb) hr)
        clear hr hf hb
        go_upto_region 17 with fail
        have hK := K25.out.1.box (A := A14) (c := c14) K25.out.2
        generalize hgW : y26.alloc (.cells #[.slice A14 ([] : List Int).length c14] 26) = W14 at *
        generalize hgg : y26.heap.size = g14 at *
        clear K K25 q23 q24 hgW hgg
        have K := Lib.hid hK
        clear hK
        go_wp2_with (go_at_call 16; refine (sanity_any _).mono ?_; rintro e y28 ⟨rfl, hb⟩; have K27 := Lib.hid (And.intro (K.out.ext hb) (trivial)); clear hb)
        go_ret
        exact ⟨rfl, K27.out.1.bl⟩
      have HC := Lib.hid (fun W r1 r2 => Join_fit (A1 := A2) (A2 := A3) (c1 := c2) (c2 := c3) ho2 hfit2 W r1 r2 M2.out M3.out)
      have hX := fun W r1 r2 => Join_yes (A1 := A7) (A2 := A3) (c1 := c7) (c2 := c3) (xs := J) (by rw [← hJg]; exact ok2_joinL HO.out.1 (by rw [hJg]; exact HO.out.2) ho2) W r1 r2 (by have := HN.out; unfold maxLen; omega) M3.out
      have hY := fun A c W r1 r2 => Join_yes (A1 := A1) (A2 := A) (c1 := c1) (c2 := c) (ok2_joinR HO.out.1 hfit2 ho2) W r1 r2 M1.out (by rw [joinL_length]; exact M2.out)
      have has : joinL J zs = joinL xs (joinL ys zs) := by rw [← hJg]; exact joinL_assoc xs ys zs V.out.2.2
      rw [has] at hX
      have HX := Lib.hid hX
      have HY := Lib.hid hY
      have HNN := Lib.hid (show (pick (fitB (joinL xs (joinL ys zs))) (joinL xs (joinL ys zs))).length ≤ 1000 from pick_len fun _ => by rw [joinL_length]; have := V.out.1.2.1; omega)
      clear hX hY has e1 e2 ho2 hfit2
      generalize joinL ys zs = C at *
      generalize pick (fitB (joinL xs C)) (joinL xs C) = Z at *
      generalize rngB (joinL xs C) = N at *
      have q23 := (K.out.cells (⟨w.heap.size + 1, 0, none⟩, .slice A2 ys.length c2) (List.mem_of_getElem? (i := 3) rfl)).2
      have q24 := (K.out.cells (⟨w.heap.size + 1 + 1, 0, none⟩, .slice A3 zs.length c3) (List.mem_of_getElem? (i := 2) rfl)).2
      go_wp2_with fail
      refine (HC.out _ (K.out.rds (A2, ys) (List.mem_of_getElem? (i := 3) rfl)) (K.out.rds (A3, zs) (List.mem_of_getElem? (i := 2) rfl))).mono ?_
      rintro e y26 ⟨A14, c14, rfl, hr, hf, hb⟩
      have K25 := Lib.hid (And.intro (K.out.ext hb) hr)
      clear hr hf hb
      go_upto_region 17 with fail
      have hK := K25.out.1.box (A := A14) (c := c14) K25.out.2
      generalize hgW : y26.alloc (.cells #[.slice A14 C.length c14] 26) = W14 at *
      generalize hgg : y26.heap.size = g14 at *
      clear K K25 q23 q24 hgW hgg
      have K := Lib.hid hK
      clear hK
      have q27 := (K.out.cells (⟨g7, 0, none⟩, .slice A7 J.length c7) (List.mem_of_getElem? (i := 2) rfl)).2
      have q28 := (K.out.cells (⟨w.heap.size + 1 + 1, 0, none⟩, .slice A3 zs.length c3) (List.mem_of_getElem? (i := 3) rfl)).2
      go_upto_region 20 with (go_at_call 22; refine (HX.out _ (K.out.rds (A7, J) (List.mem_of_getElem? (i := 2) rfl)) (K.out.rds (A3, zs) (List.mem_of_getElem? (i := 3) rfl))).mono ?_; rintro e y30 ⟨A16, c16, rfl, hr, hf, hb⟩; have K29 := Lib.hid (And.intro (K.out.ext hb) hr); clear hr hf hb)
      have hK := K29.out.1.box (A := A16) (c := c16) K29.out.2
      generalize hgW : y30.alloc (.cells #[.slice A16 Z.length c16] 26) = W16 at *
      generalize hgg : y30.heap.size = g16 at *
      clear K K29 q27 q28 hgW hgg
      have K := Lib.hid hK
      clear hK
      have HYY := Lib.hid (HY.out A14 c14)
      have q31 := (K.out.cells (⟨w.heap.size, 0, none⟩, .slice A1 xs.length c1) (List.mem_of_getElem? (i := 6) rfl)).2
      have q32 := (K.out.cells (⟨g14, 0, none⟩, .slice A14 C.length c14) (List.mem_of_getElem? (i := 1) rfl)).2
      go_upto_region 21 with (go_at_call 22; refine (HYY.out _ (K.out.rds (A1, xs) (List.mem_of_getElem? (i := 6) rfl)) (K.out.rds (A14, C) (List.mem_of_getElem? (i := 1) rfl))).mono ?_; rintro e y34 ⟨A18, c18, rfl, hr, hf, hb⟩; have K33 := Lib.hid (And.intro (K.out.ext hb) hr); clear hr hf hb)
      have hK := K33.out.1.box (A := A18) (c := c18) K33.out.2
      generalize hgW : y34.alloc (.cells #[.slice A18 Z.length c18] 26) = W18 at *
      generalize hgg : y34.heap.size = g18 at *
      clear K K33 q31 q32 hgW hgg
      have K := Lib.hid hK
      clear hK
      go_wp2_with (first
        | (go_at_call 19; have _t := K35; clear _t; refine (Same_ex A16 A18 c16 c18 Z _ (K35.out.1.rds (A16, Z) (List.mem_of_getElem? (i := 1) rfl)) (K35.out.1.rds (A18, Z) (List.mem_of_getElem? (i := 0) rfl)) HNN.out).mono ?_; rintro e y40 ⟨rfl, hb⟩; have K39 := Lib.hid (And.intro (K35.out.1.ext hb) (trivial)); clear hb)
        | (go_at_call 16; refine (sanity_any _).mono ?_; rintro e y36 ⟨rfl, hb⟩; have K35 := Lib.hid (And.intro (K.out.ext hb) (trivial)); have q37 := (K35.out.1.cells (⟨g16, 0, none⟩, .slice A16 Z.length c16) (List.mem_of_getElem? (i := 1) rfl)).2; have q38 := (K35.out.1.cells (⟨g18, 0, none⟩, .slice A18 Z.length c18) (List.mem_of_getElem? (i := 0) rfl)).2; clear hb))
      go_ret
      exact ⟨ret_bool (by simp), K39.out.1.bl⟩
end Go.Proofs.Ytknkneccnhgjmaa
