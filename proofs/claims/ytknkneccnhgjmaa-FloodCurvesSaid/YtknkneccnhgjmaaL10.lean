/- Walk: the law FloodCurves. -/
import Derived.Test.YtknkneccnhgjmaaP6
import Derived.Test.YtknkneccnhgjmaaG11
import Derived.Test.YtknkneccnhgjmaaL7
namespace Go.Proofs.Ytknkneccnhgjmaa
open Go.RowKit Go.Shelf

set_option maxRecDepth 100000 in
set_option maxHeartbeats 8000000 in
theorem FloodCurves_row (w : World) (A1 : Option Addr) (c1 : Nat) (xs : List Int) (r1 : Rd w w.heap.size A1 xs) (m1 : xs.length ≤ maxLen) (A2 : Option Addr) (c2 : Nat) (ys : List Int) (r2 : Rd w w.heap.size A2 ys) (m2 : ys.length ≤ maxLen) (step : Int) (_ : (Lit.int .i64 step).wf = true) :
    Calls Try.prog 10 #[.agg #[.slice A1 xs.length c1], .agg #[.slice A2 ys.length c2], .int .i64 step] w fun e w' => e = .returned (.bool true) ∧ Below w.heap.size w w' := by
  have hK : Ex w w [] [] := ⟨Below.refl _ _, fun p hp => (by cases hp), fun p hp => (by cases hp)⟩
  have K := Lib.hid ((hK.addRd r1).addRd r2)
  have M1 := Lib.hid m1
  have M2 := Lib.hid m2
  clear hK r1 r2 m1 m2
  cases hf0 : fewB xs with
  | false =>
    have F0 := Lib.hid hf0
    clear hf0
    go_enter Try.func10, Try.ntmps10
    go_upto_region 1 with fail
    have hK := ((K.out.one (.slice A1 xs.length c1) 26).one (.slice A2 ys.length c2) 26)
    simp only [World.size_alloc] at hK
    generalize hgW : (w.alloc (.cells #[.slice A1 xs.length c1] 26)).alloc (.cells #[.slice A2 ys.length c2] 26) = W0 at *
    clear K hgW
    have K := Lib.hid hK
    clear hK
    have q1 := (K.out.cells (⟨w.heap.size, 0, none⟩, .slice A1 xs.length c1) (List.mem_of_getElem? (i := 1) rfl)).2
    go_wp2_with (first
      | (go_at_call 16; have _t := K2; clear _t; refine (sanity_any _).mono ?_; rintro e y6 ⟨rfl, hb⟩; have K5 := Lib.hid (And.intro (K2.out.1.ext hb) (trivial)); clear hb)
      | (go_at_call 20; refine (few_any A1 c1 xs _ M1.out).mono ?_; rw [F0.out]; rintro e y3 ⟨rfl, hb⟩; have K2 := Lib.hid (And.intro (K.out.ext hb) (trivial)); have q4 := (K2.out.1.cells (⟨w.heap.size + 1, 0, none⟩, .slice A2 ys.length c2) (List.mem_of_getElem? (i := 0) rfl)).2; clear hb))
    go_ret
    exact ⟨rfl, K5.out.1.bl⟩
  | true =>
  have F0 := Lib.hid hf0
  clear hf0
  cases hf1 : fewB ys with
  | false =>
    have F1 := Lib.hid hf1
    clear hf1
    go_enter Try.func10, Try.ntmps10
    go_upto_region 1 with fail
    have hK := ((K.out.one (.slice A1 xs.length c1) 26).one (.slice A2 ys.length c2) 26)
    simp only [World.size_alloc] at hK
    generalize hgW : (w.alloc (.cells #[.slice A1 xs.length c1] 26)).alloc (.cells #[.slice A2 ys.length c2] 26) = W0 at *
    clear K hgW
    have K := Lib.hid hK
    clear hK
    have q1 := (K.out.cells (⟨w.heap.size, 0, none⟩, .slice A1 xs.length c1) (List.mem_of_getElem? (i := 1) rfl)).2
    go_wp2_with (first
      | (go_at_call 16; have _t := K5; clear _t; refine (sanity_any _).mono ?_; rintro e y8 ⟨rfl, hb⟩; have K7 := Lib.hid (And.intro (K5.out.1.ext hb) (trivial)); clear hb)
      | (go_at_call 20; have _t := K2; clear _t; refine (few_any A2 c2 ys _ M2.out).mono ?_; rw [F1.out]; rintro e y6 ⟨rfl, hb⟩; have K5 := Lib.hid (And.intro (K2.out.1.ext hb) (trivial)); clear hb)
      | (go_at_call 20; refine (few_any A1 c1 xs _ M1.out).mono ?_; rw [F0.out]; rintro e y3 ⟨rfl, hb⟩; have K2 := Lib.hid (And.intro (K.out.ext hb) (trivial)); have q4 := (K2.out.1.cells (⟨w.heap.size + 1, 0, none⟩, .slice A2 ys.length c2) (List.mem_of_getElem? (i := 0) rfl)).2; clear hb))
    go_ret
    exact ⟨rfl, K7.out.1.bl⟩
  | true =>
  have F1 := Lib.hid hf1
  clear hf1
  have hs1 := fun W r1 r2 => Sum_any A1 A2 c1 c2 xs ys W r1 r2 M1.out M2.out
  have hs2 := fun W r1 r2 => rSum_any A1 A2 c1 c2 xs ys W r1 r2 M1.out M2.out
  have hl1 := fun W r1 r2 => Lower_any A1 A2 c1 c2 xs ys W r1 r2 M1.out M2.out
  have hl2 := fun W r1 r2 => rLower_any A1 A2 c1 c2 xs ys W r1 r2 M1.out M2.out
  have hj1 := fun W r1 r2 => Join_any A1 A2 c1 c2 xs ys W r1 r2 M1.out M2.out
  have hj2 := fun W r1 r2 => rJoin_any A1 A2 c1 c2 xs ys W r1 r2 M1.out M2.out
  have hd1 := fun W r1 r2 => Lead_any A1 A2 c1 c2 xs ys W r1 r2 M1.out M2.out
  have hd2 := fun W r1 r2 => rLead_any A1 A2 c1 c2 xs ys W r1 r2 M1.out M2.out
  have hp1 := fun W r1 r2 => Split_any A1 A2 c1 c2 xs ys step W r1 r2 M1.out M2.out
  have hp2 := fun W r1 r2 => rSplit_any A1 A2 c1 c2 xs ys step W r1 r2 M1.out M2.out
  have hc1 := fun W r1 => check_any A1 c1 xs W r1 M1.out
  have hc2 := fun W r1 => rCheck_any A1 c1 xs W r1 M1.out
  have l1 : ok2 xs ys = true → xs.length ≤ 121 := fun h => (ok2_iff.1 h).1.2.1
  have HN := Lib.hid (And.intro (pick_valid (b := ok2 xs ys && fitB (sumL xs ys)) (xs := sumL xs ys) fun h => by rw [sumL_length]; exact l1 (by rw [Bool.and_eq_true] at h; exact h.1)) (And.intro (pick_valid (b := ok2 xs ys) (xs := lowerL xs ys) fun h => by rw [lowerL_length]; exact l1 h) (And.intro (pick_valid (b := ok2 xs ys && fitB (joinL xs ys)) (xs := joinL xs ys) fun h => by rw [joinL_length]; exact l1 (by rw [Bool.and_eq_true] at h; exact h.1)) (pick_valid (b := ok2 xs ys) (xs := leadL xs ys) fun h => by rw [leadL_length]; exact l1 h))))
  clear l1
  generalize pick (ok2 xs ys && fitB (sumL xs ys)) (sumL xs ys) = X1 at *
  generalize (if ok2 xs ys then rngB (sumL xs ys) else 1) = E1 at *
  generalize pick (ok2 xs ys) (lowerL xs ys) = Y1 at *
  generalize pick (ok2 xs ys && fitB (joinL xs ys)) (joinL xs ys) = Z1 at *
  generalize (if ok2 xs ys then rngB (joinL xs ys) else 1) = E3 at *
  generalize pick (ok2 xs ys) (leadL xs ys) = V1 at *
  generalize errB (ok2 xs ys) = E2 at *
  generalize splitN xs ys step = n at *
  generalize stepE (ok2 xs ys) xs step = E4 at *
  generalize errB (validB xs) = E5 at *
  have Hs1 := Lib.hid hs1
  have Hs2 := Lib.hid hs2
  have Hl1 := Lib.hid hl1
  have Hl2 := Lib.hid hl2
  have Hj1 := Lib.hid hj1
  have Hj2 := Lib.hid hj2
  have Hd1 := Lib.hid hd1
  have Hd2 := Lib.hid hd2
  have Hp1 := Lib.hid hp1
  have Hp2 := Lib.hid hp2
  have Hc1 := Lib.hid hc1
  have Hc2 := Lib.hid hc2
  clear hs1 hs2 hl1 hl2 hj1 hj2 hd1 hd2 hp1 hp2 hc1 hc2
  go_enter Try.func10, Try.ntmps10
  go_upto_region 1 with fail
  have hK := ((K.out.one (.slice A1 xs.length c1) 26).one (.slice A2 ys.length c2) 26)
  simp only [World.size_alloc] at hK
  generalize hgW : (w.alloc (.cells #[.slice A1 xs.length c1] 26)).alloc (.cells #[.slice A2 ys.length c2] 26) = W0 at *
  clear K hgW
  have K := Lib.hid hK
  clear hK
  have q1 := (K.out.cells (⟨w.heap.size, 0, none⟩, .slice A1 xs.length c1) (List.mem_of_getElem? (i := 1) rfl)).2
  go_upto_region 3 with (first
    | (go_at_call 20; have _t := K2; clear _t; refine (few_any A2 c2 ys _ M2.out).mono ?_; rw [F1.out]; rintro e y6 ⟨rfl, hb⟩; have K5 := Lib.hid (And.intro (K2.out.1.ext hb) (trivial)); clear hb)
    | (go_at_call 20; refine (few_any A1 c1 xs _ M1.out).mono ?_; rw [F0.out]; rintro e y3 ⟨rfl, hb⟩; have K2 := Lib.hid (And.intro (K.out.ext hb) (trivial)); have q4 := (K2.out.1.cells (⟨w.heap.size + 1, 0, none⟩, .slice A2 ys.length c2) (List.mem_of_getElem? (i := 0) rfl)).2; clear hb))
  have hK := K5.out.1
  generalize hgW : y6 = W1 at *
  clear K hgW
  have K := Lib.hid hK
  clear hK
  have q7 := (K.out.cells (⟨w.heap.size, 0, none⟩, .slice A1 xs.length c1) (List.mem_of_getElem? (i := 1) rfl)).2
  have q8 := (K.out.cells (⟨w.heap.size + 1, 0, none⟩, .slice A2 ys.length c2) (List.mem_of_getElem? (i := 0) rfl)).2
  go_upto_region 4 with (go_at_call 27; refine (Hs1.out _ (K.out.rds (A1, xs) (List.mem_of_getElem? (i := 1) rfl)) (K.out.rds (A2, ys) (List.mem_of_getElem? (i := 0) rfl))).mono ?_; rintro e y10 ⟨A7, c7, rfl, hr, hf, hb⟩; have K9 := Lib.hid (And.intro (K.out.ext hb) hr); clear hr hf hb)
  have hK := K9.out.1.box (A := A7) (c := c7) K9.out.2
  generalize hgW : y10.alloc (.cells #[.slice A7 X1.length c7] 26) = W7 at *
  generalize hgg : y10.heap.size = g7 at *
  clear K K9 q7 q8 hgW hgg
  have K := Lib.hid hK
  clear hK
  have q11 := (K.out.cells (⟨w.heap.size, 0, none⟩, .slice A1 xs.length c1) (List.mem_of_getElem? (i := 2) rfl)).2
  have q12 := (K.out.cells (⟨w.heap.size + 1, 0, none⟩, .slice A2 ys.length c2) (List.mem_of_getElem? (i := 1) rfl)).2
  go_upto_region 5 with (go_at_call 47; refine (Hs2.out _ (K.out.rds (A1, xs) (List.mem_of_getElem? (i := 2) rfl)) (K.out.rds (A2, ys) (List.mem_of_getElem? (i := 1) rfl))).mono ?_; rintro e y14 ⟨A9, c9, rfl, hr, hf, hb⟩; have K13 := Lib.hid (And.intro (K.out.ext hb) hr); clear hr hf hb)
  have hK := (K13.out.1.addRd K13.out.2).two (.slice A9 X1.length c9) (.int .i64 E1) 61
  generalize hgW : y14.alloc (.cells #[.slice A9 X1.length c9, .int .i64 E1] 61) = W9 at *
  generalize hgg : y14.heap.size = g9 at *
  clear K K13 q11 q12 hgW hgg
  have K := Lib.hid hK
  clear hK
  have q15 := (K.out.cells (⟨w.heap.size, 0, none⟩, .slice A1 xs.length c1) (List.mem_of_getElem? (i := 4) rfl)).2
  have q16 := (K.out.cells (⟨w.heap.size + 1, 0, none⟩, .slice A2 ys.length c2) (List.mem_of_getElem? (i := 3) rfl)).2
  go_upto_region 6 with (go_at_call 28; refine (Hl1.out _ (K.out.rds (A1, xs) (List.mem_of_getElem? (i := 3) rfl)) (K.out.rds (A2, ys) (List.mem_of_getElem? (i := 2) rfl))).mono ?_; rintro e y18 ⟨A10, c10, rfl, hr, hf, hb⟩; have K17 := Lib.hid (And.intro (K.out.ext hb) hr); clear hr hf hb)
  have hK := K17.out.1.box (A := A10) (c := c10) K17.out.2
  generalize hgW : y18.alloc (.cells #[.slice A10 Y1.length c10] 26) = W10 at *
  generalize hgg : y18.heap.size = g10 at *
  clear K K17 q15 q16 hgW hgg
  have K := Lib.hid hK
  clear hK
  have q19 := (K.out.cells (⟨w.heap.size, 0, none⟩, .slice A1 xs.length c1) (List.mem_of_getElem? (i := 5) rfl)).2
  have q20 := (K.out.cells (⟨w.heap.size + 1, 0, none⟩, .slice A2 ys.length c2) (List.mem_of_getElem? (i := 4) rfl)).2
  go_upto_region 7 with (go_at_call 48; refine (Hl2.out _ (K.out.rds (A1, xs) (List.mem_of_getElem? (i := 4) rfl)) (K.out.rds (A2, ys) (List.mem_of_getElem? (i := 3) rfl))).mono ?_; rintro e y22 ⟨A12, c12, rfl, hr, hf, hb⟩; have K21 := Lib.hid (And.intro (K.out.ext hb) hr); clear hr hf hb)
  have hK := (K21.out.1.addRd K21.out.2).two (.slice A12 Y1.length c12) (.int .i64 E2) 61
  generalize hgW : y22.alloc (.cells #[.slice A12 Y1.length c12, .int .i64 E2] 61) = W12 at *
  generalize hgg : y22.heap.size = g12 at *
  clear K K21 q19 q20 hgW hgg
  have K := Lib.hid hK
  clear hK
  have q23 := (K.out.cells (⟨w.heap.size, 0, none⟩, .slice A1 xs.length c1) (List.mem_of_getElem? (i := 7) rfl)).2
  have q24 := (K.out.cells (⟨w.heap.size + 1, 0, none⟩, .slice A2 ys.length c2) (List.mem_of_getElem? (i := 6) rfl)).2
  go_upto_region 8 with (go_at_call 22; refine (Hj1.out _ (K.out.rds (A1, xs) (List.mem_of_getElem? (i := 5) rfl)) (K.out.rds (A2, ys) (List.mem_of_getElem? (i := 4) rfl))).mono ?_; rintro e y26 ⟨A13, c13, rfl, hr, hf, hb⟩; have K25 := Lib.hid (And.intro (K.out.ext hb) hr); clear hr hf hb)
  have hK := K25.out.1.box (A := A13) (c := c13) K25.out.2
  generalize hgW : y26.alloc (.cells #[.slice A13 Z1.length c13] 26) = W13 at *
  generalize hgg : y26.heap.size = g13 at *
  clear K K25 q23 q24 hgW hgg
  have K := Lib.hid hK
  clear hK
  have q27 := (K.out.cells (⟨w.heap.size, 0, none⟩, .slice A1 xs.length c1) (List.mem_of_getElem? (i := 8) rfl)).2
  have q28 := (K.out.cells (⟨w.heap.size + 1, 0, none⟩, .slice A2 ys.length c2) (List.mem_of_getElem? (i := 7) rfl)).2
  go_upto_region 9 with (go_at_call 49; refine (Hj2.out _ (K.out.rds (A1, xs) (List.mem_of_getElem? (i := 6) rfl)) (K.out.rds (A2, ys) (List.mem_of_getElem? (i := 5) rfl))).mono ?_; rintro e y30 ⟨A15, c15, rfl, hr, hf, hb⟩; have K29 := Lib.hid (And.intro (K.out.ext hb) hr); clear hr hf hb)
  have hK := (K29.out.1.addRd K29.out.2).two (.slice A15 Z1.length c15) (.int .i64 E3) 61
  generalize hgW : y30.alloc (.cells #[.slice A15 Z1.length c15, .int .i64 E3] 61) = W15 at *
  generalize hgg : y30.heap.size = g15 at *
  clear K K29 q27 q28 hgW hgg
  have K := Lib.hid hK
  clear hK
  have q31 := (K.out.cells (⟨w.heap.size, 0, none⟩, .slice A1 xs.length c1) (List.mem_of_getElem? (i := 10) rfl)).2
  have q32 := (K.out.cells (⟨w.heap.size + 1, 0, none⟩, .slice A2 ys.length c2) (List.mem_of_getElem? (i := 9) rfl)).2
  go_upto_region 10 with (go_at_call 21; refine (Hd1.out _ (K.out.rds (A1, xs) (List.mem_of_getElem? (i := 7) rfl)) (K.out.rds (A2, ys) (List.mem_of_getElem? (i := 6) rfl))).mono ?_; rintro e y34 ⟨A16, c16, rfl, hr, hf, hb⟩; have K33 := Lib.hid (And.intro (K.out.ext hb) hr); clear hr hf hb)
  have hK := K33.out.1.box (A := A16) (c := c16) K33.out.2
  generalize hgW : y34.alloc (.cells #[.slice A16 V1.length c16] 26) = W16 at *
  generalize hgg : y34.heap.size = g16 at *
  clear K K33 q31 q32 hgW hgg
  have K := Lib.hid hK
  clear hK
  have q35 := (K.out.cells (⟨w.heap.size, 0, none⟩, .slice A1 xs.length c1) (List.mem_of_getElem? (i := 11) rfl)).2
  have q36 := (K.out.cells (⟨w.heap.size + 1, 0, none⟩, .slice A2 ys.length c2) (List.mem_of_getElem? (i := 10) rfl)).2
  go_upto_region 11 with (go_at_call 50; refine (Hd2.out _ (K.out.rds (A1, xs) (List.mem_of_getElem? (i := 8) rfl)) (K.out.rds (A2, ys) (List.mem_of_getElem? (i := 7) rfl))).mono ?_; rintro e y38 ⟨A18, c18, rfl, hr, hf, hb⟩; have K37 := Lib.hid (And.intro (K.out.ext hb) hr); clear hr hf hb)
  have hK := (K37.out.1.addRd K37.out.2).two (.slice A18 V1.length c18) (.int .i64 E2) 61
  generalize hgW : y38.alloc (.cells #[.slice A18 V1.length c18, .int .i64 E2] 61) = W18 at *
  generalize hgg : y38.heap.size = g18 at *
  clear K K37 q35 q36 hgW hgg
  have K := Lib.hid hK
  clear hK
  have q39 := (K.out.cells (⟨w.heap.size, 0, none⟩, .slice A1 xs.length c1) (List.mem_of_getElem? (i := 13) rfl)).2
  have q40 := (K.out.cells (⟨w.heap.size + 1, 0, none⟩, .slice A2 ys.length c2) (List.mem_of_getElem? (i := 12) rfl)).2
  go_upto_region 12 with (go_at_call 26; refine (Hp1.out _ (K.out.rds (A1, xs) (List.mem_of_getElem? (i := 9) rfl)) (K.out.rds (A2, ys) (List.mem_of_getElem? (i := 8) rfl))).mono ?_; rintro e y42 ⟨rfl, hb⟩; have K41 := Lib.hid (K.out.ext hb); clear hb)
  clear K q39 q40
  have K := K41
  clear K41
  have q43 := (K.out.cells (⟨w.heap.size, 0, none⟩, .slice A1 xs.length c1) (List.mem_of_getElem? (i := 13) rfl)).2
  have q44 := (K.out.cells (⟨w.heap.size + 1, 0, none⟩, .slice A2 ys.length c2) (List.mem_of_getElem? (i := 12) rfl)).2
  go_upto_region 13 with (go_at_call 51; refine (Hp2.out _ (K.out.rds (A1, xs) (List.mem_of_getElem? (i := 9) rfl)) (K.out.rds (A2, ys) (List.mem_of_getElem? (i := 8) rfl))).mono ?_; rintro e y46 ⟨rfl, hb⟩; have K45 := Lib.hid (K.out.ext hb); clear hb)
  clear K q43 q44
  have K := K45
  clear K45
  have hmid := K.out
  clear hmid
  obtain ⟨l47, q48⟩ := (K.out.cells (⟨w.heap.size, 0, none⟩, .slice A1 xs.length c1) (List.mem_of_getElem? (i := 13) rfl))
  dsimp only at l47 q48
  obtain ⟨l49, q50⟩ := (K.out.cells (⟨g7, 0, none⟩, .slice A7 X1.length c7) (List.mem_of_getElem? (i := 11) rfl))
  dsimp only at l49 q50
  obtain ⟨l51, q52⟩ := (K.out.cells (⟨g9, 0, none⟩, .slice A9 X1.length c9) (List.mem_of_getElem? (i := 9) rfl))
  dsimp only at l51 q52
  obtain ⟨l53, q54⟩ := (K.out.cells (⟨g9, 1, none⟩, .int .i64 E1) (List.mem_of_getElem? (i := 10) rfl))
  dsimp only at l53 q54
  obtain ⟨l55, q56⟩ := (K.out.cells (⟨g10, 0, none⟩, .slice A10 Y1.length c10) (List.mem_of_getElem? (i := 8) rfl))
  dsimp only at l55 q56
  obtain ⟨l57, q58⟩ := (K.out.cells (⟨g12, 0, none⟩, .slice A12 Y1.length c12) (List.mem_of_getElem? (i := 6) rfl))
  dsimp only at l57 q58
  obtain ⟨l59, q60⟩ := (K.out.cells (⟨g12, 1, none⟩, .int .i64 E2) (List.mem_of_getElem? (i := 7) rfl))
  dsimp only at l59 q60
  refine wp_region_ext (by kernel_rfl) (by kernel_rfl) ?_
  intro ι _ X hX hC
  have rX := fun k => (bcell (hX k)).1
  repeat (first | go_big_quiet_skip | (go_big_quiet_want; go_big_quiet_op; first | go_big_quiet_on | (apply Exists.intro; refine ⟨fun _ => ?_, ?_⟩; (focus ((first | (go_at_call 23; with_reducible exact Calls.ext_of hX hC (Hc1.out _ ((K.out.rds (A1, xs) (List.mem_of_getElem? (i := 9) rfl)).ext (hX _)))) | (go_at_call 52; with_reducible exact Calls.ext_of hX hC (Hc2.out _ ((K.out.rds (A1, xs) (List.mem_of_getElem? (i := 9) rfl)).ext (hX _)))) | (go_at_call 19; with_reducible exact Calls.ext_of hX hC (Same_ex A7 A9 c7 c9 X1 _ ((K.out.rds (A7, X1) (List.mem_of_getElem? (i := 7) rfl)).ext (hX _)) ((K.out.rds (A9, X1) (List.mem_of_getElem? (i := 6) rfl)).ext (hX _)) HN.out.1)) | (go_at_call 19; with_reducible exact Calls.ext_of hX hC (Same_ex A10 A12 c10 c12 Y1 _ ((K.out.rds (A10, Y1) (List.mem_of_getElem? (i := 5) rfl)).ext (hX _)) ((K.out.rds (A12, Y1) (List.mem_of_getElem? (i := 4) rfl)).ext (hX _)) HN.out.2.1))))); go_big_quiet_on)))
  refine wpQuiet_nil ?_
  intro w1 hb1
  clear rX hX hC
  have hK := K.out.ext hb1
  generalize w1 = W20 at *
  clear K
  have K := Lib.hid hK
  clear hK hb1
  skip
  have q61 := (K.out.cells (⟨g13, 0, none⟩, .slice A13 Z1.length c13) (List.mem_of_getElem? (i := 5) rfl)).2
  clear q61
  go_wp2_with (first
    | (go_at_call 19; have _t := K66; clear _t; refine (Same_ex A16 A18 c16 c18 V1 _ (K66.out.1.rds (A16, V1) (List.mem_of_getElem? (i := 1) rfl)) (K66.out.1.rds (A18, V1) (List.mem_of_getElem? (i := 0) rfl)) HN.out.2.2.2).mono ?_; rintro e y72 ⟨rfl, hb⟩; have K71 := Lib.hid (And.intro (K66.out.1.ext hb) (trivial)); have q73 := (K71.out.1.cells (⟨g18, 1, none⟩, .int .i64 E2) (List.mem_of_getElem? (i := 1) rfl)).2; clear hb)
    | (go_at_call 19; have _t := K62; clear _t; refine (Same_ex A13 A15 c13 c15 Z1 _ (K62.out.1.rds (A13, Z1) (List.mem_of_getElem? (i := 3) rfl)) (K62.out.1.rds (A15, Z1) (List.mem_of_getElem? (i := 2) rfl)) HN.out.2.2.1).mono ?_; rintro e y67 ⟨rfl, hb⟩; have K66 := Lib.hid (And.intro (K62.out.1.ext hb) (trivial)); have q68 := (K66.out.1.cells (⟨g15, 1, none⟩, .int .i64 E3) (List.mem_of_getElem? (i := 4) rfl)).2; have q69 := (K66.out.1.cells (⟨g16, 0, none⟩, .slice A16 V1.length c16) (List.mem_of_getElem? (i := 2) rfl)).2; have q70 := (K66.out.1.cells (⟨g18, 0, none⟩, .slice A18 V1.length c18) (List.mem_of_getElem? (i := 0) rfl)).2; clear hb)
    | (go_at_call 16; refine (sanity_any _).mono ?_; rintro e y63 ⟨rfl, hb⟩; have K62 := Lib.hid (And.intro (K.out.ext hb) (trivial)); have q64 := (K62.out.1.cells (⟨g13, 0, none⟩, .slice A13 Z1.length c13) (List.mem_of_getElem? (i := 5) rfl)).2; have q65 := (K62.out.1.cells (⟨g15, 0, none⟩, .slice A15 Z1.length c15) (List.mem_of_getElem? (i := 3) rfl)).2; clear hb))
  go_ret
  exact ⟨ret_bool (by simp), K71.out.1.bl⟩
end Go.Proofs.Ytknkneccnhgjmaa
