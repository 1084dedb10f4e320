/- Walk: the law FloodLimits. -/
import Derived.Test.YtknkneccnhgjmaaG15
import Derived.Test.YtknkneccnhgjmaaL11
namespace Go.Proofs.Ytknkneccnhgjmaa
open Go.RowKit Go.Shelf

theorem Ex.four {w W : World} {M : List (Addr × Value)} {R : List (Option Addr × List Int)} (h : Ex w W M R) (u v x y : Value) (ty : TypeId) :
    Ex w (W.alloc (.cells #[u, v, x, y] ty)) ((⟨W.heap.size, 0, none⟩, u) :: (⟨W.heap.size, 1, none⟩, v) :: (⟨W.heap.size, 2, none⟩, x) :: (⟨W.heap.size, 3, none⟩, y) :: M) R := by
  have h' := h.ext ((Below.refl _ W).alloc (Nat.le_refl _) (.cells #[u, v, x, y] ty))
  obtain ⟨z0, z1, z2, z3, _⟩ := four_cells (heap_alloc_new W (.cells #[u, v, x, y] ty))
  refine ⟨h'.bl, fun p hp => ?_, h'.rds⟩
  rcases List.mem_cons.1 hp with rfl | hp
  · exact ⟨by simp, z0⟩
  · rcases List.mem_cons.1 hp with rfl | hp
    · exact ⟨by simp, z1⟩
    · rcases List.mem_cons.1 hp with rfl | hp
      · exact ⟨by simp, z2⟩
      · rcases List.mem_cons.1 hp with rfl | hp
        · exact ⟨by simp, z3⟩
        · exact h'.cells p hp

set_option maxRecDepth 100000 in
set_option maxHeartbeats 8000000 in
theorem FloodLimits_row (w : World) (A1 : Option Addr) (c1 : Nat) (xs : List Int) (r1 : Rd w w.heap.size A1 xs) (m1 : xs.length ≤ maxLen) (A2 : Option Addr) (c2 : Nat) (ys : List Int) (r2 : Rd w w.heap.size A2 ys) (m2 : ys.length ≤ maxLen) (step : Int) (_ : (Lit.int .i64 step).wf = true)
    (A3 : Option Addr) (c3 : Nat) (ps : List Int) (r3 : Rd w w.heap.size A3 ps) (_ : ps.length ≤ maxLen) :
    Calls Try.prog 14 #[.agg #[.slice A1 xs.length c1], .agg #[.slice A2 ys.length c2], .int .i64 step, .slice A3 ps.length c3] w fun e w' => e = .returned (.bool true) ∧ Below w.heap.size w w' := by
  have hK : Ex w w [] [] := ⟨Below.refl _ _, fun p hp => (by cases hp), fun p hp => (by cases hp)⟩
  have K := Lib.hid (((hK.addRd r1).addRd r2).addRd r3)
  have M1 := Lib.hid m1
  have M2 := Lib.hid m2
  clear hK r1 r2 r3 m1 m2
  cases hf0 : fewB xs with
  | false =>
    have F0 := Lib.hid hf0
    clear hf0
    go_enter Try.func14, Try.ntmps14
    go_upto_region 1 with fail
    have hK := ((K.out.one (.slice A1 xs.length c1) 26).one (.slice A2 ys.length c2) 26)
    simp only [World.size_alloc] at hK
    generalize hgW : (w.alloc (.cells #[.slice A1 xs.length c1] 26)).alloc (.cells #[.slice A2 ys.length c2] 26) = W0 at *
    clear K hgW
    have K := Lib.hid hK
    clear hK
    have q1 := (K.out.cells (⟨w.heap.size, 0, none⟩, .slice A1 xs.length c1) (List.mem_of_getElem? (i := 1) rfl)).2
    go_wp2_with (first
      | (go_at_call 16; have _t := K2; clear _t; refine (sanity_any _).mono ?_; rintro e y6 ⟨rfl, hb⟩; have K5 := Lib.hid (And.intro (K2.out.1.ext hb) (trivial)); clear hb)
      | (go_at_call 20; refine (few_any A1 c1 xs _ M1.out).mono ?_; rw [F0.out]; rintro e y3 ⟨rfl, hb⟩; have K2 := Lib.hid (And.intro (K.out.ext hb) (trivial)); have q4 := (K2.out.1.cells (⟨w.heap.size + 1, 0, none⟩, .slice A2 ys.length c2) (List.mem_of_getElem? (i := 0) rfl)).2; clear hb))
    go_ret
    exact ⟨rfl, K5.out.1.bl⟩
  | true =>
  have F0 := Lib.hid hf0
  clear hf0
  cases hf1 : fewB ys with
  | false =>
    have F1 := Lib.hid hf1
    clear hf1
    go_enter Try.func14, Try.ntmps14
    go_upto_region 1 with fail
    have hK := ((K.out.one (.slice A1 xs.length c1) 26).one (.slice A2 ys.length c2) 26)
    simp only [World.size_alloc] at hK
    generalize hgW : (w.alloc (.cells #[.slice A1 xs.length c1] 26)).alloc (.cells #[.slice A2 ys.length c2] 26) = W0 at *
    clear K hgW
    have K := Lib.hid hK
    clear hK
    have q1 := (K.out.cells (⟨w.heap.size, 0, none⟩, .slice A1 xs.length c1) (List.mem_of_getElem? (i := 1) rfl)).2
    go_wp2_with (first
      | (go_at_call 16; have _t := K5; clear _t; refine (sanity_any _).mono ?_; rintro e y8 ⟨rfl, hb⟩; have K7 := Lib.hid (And.intro (K5.out.1.ext hb) (trivial)); clear hb)
      | (go_at_call 20; have _t := K2; clear _t; refine (few_any A2 c2 ys _ M2.out).mono ?_; rw [F1.out]; rintro e y6 ⟨rfl, hb⟩; have K5 := Lib.hid (And.intro (K2.out.1.ext hb) (trivial)); clear hb)
      | (go_at_call 20; refine (few_any A1 c1 xs _ M1.out).mono ?_; rw [F0.out]; rintro e y3 ⟨rfl, hb⟩; have K2 := Lib.hid (And.intro (K.out.ext hb) (trivial)); have q4 := (K2.out.1.cells (⟨w.heap.size + 1, 0, none⟩, .slice A2 ys.length c2) (List.mem_of_getElem? (i := 0) rfl)).2; clear hb))
    go_ret
    exact ⟨rfl, K7.out.1.bl⟩
  | true =>
  have F1 := Lib.hid hf1
  clear hf1
  by_cases h130 : 130 < ps.length
  · have z130 : (130 : Int) < (ps.length : Int) := by omega
    go_enter Try.func14, Try.ntmps14
    go_upto_region 1 with fail
    have hK := ((K.out.one (.slice A1 xs.length c1) 26).one (.slice A2 ys.length c2) 26)
    simp only [World.size_alloc] at hK
    generalize hgW : (w.alloc (.cells #[.slice A1 xs.length c1] 26)).alloc (.cells #[.slice A2 ys.length c2] 26) = W0 at *
    clear K hgW
    have K := Lib.hid hK
    clear hK
    have q1 := (K.out.cells (⟨w.heap.size, 0, none⟩, .slice A1 xs.length c1) (List.mem_of_getElem? (i := 1) rfl)).2
    go_wp2_with (first
      | (go_at_call 16; have _t := K5; clear _t; refine (sanity_any _).mono ?_; rintro e y8 ⟨rfl, hb⟩; have K7 := Lib.hid (And.intro (K5.out.1.ext hb) (trivial)); clear hb)
      | (go_at_call 20; have _t := K2; clear _t; refine (few_any A2 c2 ys _ M2.out).mono ?_; rw [F1.out]; rintro e y6 ⟨rfl, hb⟩; have K5 := Lib.hid (And.intro (K2.out.1.ext hb) (trivial)); clear hb)
      | (go_at_call 20; refine (few_any A1 c1 xs _ M1.out).mono ?_; rw [F0.out]; rintro e y3 ⟨rfl, hb⟩; have K2 := Lib.hid (And.intro (K.out.ext hb) (trivial)); have q4 := (K2.out.1.cells (⟨w.heap.size + 1, 0, none⟩, .slice A2 ys.length c2) (List.mem_of_getElem? (i := 0) rfl)).2; clear hb))
    go_ret
    exact ⟨rfl, K7.out.1.bl⟩
  have z130 : ¬ (130 : Int) < (ps.length : Int) := by omega
  clear h130
  have ho1 := fun W r1 r2 => Obeys_any A1 A2 c1 c2 xs ys W r1 r2 M1.out M2.out
  have ho2 := fun W r1 r2 => rObeys_any A1 A2 c1 c2 xs ys W r1 r2 M1.out M2.out
  have hc1 := fun W r1 => Close_any A2 c2 ys W r1 M2.out
  have hc2 := fun W r1 => rClose_any A2 c2 ys W r1 M2.out
  have hp1 := fun W r1 r2 => CheckParts_any A2 A3 c2 c3 ys ps step W r1 r2 M2.out
  have hp2 := fun W r1 r2 => rCheckParts_any A2 A3 c2 c3 ys ps step W r1 r2 M2.out
  have hxl : (pick (validB ys) (closedL ys)).length ≤ 1000 := pick_valid fun h => by rw [closedL_length]; exact ((validB_iff ys).1 h).2.1
  generalize pickI (ok2 xs ys) (brkLo (brk xs ys)) = lo at *
  generalize pickI (ok2 xs ys) (brkHi (brk xs ys)) = hi at *
  generalize (ok2 xs ys && obeysB xs ys) = B1 at *
  generalize errB (ok2 xs ys) = E1 at *
  generalize cpN ys step ps = n at *
  generalize cpE ys step ps = E3 at *
  have HN := Lib.hid hxl
  have HO1 := Lib.hid ho1
  have HO2 := Lib.hid ho2
  have HC1 := Lib.hid hc1
  have HC2 := Lib.hid hc2
  have HP1 := Lib.hid hp1
  have HP2 := Lib.hid hp2
  clear ho1 ho2 hc1 hc2 hp1 hp2 hxl
  go_enter Try.func14, Try.ntmps14
  go_upto_region 1 with fail
  have hK := ((K.out.one (.slice A1 xs.length c1) 26).one (.slice A2 ys.length c2) 26)
  simp only [World.size_alloc] at hK
  generalize hgW : (w.alloc (.cells #[.slice A1 xs.length c1] 26)).alloc (.cells #[.slice A2 ys.length c2] 26) = W0 at *
  clear K hgW
  have K := Lib.hid hK
  clear hK
  have q1 := (K.out.cells (⟨w.heap.size, 0, none⟩, .slice A1 xs.length c1) (List.mem_of_getElem? (i := 1) rfl)).2
  go_upto_region 3 with (first
    | (go_at_call 20; have _t := K2; clear _t; refine (few_any A2 c2 ys _ M2.out).mono ?_; rw [F1.out]; rintro e y6 ⟨rfl, hb⟩; have K5 := Lib.hid (And.intro (K2.out.1.ext hb) (trivial)); clear hb)
    | (go_at_call 20; refine (few_any A1 c1 xs _ M1.out).mono ?_; rw [F0.out]; rintro e y3 ⟨rfl, hb⟩; have K2 := Lib.hid (And.intro (K.out.ext hb) (trivial)); have q4 := (K2.out.1.cells (⟨w.heap.size + 1, 0, none⟩, .slice A2 ys.length c2) (List.mem_of_getElem? (i := 0) rfl)).2; clear hb))
  have hK := K5.out.1
  generalize hgW : y6 = W1 at *
  clear K hgW
  have K := Lib.hid hK
  clear hK
  have q7 := (K.out.cells (⟨w.heap.size, 0, none⟩, .slice A1 xs.length c1) (List.mem_of_getElem? (i := 1) rfl)).2
  have q8 := (K.out.cells (⟨w.heap.size + 1, 0, none⟩, .slice A2 ys.length c2) (List.mem_of_getElem? (i := 0) rfl)).2
  go_upto_region 4 with (go_at_call 57; refine (HO1.out _ (K.out.rds (A1, xs) (List.mem_of_getElem? (i := 2) rfl)) (K.out.rds (A2, ys) (List.mem_of_getElem? (i := 1) rfl))).mono ?_; rintro e y10 ⟨rfl, hb⟩; have K9 := Lib.hid (K.out.ext hb); clear hb)
  have hK := K9.out.two (.int .i64 lo) (.int .i64 hi) 73
  generalize hgW : y10.alloc (.cells #[.int .i64 lo, .int .i64 hi] 73) = W9 at *
  generalize hgg : y10.heap.size = g9 at *
  clear K K9 q7 q8 hgW hgg
  have K := Lib.hid hK
  clear hK
  have q11 := (K.out.cells (⟨w.heap.size, 0, none⟩, .slice A1 xs.length c1) (List.mem_of_getElem? (i := 3) rfl)).2
  have q12 := (K.out.cells (⟨w.heap.size + 1, 0, none⟩, .slice A2 ys.length c2) (List.mem_of_getElem? (i := 2) rfl)).2
  go_upto_region 5 with (go_at_call 58; refine (HO2.out _ (K.out.rds (A1, xs) (List.mem_of_getElem? (i := 2) rfl)) (K.out.rds (A2, ys) (List.mem_of_getElem? (i := 1) rfl))).mono ?_; rintro e y14 ⟨rfl, hb⟩; have K13 := Lib.hid (K.out.ext hb); clear hb)
  have hK := K13.out.four (.int .i64 lo) (.int .i64 hi) (.bool B1) (.int .i64 E1) 77
  generalize hgW : y14.alloc (.cells #[.int .i64 lo, .int .i64 hi, .bool B1, .int .i64 E1] 77) = W12 at *
  generalize hgg : y14.heap.size = g12 at *
  clear K K13 q11 q12 hgW hgg
  have K := Lib.hid hK
  clear hK
  generalize hX1 : pick (validB ys) (closedL ys) = X1 at *
  generalize hE2 : errB (validB ys) = E2 at *
  have HX := Lib.hid (And.intro hX1 hE2)
  clear hX1 hE2
  have q15 := (K.out.cells (⟨w.heap.size + 1, 0, none⟩, .slice A2 ys.length c2) (List.mem_of_getElem? (i := 6) rfl)).2
  go_upto_region 6 with (go_at_call 59; refine (HC1.out _ (K.out.rds (A2, ys) (List.mem_of_getElem? (i := 1) rfl))).mono ?_; rintro e y17 ⟨A13, c13, rfl, hr, hf, hb⟩; have K16 := Lib.hid (And.intro (K.out.ext hb) hr); clear hr hf hb)
  have hK := K16.out.1.box (A := A13) (c := c13) K16.out.2
  generalize hgW : y17.alloc (.cells #[.slice A13 X1.length c13] 26) = W13 at *
  generalize hgg : y17.heap.size = g13 at *
  clear K K16 q15 hgW hgg
  have K := Lib.hid hK
  clear hK
  have q18 := (K.out.cells (⟨w.heap.size + 1, 0, none⟩, .slice A2 ys.length c2) (List.mem_of_getElem? (i := 7) rfl)).2
  go_upto_region 7 with (go_at_call 60; refine (HC2.out _ (K.out.rds (A2, ys) (List.mem_of_getElem? (i := 2) rfl))).mono ?_; rintro e y20 ⟨A15, c15, rfl, hr, hf, hb⟩; have K19 := Lib.hid (And.intro (K.out.ext hb) hr); clear hr hf hb)
  have hK := (K19.out.1.addRd K19.out.2).two (.slice A15 X1.length c15) (.int .i64 E2) 61
  generalize hgW : y20.alloc (.cells #[.slice A15 X1.length c15, .int .i64 E2] 61) = W15 at *
  generalize hgg : y20.heap.size = g15 at *
  clear K K19 q18 hgW hgg
  have K := Lib.hid hK
  clear hK
  have q21 := (K.out.cells (⟨w.heap.size + 1, 0, none⟩, .slice A2 ys.length c2) (List.mem_of_getElem? (i := 9) rfl)).2
  go_upto_region 8 with (go_at_call 61; refine (HP1.out _ (K.out.rds (A2, ys) (List.mem_of_getElem? (i := 3) rfl)) (K.out.rds (A3, ps) (List.mem_of_getElem? (i := 2) rfl))).mono ?_; rintro e y23 ⟨rfl, hb⟩; have K22 := Lib.hid (K.out.ext hb); clear hb)
  clear K q21
  have K := K22
  clear K22
  have q24 := (K.out.cells (⟨w.heap.size + 1, 0, none⟩, .slice A2 ys.length c2) (List.mem_of_getElem? (i := 9) rfl)).2
  go_upto_region 9 with (go_at_call 62; refine (HP2.out _ (K.out.rds (A2, ys) (List.mem_of_getElem? (i := 3) rfl)) (K.out.rds (A3, ps) (List.mem_of_getElem? (i := 2) rfl))).mono ?_; rintro e y26 ⟨rfl, hb⟩; have K25 := Lib.hid (K.out.ext hb); clear hb)
  clear K q24
  have K := K25
  clear K25
  cases hv : (validB ys && withinB step 0 ((ys.length : Int) - 1)) with
  | false =>
    have HPt := Lib.hid (fun W r => Parts_no A2 c2 ys step W r M2.out hv)
    have q27 := (K.out.cells (⟨w.heap.size + 1, 0, none⟩, .slice A2 ys.length c2) (List.mem_of_getElem? (i := 9) rfl)).2
    go_upto_region 10 with (go_at_call 63; refine (HPt.out _ (K.out.rds (A2, ys) (List.mem_of_getElem? (i := 3) rfl))).mono ?_; rintro e y29 ⟨rfl, hb⟩; have K28 := Lib.hid (K.out.ext hb); clear hb)
    clear K q27
    have K := K28
    clear K28
    have q30 := (K.out.cells (⟨g9, 0, none⟩, .int .i64 lo) (List.mem_of_getElem? (i := 7) rfl)).2
    have q31 := (K.out.cells (⟨g9, 1, none⟩, .int .i64 hi) (List.mem_of_getElem? (i := 8) rfl)).2
    have q32 := (K.out.cells (⟨g12, 0, none⟩, .int .i64 lo) (List.mem_of_getElem? (i := 3) rfl)).2
    have q33 := (K.out.cells (⟨g12, 1, none⟩, .int .i64 hi) (List.mem_of_getElem? (i := 4) rfl)).2
    have q34 := (K.out.cells (⟨g12, 2, none⟩, .bool B1) (List.mem_of_getElem? (i := 5) rfl)).2
    have q35 := (K.out.cells (⟨g12, 3, none⟩, .int .i64 E1) (List.mem_of_getElem? (i := 6) rfl)).2
    have q36 := (K.out.cells (⟨g13, 0, none⟩, .slice A13 X1.length c13) (List.mem_of_getElem? (i := 2) rfl)).2
    have q37 := (K.out.cells (⟨g15, 0, none⟩, .slice A15 X1.length c15) (List.mem_of_getElem? (i := 0) rfl)).2
    go_upto_region 12 with (go_at_call 19; refine (Same_ex A13 A15 c13 c15 X1 _ (K.out.rds (A13, X1) (List.mem_of_getElem? (i := 1) rfl)) (K.out.rds (A15, X1) (List.mem_of_getElem? (i := 0) rfl)) HN.out).mono ?_; rintro e y39 ⟨rfl, hb⟩; have K38 := Lib.hid (And.intro (K.out.ext hb) (trivial)); have q40 := (K38.out.1.cells (⟨g15, 1, none⟩, .int .i64 E2) (List.mem_of_getElem? (i := 1) rfl)).2; clear hb)
    have hK := K38.out.1
    generalize hgW : y39 = W16 at *
    clear K K38 q30 q31 q32 q33 q34 q35 q36 q37 q40 hgW
    have K := Lib.hid hK
    clear hK
    have q41 := (K.out.cells (⟨w.heap.size + 1, 0, none⟩, .slice A2 ys.length c2) (List.mem_of_getElem? (i := 9) rfl)).2
    have q42 := (K.out.cells (⟨g15, 1, none⟩, .int .i64 E2) (List.mem_of_getElem? (i := 1) rfl)).2
    have hcase : (E2 != 0) = true ∨ ((E2 != 0) = false ∧ step < 0) ∨ ((E2 != 0) = false ∧ ¬ step < 0 ∧ (ys.length : Int) ≤ step) := by
      rw [← HX.out.2]
      cases hvy : validB ys with
      | false => exact .inl rfl
      | true =>
        rw [hvy, Bool.true_and] at hv
        unfold withinB at hv
        rw [decide_eq_false_iff_not] at hv
        by_cases h0 : step < 0
        · exact .inr (.inl ⟨rfl, h0⟩)
        · exact .inr (.inr ⟨rfl, h0, by omega⟩)
    clear hv
    rcases hcase with hne | ⟨hne, h0⟩ | ⟨hne, h0, h1⟩
    · skip
      go_wp2_with (go_at_call 16; refine (sanity_any _).mono ?_; rintro e y44 ⟨rfl, hb⟩; have K43 := Lib.hid (And.intro (K.out.ext hb) (trivial)); clear hb)
      go_ret
      exact ⟨rfl, K43.out.1.bl⟩
    · skip
      go_wp2_with (go_at_call 16; refine (sanity_any _).mono ?_; rintro e y44 ⟨rfl, hb⟩; have K43 := Lib.hid (And.intro (K.out.ext hb) (trivial)); clear hb)
      go_ret
      exact ⟨rfl, K43.out.1.bl⟩
    · skip
      go_wp2_with (go_at_call 16; refine (sanity_any _).mono ?_; rintro e y44 ⟨rfl, hb⟩; have K43 := Lib.hid (And.intro (K.out.ext hb) (trivial)); clear hb)
      go_ret
      exact ⟨rfl, K43.out.1.bl⟩
  | true =>
    obtain ⟨hvy, hst⟩ := Bool.and_eq_true_iff.1 hv
    have vy := (validB_iff ys).1 hvy
    unfold withinB at hst
    rw [decide_eq_true_eq] at hst
    obtain ⟨t, rfl⟩ : ∃ t : Nat, step = (t : Int) := ⟨step.toNat, by omega⟩
    have ht : t < ys.length := by omega
    have HPt := Lib.hid (fun W r => Parts_yes A2 c2 ys t W r M2.out vy ht)
    have HV := Lib.hid vy
    obtain ⟨hX1, hE2⟩ := HX.out
    rw [hvy, pick_t] at hX1
    rw [hvy, errB_t] at hE2
    subst hX1 hE2
    clear hv hvy hst vy
    have q27 := (K.out.cells (⟨w.heap.size + 1, 0, none⟩, .slice A2 ys.length c2) (List.mem_of_getElem? (i := 9) rfl)).2
    go_upto_region 10 with (go_at_call 63; refine (HPt.out _ (K.out.rds (A2, ys) (List.mem_of_getElem? (i := 3) rfl))).mono ?_; rintro e y29 ⟨us, hd, A20, c20, rfl, hr, hb⟩; have K28 := Lib.hid (And.intro ((K.out.ext hb).addRd hr) hd); clear hr hb hd)
    clear K q27
    have HD := Lib.hid K28.out.2
    have K := Lib.hid K28.out.1
    clear K28
    have q30 := (K.out.cells (⟨g9, 0, none⟩, .int .i64 lo) (List.mem_of_getElem? (i := 7) rfl)).2
    have q31 := (K.out.cells (⟨g9, 1, none⟩, .int .i64 hi) (List.mem_of_getElem? (i := 8) rfl)).2
    have q32 := (K.out.cells (⟨g12, 0, none⟩, .int .i64 lo) (List.mem_of_getElem? (i := 3) rfl)).2
    have q33 := (K.out.cells (⟨g12, 1, none⟩, .int .i64 hi) (List.mem_of_getElem? (i := 4) rfl)).2
    have q34 := (K.out.cells (⟨g12, 2, none⟩, .bool B1) (List.mem_of_getElem? (i := 5) rfl)).2
    have q35 := (K.out.cells (⟨g12, 3, none⟩, .int .i64 E1) (List.mem_of_getElem? (i := 6) rfl)).2
    have q36 := (K.out.cells (⟨g13, 0, none⟩, .slice A13 (closedL ys).length c13) (List.mem_of_getElem? (i := 2) rfl)).2
    have q37 := (K.out.cells (⟨g15, 0, none⟩, .slice A15 (closedL ys).length c15) (List.mem_of_getElem? (i := 0) rfl)).2
    go_upto_region 12 with (go_at_call 19; refine (Same_ex A13 A15 c13 c15 (closedL ys) _ (K.out.rds (A13, (closedL ys)) (List.mem_of_getElem? (i := 2) rfl)) (K.out.rds (A15, (closedL ys)) (List.mem_of_getElem? (i := 1) rfl)) HN.out).mono ?_; rintro e y39 ⟨rfl, hb⟩; have K38 := Lib.hid (And.intro (K.out.ext hb) (trivial)); have q40 := (K38.out.1.cells (⟨g15, 1, none⟩, .int .i64 0) (List.mem_of_getElem? (i := 1) rfl)).2; clear hb)
    have hK := K38.out.1
    generalize hgW : y39 = W16 at *
    clear K K38 q30 q31 q32 q33 q34 q35 q36 q37 q40 hgW
    have K := Lib.hid hK
    clear hK
    have hz0 : ¬ (t : Int) < 0 := by omega
    have hz1 : ¬ (ys.length : Int) ≤ (t : Int) := by omega
    have q41 := (K.out.cells (⟨w.heap.size + 1, 0, none⟩, .slice A2 ys.length c2) (List.mem_of_getElem? (i := 9) rfl)).2
    have q42 := (K.out.cells (⟨g15, 1, none⟩, .int .i64 0) (List.mem_of_getElem? (i := 1) rfl)).2
    go_upto_region 14 with fail
    clear q41 q42
    obtain ⟨e1, e2⟩ := divides_cp HV.out ht HD.out
    have HP3 := Lib.hid (fun W r1 r2 => rCheckParts_any A2 A20 c2 c20 ys us t W r1 r2 M2.out)
    rw [e1, e2] at HP3
    have q43 := (K.out.cells (⟨w.heap.size + 1, 0, none⟩, .slice A2 ys.length c2) (List.mem_of_getElem? (i := 9) rfl)).2
    go_upto_region 15 with (go_at_call 62; refine (HP3.out _ (K.out.rds (A2, ys) (List.mem_of_getElem? (i := 4) rfl)) (K.out.rds (A20, us) (List.mem_of_getElem? (i := 0) rfl))).mono ?_; rintro e y45 ⟨rfl, hb⟩; have K44 := Lib.hid (K.out.ext hb); clear hb)
    clear K q43
    have K := K44
    clear K44
    have hcl := closedL_length ys
    have htl : (t : Int) < ((closedL ys).length : Int) := by rw [hcl]; omega
    obtain ⟨b15, o15, e15, lb15, g15c⟩ := (K.out.rds (A15, (closedL ys)) (List.mem_of_getElem? (i := 1) rfl)) (by rw [hcl]; exact HV.out.1)
    dsimp only at e15 lb15 g15c
    have k15 := g15c t (by rw [hcl]; exact ht)
    rw [nth_closedL ht] at k15
    subst e15
    clear g15c hcl
    go_wp2_with (go_at_call 16; refine (sanity_any _).mono ?_; rintro e y50 ⟨rfl, hb⟩; have K50 := Lib.hid (K.out.ext hb); have q50 := (K50.out.cells (⟨g15, 0, none⟩, .slice (some ⟨b15, o15, none⟩) (closedL ys).length c15) (List.mem_of_getElem? (i := 0) rfl)).2; have k50 := (hb.cell (p := ⟨b15, o15 + t, none⟩) lb15).trans k15; clear hb k15)
    go_ret
    exact ⟨ret_bool (by simp), K50.out.bl⟩
end Go.Proofs.Ytknkneccnhgjmaa
