/- Walk: the law FloodObeys. -/
import Derived.Test.YtknkneccnhgjmaaP9
import Derived.Test.YtknkneccnhgjmaaL14
namespace Go.Proofs.Ytknkneccnhgjmaa
open Go.RowKit Go.Shelf

set_option maxRecDepth 100000 in
set_option maxHeartbeats 8000000 in
theorem FloodObeys_row (w : World) (A1 : Option Addr) (c1 : Nat) (xs : List Int) (r1 : Rd w w.heap.size A1 xs) (m1 : xs.length ≤ maxLen) (A2 : Option Addr) (c2 : Nat) (ys : List Int) (r2 : Rd w w.heap.size A2 ys) (m2 : ys.length ≤ maxLen) (step : Int) (_ : (Lit.int .i64 step).wf = true)
    (A3 : Option Addr) (c3 : Nat) (ps : List Int) (r3 : Rd w w.heap.size A3 ps) (_ : ps.length ≤ maxLen) :
    Calls Try.prog 15 #[.agg #[.slice A1 xs.length c1], .agg #[.slice A2 ys.length c2], .int .i64 step, .slice A3 ps.length c3] w fun e w' => e = .returned (.bool true) ∧ Below w.heap.size w w' := by
  have hK : Ex w w [] [] := ⟨Below.refl _ _, fun p hp => (by cases hp), fun p hp => (by cases hp)⟩
  have K := Lib.hid (((hK.addRd r1).addRd r2).addRd r3)
  have M1 := Lib.hid m1
  have M2 := Lib.hid m2
  clear hK r1 r2 r3 m1 m2
  cases hf0 : fewB xs with
  | false =>
    have F0 := Lib.hid hf0
    clear hf0
    go_enter Try.func15, Try.ntmps15
    go_upto_region 1 with fail
    have hK := ((K.out.one (.slice A1 xs.length c1) 26).one (.slice A2 ys.length c2) 26)
    simp only [World.size_alloc] at hK
    generalize hgW : (w.alloc (.cells #[.slice A1 xs.length c1] 26)).alloc (.cells #[.slice A2 ys.length c2] 26) = W0 at *
    clear K hgW
    have K := Lib.hid hK
    clear hK
    have q1 := (K.out.cells (⟨w.heap.size, 0, none⟩, .slice A1 xs.length c1) (List.mem_of_getElem? (i := 1) rfl)).2
    go_wp2_with (first
      | (go_at_call 16; have _t := K2; clear _t; refine (sanity_any _).mono ?_; rintro e y6 ⟨rfl, hb⟩; have K5 := Lib.hid (And.intro (K2.out.1.ext hb) (trivial)); clear hb)
      | (go_at_call 20; refine (few_any A1 c1 xs _ M1.out).mono ?_; rw [F0.out]; rintro e y3 ⟨rfl, hb⟩; have K2 := Lib.hid (And.intro (K.out.ext hb) (trivial)); have q4 := (K2.out.1.cells (⟨w.heap.size + 1, 0, none⟩, .slice A2 ys.length c2) (List.mem_of_getElem? (i := 0) rfl)).2; clear hb))
    go_ret
    exact ⟨rfl, K5.out.1.bl⟩
  | true =>
  have F0 := Lib.hid hf0
  clear hf0
  cases hf1 : fewB ys with
  | false =>
    have F1 := Lib.hid hf1
    clear hf1
    go_enter Try.func15, Try.ntmps15
    go_upto_region 1 with fail
    have hK := ((K.out.one (.slice A1 xs.length c1) 26).one (.slice A2 ys.length c2) 26)
    simp only [World.size_alloc] at hK
    generalize hgW : (w.alloc (.cells #[.slice A1 xs.length c1] 26)).alloc (.cells #[.slice A2 ys.length c2] 26) = W0 at *
    clear K hgW
    have K := Lib.hid hK
    clear hK
    have q1 := (K.out.cells (⟨w.heap.size, 0, none⟩, .slice A1 xs.length c1) (List.mem_of_getElem? (i := 1) rfl)).2
    go_wp2_with (first
      | (go_at_call 16; have _t := K5; clear _t; refine (sanity_any _).mono ?_; rintro e y8 ⟨rfl, hb⟩; have K7 := Lib.hid (And.intro (K5.out.1.ext hb) (trivial)); clear hb)
      | (go_at_call 20; have _t := K2; clear _t; refine (few_any A2 c2 ys _ M2.out).mono ?_; rw [F1.out]; rintro e y6 ⟨rfl, hb⟩; have K5 := Lib.hid (And.intro (K2.out.1.ext hb) (trivial)); clear hb)
      | (go_at_call 20; refine (few_any A1 c1 xs _ M1.out).mono ?_; rw [F0.out]; rintro e y3 ⟨rfl, hb⟩; have K2 := Lib.hid (And.intro (K.out.ext hb) (trivial)); have q4 := (K2.out.1.cells (⟨w.heap.size + 1, 0, none⟩, .slice A2 ys.length c2) (List.mem_of_getElem? (i := 0) rfl)).2; clear hb))
    go_ret
    exact ⟨rfl, K7.out.1.bl⟩
  | true =>
  have F1 := Lib.hid hf1
  clear hf1
  by_cases h130 : 130 < ps.length
  · have z130 : (130 : Int) < (ps.length : Int) := by omega
    go_enter Try.func15, Try.ntmps15
    go_upto_region 1 with fail
    have hK := ((K.out.one (.slice A1 xs.length c1) 26).one (.slice A2 ys.length c2) 26)
    simp only [World.size_alloc] at hK
    generalize hgW : (w.alloc (.cells #[.slice A1 xs.length c1] 26)).alloc (.cells #[.slice A2 ys.length c2] 26) = W0 at *
    clear K hgW
    have K := Lib.hid hK
    clear hK
    have q1 := (K.out.cells (⟨w.heap.size, 0, none⟩, .slice A1 xs.length c1) (List.mem_of_getElem? (i := 1) rfl)).2
    go_wp2_with (first
      | (go_at_call 16; have _t := K5; clear _t; refine (sanity_any _).mono ?_; rintro e y8 ⟨rfl, hb⟩; have K7 := Lib.hid (And.intro (K5.out.1.ext hb) (trivial)); clear hb)
      | (go_at_call 20; have _t := K2; clear _t; refine (few_any A2 c2 ys _ M2.out).mono ?_; rw [F1.out]; rintro e y6 ⟨rfl, hb⟩; have K5 := Lib.hid (And.intro (K2.out.1.ext hb) (trivial)); clear hb)
      | (go_at_call 20; refine (few_any A1 c1 xs _ M1.out).mono ?_; rw [F0.out]; rintro e y3 ⟨rfl, hb⟩; have K2 := Lib.hid (And.intro (K.out.ext hb) (trivial)); have q4 := (K2.out.1.cells (⟨w.heap.size + 1, 0, none⟩, .slice A2 ys.length c2) (List.mem_of_getElem? (i := 0) rfl)).2; clear hb))
    go_ret
    exact ⟨rfl, K7.out.1.bl⟩
  have z130 : ¬ (130 : Int) < (ps.length : Int) := by omega
  clear h130
  cases hvx : validB xs <;> cases hvy : validB ys
  · skip
    have hT := fun W r1 => Tightest_any A1 c1 xs W r1 M1.out
    have hC := fun W r1 => Close_any A2 c2 ys W r1 M2.out
    have hO := fun W r1 r2 => Obeys_any A1 A2 c1 c2 xs ys W r1 r2 M1.out M2.out
    rw [hvx, pick_f, errB_f] at hT
    rw [hvy, pick_f, errB_f] at hC
    have HT := Lib.hid hT
    have HC := Lib.hid hC
    clear hT hC
    have hno : ok2 xs ys = false := by unfold ok2; rw [hvx, hvy]; rfl
    rw [hno, pickI_f, pickI_f, errB_f, Bool.false_and] at hO
    clear hno
    have HO := Lib.hid hO
    clear hO
    go_enter Try.func15, Try.ntmps15
    go_upto_region 1 with fail
    have hK := ((K.out.one (.slice A1 xs.length c1) 26).one (.slice A2 ys.length c2) 26)
    simp only [World.size_alloc] at hK
    generalize hgW : (w.alloc (.cells #[.slice A1 xs.length c1] 26)).alloc (.cells #[.slice A2 ys.length c2] 26) = W0 at *
    clear K hgW
    have K := Lib.hid hK
    clear hK
    have q1 := (K.out.cells (⟨w.heap.size, 0, none⟩, .slice A1 xs.length c1) (List.mem_of_getElem? (i := 1) rfl)).2
    go_upto_region 3 with (first
      | (go_at_call 20; have _t := K2; clear _t; refine (few_any A2 c2 ys _ M2.out).mono ?_; rw [F1.out]; rintro e y6 ⟨rfl, hb⟩; have K5 := Lib.hid (And.intro (K2.out.1.ext hb) (trivial)); clear hb)
      | (go_at_call 20; refine (few_any A1 c1 xs _ M1.out).mono ?_; rw [F0.out]; rintro e y3 ⟨rfl, hb⟩; have K2 := Lib.hid (And.intro (K.out.ext hb) (trivial)); have q4 := (K2.out.1.cells (⟨w.heap.size + 1, 0, none⟩, .slice A2 ys.length c2) (List.mem_of_getElem? (i := 0) rfl)).2; clear hb))
    have hK := K5.out.1
    generalize hgW : y6 = W1 at *
    clear K hgW
    have K := Lib.hid hK
    clear hK
    have q7 := (K.out.cells (⟨w.heap.size, 0, none⟩, .slice A1 xs.length c1) (List.mem_of_getElem? (i := 1) rfl)).2
    go_upto_region 4 with (go_at_call 53; refine (HT.out _ (K.out.rds (A1, xs) (List.mem_of_getElem? (i := 2) rfl))).mono ?_; rintro e y9 ⟨A9, c9, rfl, hr, hf, hb⟩; have K8 := Lib.hid (And.intro (K.out.ext hb) hr); clear hr hf hb)
    have hK := K8.out.1.box (A := A9) (c := c9) K8.out.2
    generalize hgW : y9.alloc (.cells #[.slice A9 ([] : List Int).length c9] 26) = W9 at *
    generalize hgg : y9.heap.size = g9 at *
    clear K K8 q7 hgW hgg
    have K := Lib.hid hK
    clear hK
    have q10 := (K.out.cells (⟨w.heap.size + 1, 0, none⟩, .slice A2 ys.length c2) (List.mem_of_getElem? (i := 1) rfl)).2
    go_upto_region 5 with (go_at_call 59; refine (HC.out _ (K.out.rds (A2, ys) (List.mem_of_getElem? (i := 2) rfl))).mono ?_; rintro e y12 ⟨A11, c11, rfl, hr, hf, hb⟩; have K11 := Lib.hid (And.intro (K.out.ext hb) hr); clear hr hf hb)
    have hK := K11.out.1.box (A := A11) (c := c11) K11.out.2
    generalize hgW : y12.alloc (.cells #[.slice A11 ([] : List Int).length c11] 26) = W11 at *
    generalize hgg : y12.heap.size = g11 at *
    clear K K11 q10 hgW hgg
    have K := Lib.hid hK
    clear hK
    have q13 := (K.out.cells (⟨w.heap.size, 0, none⟩, .slice A1 xs.length c1) (List.mem_of_getElem? (i := 3) rfl)).2
    have q14 := (K.out.cells (⟨w.heap.size + 1, 0, none⟩, .slice A2 ys.length c2) (List.mem_of_getElem? (i := 2) rfl)).2
    go_upto_region 6 with (go_at_call 57; refine (HO.out _ (K.out.rds (A1, xs) (List.mem_of_getElem? (i := 4) rfl)) (K.out.rds (A2, ys) (List.mem_of_getElem? (i := 3) rfl))).mono ?_; rintro e y16 ⟨rfl, hb⟩; have K15 := Lib.hid (K.out.ext hb); clear hb)
    have hK := K15.out.two (.int .i64 0) (.int .i64 0) 73
    generalize hgW : y16.alloc (.cells #[.int .i64 0, .int .i64 0] 73) = W13 at *
    generalize hgg : y16.heap.size = g13 at *
    clear K K15 q13 q14 hgW hgg
    have K := Lib.hid hK
    clear hK
    go_wp2_with (go_at_call 16; refine (sanity_any _).mono ?_; rintro e y18 ⟨rfl, hb⟩; have K17 := Lib.hid (And.intro (K.out.ext hb) (trivial)); clear hb)
    go_ret
    exact ⟨rfl, K17.out.1.bl⟩
  · skip
    have hT := fun W r1 => Tightest_any A1 c1 xs W r1 M1.out
    have hC := fun W r1 => Close_any A2 c2 ys W r1 M2.out
    have hO := fun W r1 r2 => Obeys_any A1 A2 c1 c2 xs ys W r1 r2 M1.out M2.out
    rw [hvx, pick_f, errB_f] at hT
    rw [hvy, pick_t, errB_t] at hC
    have HT := Lib.hid hT
    have HC := Lib.hid hC
    clear hT hC
    have hno : ok2 xs ys = false := by unfold ok2; rw [hvx, hvy]; rfl
    rw [hno, pickI_f, pickI_f, errB_f, Bool.false_and] at hO
    clear hno
    have HO := Lib.hid hO
    clear hO
    go_enter Try.func15, Try.ntmps15
    go_upto_region 1 with fail
    have hK := ((K.out.one (.slice A1 xs.length c1) 26).one (.slice A2 ys.length c2) 26)
    simp only [World.size_alloc] at hK
    generalize hgW : (w.alloc (.cells #[.slice A1 xs.length c1] 26)).alloc (.cells #[.slice A2 ys.length c2] 26) = W0 at *
    clear K hgW
    have K := Lib.hid hK
    clear hK
    have q1 := (K.out.cells (⟨w.heap.size, 0, none⟩, .slice A1 xs.length c1) (List.mem_of_getElem? (i := 1) rfl)).2
    go_upto_region 3 with (first
      | (go_at_call 20; have _t := K2; clear _t; refine (few_any A2 c2 ys _ M2.out).mono ?_; rw [F1.out]; rintro e y6 ⟨rfl, hb⟩; have K5 := Lib.hid (And.intro (K2.out.1.ext hb) (trivial)); clear hb)
      | (go_at_call 20; refine (few_any A1 c1 xs _ M1.out).mono ?_; rw [F0.out]; rintro e y3 ⟨rfl, hb⟩; have K2 := Lib.hid (And.intro (K.out.ext hb) (trivial)); have q4 := (K2.out.1.cells (⟨w.heap.size + 1, 0, none⟩, .slice A2 ys.length c2) (List.mem_of_getElem? (i := 0) rfl)).2; clear hb))
    have hK := K5.out.1
    generalize hgW : y6 = W1 at *
    clear K hgW
    have K := Lib.hid hK
    clear hK
    have q7 := (K.out.cells (⟨w.heap.size, 0, none⟩, .slice A1 xs.length c1) (List.mem_of_getElem? (i := 1) rfl)).2
    go_upto_region 4 with (go_at_call 53; refine (HT.out _ (K.out.rds (A1, xs) (List.mem_of_getElem? (i := 2) rfl))).mono ?_; rintro e y9 ⟨A9, c9, rfl, hr, hf, hb⟩; have K8 := Lib.hid (And.intro (K.out.ext hb) hr); clear hr hf hb)
    have hK := K8.out.1.box (A := A9) (c := c9) K8.out.2
    generalize hgW : y9.alloc (.cells #[.slice A9 ([] : List Int).length c9] 26) = W9 at *
    generalize hgg : y9.heap.size = g9 at *
    clear K K8 q7 hgW hgg
    have K := Lib.hid hK
    clear hK
    have q10 := (K.out.cells (⟨w.heap.size + 1, 0, none⟩, .slice A2 ys.length c2) (List.mem_of_getElem? (i := 1) rfl)).2
    go_upto_region 5 with (go_at_call 59; refine (HC.out _ (K.out.rds (A2, ys) (List.mem_of_getElem? (i := 2) rfl))).mono ?_; rintro e y12 ⟨A11, c11, rfl, hr, hf, hb⟩; have K11 := Lib.hid (And.intro (K.out.ext hb) hr); clear hr hf hb)
    have hK := K11.out.1.box (A := A11) (c := c11) K11.out.2
    generalize hgW : y12.alloc (.cells #[.slice A11 (closedL ys).length c11] 26) = W11 at *
    generalize hgg : y12.heap.size = g11 at *
    clear K K11 q10 hgW hgg
    have K := Lib.hid hK
    clear hK
    have q13 := (K.out.cells (⟨w.heap.size, 0, none⟩, .slice A1 xs.length c1) (List.mem_of_getElem? (i := 3) rfl)).2
    have q14 := (K.out.cells (⟨w.heap.size + 1, 0, none⟩, .slice A2 ys.length c2) (List.mem_of_getElem? (i := 2) rfl)).2
    go_upto_region 6 with (go_at_call 57; refine (HO.out _ (K.out.rds (A1, xs) (List.mem_of_getElem? (i := 4) rfl)) (K.out.rds (A2, ys) (List.mem_of_getElem? (i := 3) rfl))).mono ?_; rintro e y16 ⟨rfl, hb⟩; have K15 := Lib.hid (K.out.ext hb); clear hb)
    have hK := K15.out.two (.int .i64 0) (.int .i64 0) 73
    generalize hgW : y16.alloc (.cells #[.int .i64 0, .int .i64 0] 73) = W13 at *
    generalize hgg : y16.heap.size = g13 at *
    clear K K15 q13 q14 hgW hgg
    have K := Lib.hid hK
    clear hK
    have vy := (validB_iff ys).1 hvy
    have hcl := closedL_length ys
    have hA := fun A c W r1 => Close_any A c (closedL ys) W r1 (by rw [hcl]; exact M2.out)
    rw [(validB_iff _).2 (closedL_valid vy), pick_t, errB_t, clos_clos] at hA
    have HA := Lib.hid hA
    have HV := Lib.hid (And.intro vy hcl)
    have HN := Lib.hid (show (closedL ys).length ≤ 1000 ∧ ys.length ≤ 1000 by have := vy.2.1; omega)
    have HM := Lib.hid (clos_atMost vy)
    have HP := Lib.hid (fun W r1 r2 => CheckParts_any A2 A3 c2 c3 ys ps step W r1 r2 M2.out)
    have hge := fun (h : cpE ys step ps = 0) => cp_ge h
    generalize cpE ys step ps = E3 at *
    generalize cpN ys step ps = n at *
    have HG := Lib.hid hge
    clear hA vy hcl hge
    obtain ⟨b11, o11, e11, lb11, g11c⟩ := (K.out.rds (A11, (closedL ys)) (List.mem_of_getElem? (i := 0) rfl)) (by show 0 < (closedL ys).length; rw [HV.out.2]; exact HV.out.1.1)
    dsimp only at e11
    subst e11
    clear lb11 g11c
    have q17 := (K.out.cells (⟨g11, 0, none⟩, .slice (some ⟨b11, o11, none⟩) (closedL ys).length c11) (List.mem_of_getElem? (i := 2) rfl)).2
    go_upto_region 13 with (go_at_call 59; refine (HA.out (some ⟨b11, o11, none⟩) c11 _ (K.out.rds ((some ⟨b11, o11, none⟩), (closedL ys)) (List.mem_of_getElem? (i := 0) rfl))).mono ?_; rintro e y19 ⟨A19, c19, rfl, hr, hf, hb⟩; have K18 := Lib.hid (And.intro (K.out.ext hb) hr); clear hr hf hb)
    have hK := K18.out.1.box (A := A19) (c := c19) K18.out.2
    generalize hgW : y19.alloc (.cells #[.slice A19 (closedL ys).length c19] 26) = W19 at *
    generalize hgg : y19.heap.size = g19 at *
    clear K K18 q17 hgW hgg
    have K := Lib.hid hK
    clear hK
    have q20 := (K.out.cells (⟨w.heap.size + 1, 0, none⟩, .slice A2 ys.length c2) (List.mem_of_getElem? (i := 5) rfl)).2
    go_upto_region 14 with (go_at_call 61; refine (HP.out _ (K.out.rds (A2, ys) (List.mem_of_getElem? (i := 4) rfl)) (K.out.rds (A3, ps) (List.mem_of_getElem? (i := 3) rfl))).mono ?_; rintro e y22 ⟨rfl, hb⟩; have K21 := Lib.hid (K.out.ext hb); clear hb)
    clear K q20
    have K := K21
    clear K21
    have hcell : ∃ t : Nat, t < ys.length ∧ (E3 = 0 → step = (t : Int)) ∧ (E3 = 0 → closAt ys t ≤ n) := by
      by_cases h : E3 = 0
      · obtain ⟨h1, h2, h3⟩ := HG.out h
        exact ⟨step.toNat, by omega, fun _ => by omega, fun _ => h3⟩
      · exact ⟨0, HV.out.1.1, fun h' => absurd h' h, fun h' => absurd h' h⟩
    obtain ⟨t, ht, ht1, ht2⟩ := hcell
    have HT1 := Lib.hid (And.intro ht (And.intro ht1 ht2))
    clear ht ht1 ht2
    obtain ⟨b12, o12, e12, lb11, g11c⟩ := (K.out.rds ((some ⟨b11, o11, none⟩), (closedL ys)) (List.mem_of_getElem? (i := 1) rfl)) (by show 0 < (closedL ys).length; rw [HV.out.2]; exact HV.out.1.1)
    dsimp only at e12 lb11 g11c
    injection e12 with e12
    injection e12 with e1 e2
    subst e1 e2
    have k11 := g11c t (by rw [HV.out.2]; exact HT1.out.1)
    rw [nth_closedL HT1.out.1] at k11
    have q23 := (K.out.cells (⟨g19, 0, none⟩, .slice A19 (closedL ys).length c19) (List.mem_of_getElem? (i := 0) rfl)).2
    have q24 := (K.out.cells (⟨g11, 0, none⟩, .slice (some ⟨b11, o11, none⟩) (closedL ys).length c11) (List.mem_of_getElem? (i := 3) rfl)).2
    have hgo : (E3 = 0 ∧ (E3 == 0) = true ∧ step = (t : Int) ∧ ¬ n < closAt ys t) ∨ (E3 == 0) = false := by
      by_cases h : E3 = 0
      · exact .inl ⟨h, by simpa using h, HT1.out.2.1 h, by have := HT1.out.2.2 h; omega⟩
      · exact .inr (by simpa using h)
    rcases hgo with ⟨_, hg0, rfl, hg1⟩ | hg0
    · skip
      have htl : (t : Int) < ((closedL ys).length : Int) := by rw [HV.out.2]; have := HT1.out.1; omega
      go_upto_region 16 with (first
        | (go_at_call 24; have _t := K25; clear _t; refine (atMost_any (some ⟨b11, o11, none⟩) A2 c11 c2 (closedL ys) ys _ (K25.out.1.rds ((some ⟨b11, o11, none⟩), (closedL ys)) (List.mem_of_getElem? (i := 1) rfl)) (K25.out.1.rds (A2, ys) (List.mem_of_getElem? (i := 4) rfl)) HN.out.1 HN.out.2).mono ?_; rw [HM.out]; rintro e y30 ⟨rfl, hb⟩; have K29 := Lib.hid (And.intro (K25.out.1.ext hb) (trivial)); have q31 := (K29.out.1.cells (⟨g11, 0, none⟩, .slice (some ⟨b11, o11, none⟩) (closedL ys).length c11) (List.mem_of_getElem? (i := 3) rfl)).2; have k11b := (hb.cell (p := ⟨b11, o11 + t, none⟩) lb11a).trans k11a; clear hb)
        | (go_at_call 19; refine (Same_ex A19 (some ⟨b11, o11, none⟩) c19 c11 (closedL ys) _ (K.out.rds (A19, (closedL ys)) (List.mem_of_getElem? (i := 0) rfl)) (K.out.rds ((some ⟨b11, o11, none⟩), (closedL ys)) (List.mem_of_getElem? (i := 1) rfl)) HN.out.1).mono ?_; rintro e y26 ⟨rfl, hb⟩; have K25 := Lib.hid (And.intro (K.out.ext hb) (trivial)); have q27 := (K25.out.1.cells (⟨g11, 0, none⟩, .slice (some ⟨b11, o11, none⟩) (closedL ys).length c11) (List.mem_of_getElem? (i := 3) rfl)).2; have q28 := (K25.out.1.cells (⟨w.heap.size + 1, 0, none⟩, .slice A2 ys.length c2) (List.mem_of_getElem? (i := 5) rfl)).2; have k11a := (hb.cell (p := ⟨b11, o11 + t, none⟩) lb11).trans k11; have lb11a := Nat.lt_of_lt_of_le lb11 hb.size; clear hb))
      have hK := K29.out.1
      generalize hgW : y30 = W16 at *
      clear K K29 K25 q23 q24 q27 q28 q31 hgW k11 k11a k11b lb11 lb11a g11c
      have K := Lib.hid hK
      clear hK
      have q33 := (K.out.cells (⟨g11, 0, none⟩, .slice (some ⟨b11, o11, none⟩) (closedL ys).length c11) (List.mem_of_getElem? (i := 3) rfl)).2
      have hsl := HN.out.2
      have hP1 := fun (s : Nat) (hs : s < ys.length) W r => Parts_yes A2 c2 ys s W r M2.out HV.out.1 hs
      have HP1 := Lib.hid hP1
      have hP2 := fun (s : Nat) (us : List Int) (hs : s < ys.length) (hd : Divides ys s us) (A : Option Addr) (c : Nat) W r1 r2 => (show Calls Try.prog 61 #[.agg #[.slice A2 ys.length c2], .int .i64 s, .slice A us.length c] W fun e w' => e = .returned (.tuple #[.int .i64 (closAt ys s), .int .i64 0]) ∧ Below W.heap.size W w' from by
        have h := CheckParts_any A2 A c2 c ys us s W r1 r2 M2.out
        rwa [(divides_cp HV.out.1 hs hd).1, (divides_cp HV.out.1 hs hd).2] at h)
      have HP2 := Lib.hid hP2
      clear hP1 hP2
      go_wp2
      go_loopg [23, 24, 25, 26, 27, 122] ys.length (fun gg _ _ _ _ _ i wr => ∃ s : Nat, s ≤ ys.length ∧ ys.length - s ≤ gg ∧ i = .int .i64 s ∧ Aside (Below W16.heap.size W16 wr))
      case atStart => exact ⟨0, Nat.zero_le _, by omega, rfl, Below.refl _ _⟩
      case round =>
        obtain ⟨s, hs, hg, rfl, hbw⟩ := hrel
        have HBW := Lib.hid hbw.out
        have K9 := Lib.hid (K.out.ext hbw.out)
        clear hbw K
        by_cases hlt : s < ys.length
        · have hltz : (s : Int) < ((closedL ys).length : Int) := by rw [HV.out.2]; omega
          obtain ⟨b12, o12, e12, lb11, g11c⟩ := (K9.out.rds ((some ⟨b11, o11, none⟩), (closedL ys)) (List.mem_of_getElem? (i := 1) rfl)) (by show 0 < (closedL ys).length; rw [HV.out.2]; omega)
          dsimp only at e12 lb11 g11c
          injection e12 with e12
          injection e12 with e1 e2
          subst e1 e2
          have k11 := g11c s (by rw [HV.out.2]; exact hlt)
          rw [nth_closedL hlt] at k11
          clear g11c q33
          have z1 := (K9.out.cells (⟨w.heap.size + 1, 0, none⟩, .slice A2 ys.length c2) (List.mem_of_getElem? (i := 5) rfl)).2
          go_wp2_with (first
            | (go_at_call 61; refine (HP2.out s us hlt HD.out A24 c24 _ (K11.out.1.rds (A2, ys) (List.mem_of_getElem? (i := 4) rfl)) K11.out.2).mono ?_; rintro e y92 ⟨rfl, hb⟩; have HW2 := Lib.hid (HW1.out.trans (hb.mono HW1.out.size)); have k11b := (hb.cell (p := ⟨b11, o11 + s, none⟩) lb11a).trans k11a; have z3 := ((K11.out.1.ext hb).cells (⟨g11, 0, none⟩, .slice (some ⟨b11, o11, none⟩) (closedL ys).length c11) (List.mem_of_getElem? (i := 3) rfl)).2; clear hb)
            | (go_at_call 63; refine (HP1.out s hlt _ (K9.out.rds (A2, ys) (List.mem_of_getElem? (i := 4) rfl))).mono ?_; rintro e y91 ⟨us, hd, A24, c24, rfl, hr, hb⟩; have K11 := Lib.hid (And.intro (K9.out.ext hb) hr); have HD := Lib.hid hd; have HW1 := Lib.hid (HBW.out.trans (hb.mono HBW.out.size)); have k11a := (hb.cell (p := ⟨b11, o11 + s, none⟩) lb11).trans k11; have lb11a := Nat.lt_of_lt_of_le lb11 hb.size; have z2 := (K11.out.1.cells (⟨w.heap.size + 1, 0, none⟩, .slice A2 ys.length c2) (List.mem_of_getElem? (i := 5) rfl)).2; clear hb hr hd))
          go_roundg (ys.length - (s + 1))
          case measure => omega
          case rel => exact ⟨s + 1, by omega, by omega, by go_num, HW2.out⟩
        · have hltz : ¬ (s : Int) < ((closedL ys).length : Int) := by rw [HV.out.2]; omega
          have K := K9
          clear K9 HBW q33
          go_wp2_with (go_at_call 16; refine (sanity_any _).mono ?_; rintro e y35 ⟨rfl, hb⟩; have K34 := Lib.hid (And.intro (K.out.ext hb) (trivial)); clear hb)
          go_ret
          exact ⟨rfl, K34.out.1.bl⟩
    · skip
      go_upto_region 16 with (first
        | (go_at_call 24; have _t := K25; clear _t; refine (atMost_any (some ⟨b11, o11, none⟩) A2 c11 c2 (closedL ys) ys _ (K25.out.1.rds ((some ⟨b11, o11, none⟩), (closedL ys)) (List.mem_of_getElem? (i := 1) rfl)) (K25.out.1.rds (A2, ys) (List.mem_of_getElem? (i := 4) rfl)) HN.out.1 HN.out.2).mono ?_; rw [HM.out]; rintro e y30 ⟨rfl, hb⟩; have K29 := Lib.hid (And.intro (K25.out.1.ext hb) (trivial)); have q31 := (K29.out.1.cells (⟨g11, 0, none⟩, .slice (some ⟨b11, o11, none⟩) (closedL ys).length c11) (List.mem_of_getElem? (i := 3) rfl)).2; have k11b := (hb.cell (p := ⟨b11, o11 + t, none⟩) lb11a).trans k11a; clear hb)
        | (go_at_call 19; refine (Same_ex A19 (some ⟨b11, o11, none⟩) c19 c11 (closedL ys) _ (K.out.rds (A19, (closedL ys)) (List.mem_of_getElem? (i := 0) rfl)) (K.out.rds ((some ⟨b11, o11, none⟩), (closedL ys)) (List.mem_of_getElem? (i := 1) rfl)) HN.out.1).mono ?_; rintro e y26 ⟨rfl, hb⟩; have K25 := Lib.hid (And.intro (K.out.ext hb) (trivial)); have q27 := (K25.out.1.cells (⟨g11, 0, none⟩, .slice (some ⟨b11, o11, none⟩) (closedL ys).length c11) (List.mem_of_getElem? (i := 3) rfl)).2; have q28 := (K25.out.1.cells (⟨w.heap.size + 1, 0, none⟩, .slice A2 ys.length c2) (List.mem_of_getElem? (i := 5) rfl)).2; have k11a := (hb.cell (p := ⟨b11, o11 + t, none⟩) lb11).trans k11; have lb11a := Nat.lt_of_lt_of_le lb11 hb.size; clear hb))
      have hK := K29.out.1
      generalize hgW : y30 = W16 at *
      clear K K29 K25 q23 q24 q27 q28 q31 hgW k11 k11a k11b lb11 lb11a g11c
      have K := Lib.hid hK
      clear hK
      have q33 := (K.out.cells (⟨g11, 0, none⟩, .slice (some ⟨b11, o11, none⟩) (closedL ys).length c11) (List.mem_of_getElem? (i := 3) rfl)).2
      have hsl := HN.out.2
      have hP1 := fun (s : Nat) (hs : s < ys.length) W r => Parts_yes A2 c2 ys s W r M2.out HV.out.1 hs
      have HP1 := Lib.hid hP1
      have hP2 := fun (s : Nat) (us : List Int) (hs : s < ys.length) (hd : Divides ys s us) (A : Option Addr) (c : Nat) W r1 r2 => (show Calls Try.prog 61 #[.agg #[.slice A2 ys.length c2], .int .i64 s, .slice A us.length c] W fun e w' => e = .returned (.tuple #[.int .i64 (closAt ys s), .int .i64 0]) ∧ Below W.heap.size W w' from by
        have h := CheckParts_any A2 A c2 c ys us s W r1 r2 M2.out
        rwa [(divides_cp HV.out.1 hs hd).1, (divides_cp HV.out.1 hs hd).2] at h)
      have HP2 := Lib.hid hP2
      clear hP1 hP2
      go_wp2
      go_loopg [23, 24, 25, 26, 27, 122] ys.length (fun gg _ _ _ _ _ i wr => ∃ s : Nat, s ≤ ys.length ∧ ys.length - s ≤ gg ∧ i = .int .i64 s ∧ Aside (Below W16.heap.size W16 wr))
      case atStart => exact ⟨0, Nat.zero_le _, by omega, rfl, Below.refl _ _⟩
      case round =>
        obtain ⟨s, hs, hg, rfl, hbw⟩ := hrel
        have HBW := Lib.hid hbw.out
        have K9 := Lib.hid (K.out.ext hbw.out)
        clear hbw K
        by_cases hlt : s < ys.length
        · have hltz : (s : Int) < ((closedL ys).length : Int) := by rw [HV.out.2]; omega
          obtain ⟨b12, o12, e12, lb11, g11c⟩ := (K9.out.rds ((some ⟨b11, o11, none⟩), (closedL ys)) (List.mem_of_getElem? (i := 1) rfl)) (by show 0 < (closedL ys).length; rw [HV.out.2]; omega)
          dsimp only at e12 lb11 g11c
          injection e12 with e12
          injection e12 with e1 e2
          subst e1 e2
          have k11 := g11c s (by rw [HV.out.2]; exact hlt)
          rw [nth_closedL hlt] at k11
          clear g11c q33
          have z1 := (K9.out.cells (⟨w.heap.size + 1, 0, none⟩, .slice A2 ys.length c2) (List.mem_of_getElem? (i := 5) rfl)).2
          go_wp2_with (first
            | (go_at_call 61; refine (HP2.out s us hlt HD.out A24 c24 _ (K11.out.1.rds (A2, ys) (List.mem_of_getElem? (i := 4) rfl)) K11.out.2).mono ?_; rintro e y92 ⟨rfl, hb⟩; have HW2 := Lib.hid (HW1.out.trans (hb.mono HW1.out.size)); have k11b := (hb.cell (p := ⟨b11, o11 + s, none⟩) lb11a).trans k11a; have z3 := ((K11.out.1.ext hb).cells (⟨g11, 0, none⟩, .slice (some ⟨b11, o11, none⟩) (closedL ys).length c11) (List.mem_of_getElem? (i := 3) rfl)).2; clear hb)
            | (go_at_call 63; refine (HP1.out s hlt _ (K9.out.rds (A2, ys) (List.mem_of_getElem? (i := 4) rfl))).mono ?_; rintro e y91 ⟨us, hd, A24, c24, rfl, hr, hb⟩; have K11 := Lib.hid (And.intro (K9.out.ext hb) hr); have HD := Lib.hid hd; have HW1 := Lib.hid (HBW.out.trans (hb.mono HBW.out.size)); have k11a := (hb.cell (p := ⟨b11, o11 + s, none⟩) lb11).trans k11; have lb11a := Nat.lt_of_lt_of_le lb11 hb.size; have z2 := (K11.out.1.cells (⟨w.heap.size + 1, 0, none⟩, .slice A2 ys.length c2) (List.mem_of_getElem? (i := 5) rfl)).2; clear hb hr hd))
          go_roundg (ys.length - (s + 1))
          case measure => omega
          case rel => exact ⟨s + 1, by omega, by omega, by go_num, HW2.out⟩
        · have hltz : ¬ (s : Int) < ((closedL ys).length : Int) := by rw [HV.out.2]; omega
          have K := K9
          clear K9 HBW q33
          go_wp2_with (go_at_call 16; refine (sanity_any _).mono ?_; rintro e y35 ⟨rfl, hb⟩; have K34 := Lib.hid (And.intro (K.out.ext hb) (trivial)); clear hb)
          go_ret
          exact ⟨rfl, K34.out.1.bl⟩
  · skip
    have hT := fun W r1 => Tightest_any A1 c1 xs W r1 M1.out
    have hC := fun W r1 => Close_any A2 c2 ys W r1 M2.out
    have hO := fun W r1 r2 => Obeys_any A1 A2 c1 c2 xs ys W r1 r2 M1.out M2.out
    rw [hvx, pick_t, errB_t] at hT
    rw [hvy, pick_f, errB_f] at hC
    have HT := Lib.hid hT
    have HC := Lib.hid hC
    clear hT hC
    have hno : ok2 xs ys = false := by unfold ok2; rw [hvx, hvy]; rfl
    rw [hno, pickI_f, pickI_f, errB_f, Bool.false_and] at hO
    clear hno
    have HO := Lib.hid hO
    clear hO
    go_enter Try.func15, Try.ntmps15
    go_upto_region 1 with fail
    have hK := ((K.out.one (.slice A1 xs.length c1) 26).one (.slice A2 ys.length c2) 26)
    simp only [World.size_alloc] at hK
    generalize hgW : (w.alloc (.cells #[.slice A1 xs.length c1] 26)).alloc (.cells #[.slice A2 ys.length c2] 26) = W0 at *
    clear K hgW
    have K := Lib.hid hK
    clear hK
    have q1 := (K.out.cells (⟨w.heap.size, 0, none⟩, .slice A1 xs.length c1) (List.mem_of_getElem? (i := 1) rfl)).2
    go_upto_region 3 with (first
      | (go_at_call 20; have _t := K2; clear _t; refine (few_any A2 c2 ys _ M2.out).mono ?_; rw [F1.out]; rintro e y6 ⟨rfl, hb⟩; have K5 := Lib.hid (And.intro (K2.out.1.ext hb) (trivial)); clear hb)
      | (go_at_call 20; refine (few_any A1 c1 xs _ M1.out).mono ?_; rw [F0.out]; rintro e y3 ⟨rfl, hb⟩; have K2 := Lib.hid (And.intro (K.out.ext hb) (trivial)); have q4 := (K2.out.1.cells (⟨w.heap.size + 1, 0, none⟩, .slice A2 ys.length c2) (List.mem_of_getElem? (i := 0) rfl)).2; clear hb))
    have hK := K5.out.1
    generalize hgW : y6 = W1 at *
    clear K hgW
    have K := Lib.hid hK
    clear hK
    have q7 := (K.out.cells (⟨w.heap.size, 0, none⟩, .slice A1 xs.length c1) (List.mem_of_getElem? (i := 1) rfl)).2
    go_upto_region 4 with (go_at_call 53; refine (HT.out _ (K.out.rds (A1, xs) (List.mem_of_getElem? (i := 2) rfl))).mono ?_; rintro e y9 ⟨A9, c9, rfl, hr, hf, hb⟩; have K8 := Lib.hid (And.intro (K.out.ext hb) hr); clear hr hf hb)
    have hK := K8.out.1.box (A := A9) (c := c9) K8.out.2
    generalize hgW : y9.alloc (.cells #[.slice A9 (leadL xs xs).length c9] 26) = W9 at *
    generalize hgg : y9.heap.size = g9 at *
    clear K K8 q7 hgW hgg
    have K := Lib.hid hK
    clear hK
    have q10 := (K.out.cells (⟨w.heap.size + 1, 0, none⟩, .slice A2 ys.length c2) (List.mem_of_getElem? (i := 1) rfl)).2
    go_upto_region 5 with (go_at_call 59; refine (HC.out _ (K.out.rds (A2, ys) (List.mem_of_getElem? (i := 2) rfl))).mono ?_; rintro e y12 ⟨A11, c11, rfl, hr, hf, hb⟩; have K11 := Lib.hid (And.intro (K.out.ext hb) hr); clear hr hf hb)
    have hK := K11.out.1.box (A := A11) (c := c11) K11.out.2
    generalize hgW : y12.alloc (.cells #[.slice A11 ([] : List Int).length c11] 26) = W11 at *
    generalize hgg : y12.heap.size = g11 at *
    clear K K11 q10 hgW hgg
    have K := Lib.hid hK
    clear hK
    have q13 := (K.out.cells (⟨w.heap.size, 0, none⟩, .slice A1 xs.length c1) (List.mem_of_getElem? (i := 3) rfl)).2
    have q14 := (K.out.cells (⟨w.heap.size + 1, 0, none⟩, .slice A2 ys.length c2) (List.mem_of_getElem? (i := 2) rfl)).2
    go_upto_region 6 with (go_at_call 57; refine (HO.out _ (K.out.rds (A1, xs) (List.mem_of_getElem? (i := 4) rfl)) (K.out.rds (A2, ys) (List.mem_of_getElem? (i := 3) rfl))).mono ?_; rintro e y16 ⟨rfl, hb⟩; have K15 := Lib.hid (K.out.ext hb); clear hb)
    have hK := K15.out.two (.int .i64 0) (.int .i64 0) 73
    generalize hgW : y16.alloc (.cells #[.int .i64 0, .int .i64 0] 73) = W13 at *
    generalize hgg : y16.heap.size = g13 at *
    clear K K15 q13 q14 hgW hgg
    have K := Lib.hid hK
    clear hK
    have HO2 := Lib.hid (fun A c W r1 r2 => Obeys_any A1 A c1 c xs (leadL xs xs) W r1 r2 M1.out (by rw [leadL_length]; exact M1.out))
    have hok : ok2 xs (leadL xs xs) = true := ok2_iff.2 ⟨(validB_iff xs).1 hvx, leadL_valid ((validB_iff xs).1 hvx) ((validB_iff xs).1 hvx) rfl, leadL_length xs xs⟩
    rw [hok, tight_obeys, pickI_t, pickI_t, errB_t, Bool.true_and] at HO2
    clear hok
    generalize brkLo (brk xs (leadL xs xs)) = lo2 at *
    generalize brkHi (brk xs (leadL xs xs)) = hi2 at *
    have q17 := (K.out.cells (⟨w.heap.size, 0, none⟩, .slice A1 xs.length c1) (List.mem_of_getElem? (i := 5) rfl)).2
    have q18 := (K.out.cells (⟨g9, 0, none⟩, .slice A9 (leadL xs xs).length c9) (List.mem_of_getElem? (i := 3) rfl)).2
    go_upto_region 8 with (go_at_call 57; refine (HO2.out A9 c9 _ (K.out.rds (A1, xs) (List.mem_of_getElem? (i := 4) rfl)) (K.out.rds (A9, (leadL xs xs)) (List.mem_of_getElem? (i := 1) rfl))).mono ?_; rintro e y20 ⟨rfl, hb⟩; have K19 := Lib.hid (K.out.ext hb); clear hb)
    have hK := K19.out.two (.int .i64 lo2) (.int .i64 hi2) 73
    generalize hgW : y20.alloc (.cells #[.int .i64 lo2, .int .i64 hi2] 73) = W16 at *
    generalize hgg : y20.heap.size = g16 at *
    clear K K19 q17 q18 hgW hgg
    have K := Lib.hid hK
    clear hK
    go_wp2_with (go_at_call 16; refine (sanity_any _).mono ?_; rintro e y22 ⟨rfl, hb⟩; have K21 := Lib.hid (And.intro (K.out.ext hb) (trivial)); clear hb)
    go_ret
    exact ⟨rfl, K21.out.1.bl⟩
  · skip
    have hT := fun W r1 => Tightest_any A1 c1 xs W r1 M1.out
    have hC := fun W r1 => Close_any A2 c2 ys W r1 M2.out
    have hO := fun W r1 r2 => Obeys_any A1 A2 c1 c2 xs ys W r1 r2 M1.out M2.out
    rw [hvx, pick_t, errB_t] at hT
    rw [hvy, pick_t, errB_t] at hC
    have HT := Lib.hid hT
    have HC := Lib.hid hC
    clear hT hC
    generalize hlo : pickI (ok2 xs ys) (brkLo (brk xs ys)) = lo at *
    generalize hhi : pickI (ok2 xs ys) (brkHi (brk xs ys)) = hi at *
    generalize hB1 : (ok2 xs ys && obeysB xs ys) = B1 at *
    generalize hE1 : errB (ok2 xs ys) = E1 at *
    have HE := Lib.hid (And.intro hB1 hE1)
    clear hlo hhi hB1 hE1
    have HO := Lib.hid hO
    clear hO
    go_enter Try.func15, Try.ntmps15
    go_upto_region 1 with fail
    have hK := ((K.out.one (.slice A1 xs.length c1) 26).one (.slice A2 ys.length c2) 26)
    simp only [World.size_alloc] at hK
    generalize hgW : (w.alloc (.cells #[.slice A1 xs.length c1] 26)).alloc (.cells #[.slice A2 ys.length c2] 26) = W0 at *
    clear K hgW
    have K := Lib.hid hK
    clear hK
    have q1 := (K.out.cells (⟨w.heap.size, 0, none⟩, .slice A1 xs.length c1) (List.mem_of_getElem? (i := 1) rfl)).2
    go_upto_region 3 with (first
      | (go_at_call 20; have _t := K2; clear _t; refine (few_any A2 c2 ys _ M2.out).mono ?_; rw [F1.out]; rintro e y6 ⟨rfl, hb⟩; have K5 := Lib.hid (And.intro (K2.out.1.ext hb) (trivial)); clear hb)
      | (go_at_call 20; refine (few_any A1 c1 xs _ M1.out).mono ?_; rw [F0.out]; rintro e y3 ⟨rfl, hb⟩; have K2 := Lib.hid (And.intro (K.out.ext hb) (trivial)); have q4 := (K2.out.1.cells (⟨w.heap.size + 1, 0, none⟩, .slice A2 ys.length c2) (List.mem_of_getElem? (i := 0) rfl)).2; clear hb))
    have hK := K5.out.1
    generalize hgW : y6 = W1 at *
    clear K hgW
    have K := Lib.hid hK
    clear hK
    have q7 := (K.out.cells (⟨w.heap.size, 0, none⟩, .slice A1 xs.length c1) (List.mem_of_getElem? (i := 1) rfl)).2
    go_upto_region 4 with (go_at_call 53; refine (HT.out _ (K.out.rds (A1, xs) (List.mem_of_getElem? (i := 2) rfl))).mono ?_; rintro e y9 ⟨A9, c9, rfl, hr, hf, hb⟩; have K8 := Lib.hid (And.intro (K.out.ext hb) hr); clear hr hf hb)
    have hK := K8.out.1.box (A := A9) (c := c9) K8.out.2
    generalize hgW : y9.alloc (.cells #[.slice A9 (leadL xs xs).length c9] 26) = W9 at *
    generalize hgg : y9.heap.size = g9 at *
    clear K K8 q7 hgW hgg
    have K := Lib.hid hK
    clear hK
    have q10 := (K.out.cells (⟨w.heap.size + 1, 0, none⟩, .slice A2 ys.length c2) (List.mem_of_getElem? (i := 1) rfl)).2
    go_upto_region 5 with (go_at_call 59; refine (HC.out _ (K.out.rds (A2, ys) (List.mem_of_getElem? (i := 2) rfl))).mono ?_; rintro e y12 ⟨A11, c11, rfl, hr, hf, hb⟩; have K11 := Lib.hid (And.intro (K.out.ext hb) hr); clear hr hf hb)
    have hK := K11.out.1.box (A := A11) (c := c11) K11.out.2
    generalize hgW : y12.alloc (.cells #[.slice A11 (closedL ys).length c11] 26) = W11 at *
    generalize hgg : y12.heap.size = g11 at *
    clear K K11 q10 hgW hgg
    have K := Lib.hid hK
    clear hK
    have q13 := (K.out.cells (⟨w.heap.size, 0, none⟩, .slice A1 xs.length c1) (List.mem_of_getElem? (i := 3) rfl)).2
    have q14 := (K.out.cells (⟨w.heap.size + 1, 0, none⟩, .slice A2 ys.length c2) (List.mem_of_getElem? (i := 2) rfl)).2
    go_upto_region 6 with (go_at_call 57; refine (HO.out _ (K.out.rds (A1, xs) (List.mem_of_getElem? (i := 4) rfl)) (K.out.rds (A2, ys) (List.mem_of_getElem? (i := 3) rfl))).mono ?_; rintro e y16 ⟨rfl, hb⟩; have K15 := Lib.hid (K.out.ext hb); clear hb)
    have hK := K15.out.two (.int .i64 lo) (.int .i64 hi) 73
    generalize hgW : y16.alloc (.cells #[.int .i64 lo, .int .i64 hi] 73) = W13 at *
    generalize hgg : y16.heap.size = g13 at *
    clear K K15 q13 q14 hgW hgg
    have K := Lib.hid hK
    clear hK
    have HO2 := Lib.hid (fun A c W r1 r2 => Obeys_any A1 A c1 c xs (leadL xs xs) W r1 r2 M1.out (by rw [leadL_length]; exact M1.out))
    have hok : ok2 xs (leadL xs xs) = true := ok2_iff.2 ⟨(validB_iff xs).1 hvx, leadL_valid ((validB_iff xs).1 hvx) ((validB_iff xs).1 hvx) rfl, leadL_length xs xs⟩
    rw [hok, tight_obeys, pickI_t, pickI_t, errB_t, Bool.true_and] at HO2
    clear hok
    generalize brkLo (brk xs (leadL xs xs)) = lo2 at *
    generalize brkHi (brk xs (leadL xs xs)) = hi2 at *
    have q17 := (K.out.cells (⟨w.heap.size, 0, none⟩, .slice A1 xs.length c1) (List.mem_of_getElem? (i := 5) rfl)).2
    have q18 := (K.out.cells (⟨g9, 0, none⟩, .slice A9 (leadL xs xs).length c9) (List.mem_of_getElem? (i := 3) rfl)).2
    go_upto_region 8 with (go_at_call 57; refine (HO2.out A9 c9 _ (K.out.rds (A1, xs) (List.mem_of_getElem? (i := 4) rfl)) (K.out.rds (A9, (leadL xs xs)) (List.mem_of_getElem? (i := 1) rfl))).mono ?_; rintro e y20 ⟨rfl, hb⟩; have K19 := Lib.hid (K.out.ext hb); clear hb)
    have hK := K19.out.two (.int .i64 lo2) (.int .i64 hi2) 73
    generalize hgW : y20.alloc (.cells #[.int .i64 lo2, .int .i64 hi2] 73) = W16 at *
    generalize hgg : y20.heap.size = g16 at *
    clear K K19 q17 q18 hgW hgg
    have K := Lib.hid hK
    clear hK
    have vy := (validB_iff ys).1 hvy
    have hcl := closedL_length ys
    have hA := fun A c W r1 => Close_any A c (closedL ys) W r1 (by rw [hcl]; exact M2.out)
    rw [(validB_iff _).2 (closedL_valid vy), pick_t, errB_t, clos_clos] at hA
    have HA := Lib.hid hA
    have HV := Lib.hid (And.intro vy hcl)
    have HN := Lib.hid (show (closedL ys).length ≤ 1000 ∧ ys.length ≤ 1000 by have := vy.2.1; omega)
    have HM := Lib.hid (clos_atMost vy)
    have HP := Lib.hid (fun W r1 r2 => CheckParts_any A2 A3 c2 c3 ys ps step W r1 r2 M2.out)
    have hge := fun (h : cpE ys step ps = 0) => cp_ge h
    generalize cpE ys step ps = E3 at *
    generalize cpN ys step ps = n at *
    have HG := Lib.hid hge
    clear hA vy hcl hge
    obtain ⟨b11, o11, e11, lb11, g11c⟩ := (K.out.rds (A11, (closedL ys)) (List.mem_of_getElem? (i := 0) rfl)) (by show 0 < (closedL ys).length; rw [HV.out.2]; exact HV.out.1.1)
    dsimp only at e11
    subst e11
    clear lb11 g11c
    have q21 := (K.out.cells (⟨g11, 0, none⟩, .slice (some ⟨b11, o11, none⟩) (closedL ys).length c11) (List.mem_of_getElem? (i := 4) rfl)).2
    go_upto_region 13 with (go_at_call 59; refine (HA.out (some ⟨b11, o11, none⟩) c11 _ (K.out.rds ((some ⟨b11, o11, none⟩), (closedL ys)) (List.mem_of_getElem? (i := 0) rfl))).mono ?_; rintro e y23 ⟨A19, c19, rfl, hr, hf, hb⟩; have K22 := Lib.hid (And.intro (K.out.ext hb) hr); clear hr hf hb)
    have hK := K22.out.1.box (A := A19) (c := c19) K22.out.2
    generalize hgW : y23.alloc (.cells #[.slice A19 (closedL ys).length c19] 26) = W19 at *
    generalize hgg : y23.heap.size = g19 at *
    clear K K22 q21 hgW hgg
    have K := Lib.hid hK
    clear hK
    have q24 := (K.out.cells (⟨w.heap.size + 1, 0, none⟩, .slice A2 ys.length c2) (List.mem_of_getElem? (i := 7) rfl)).2
    go_upto_region 14 with (go_at_call 61; refine (HP.out _ (K.out.rds (A2, ys) (List.mem_of_getElem? (i := 4) rfl)) (K.out.rds (A3, ps) (List.mem_of_getElem? (i := 3) rfl))).mono ?_; rintro e y26 ⟨rfl, hb⟩; have K25 := Lib.hid (K.out.ext hb); clear hb)
    clear K q24
    have K := K25
    clear K25
    have hcell : ∃ t : Nat, t < ys.length ∧ (E3 = 0 → step = (t : Int)) ∧ (E3 = 0 → closAt ys t ≤ n) := by
      by_cases h : E3 = 0
      · obtain ⟨h1, h2, h3⟩ := HG.out h
        exact ⟨step.toNat, by omega, fun _ => by omega, fun _ => h3⟩
      · exact ⟨0, HV.out.1.1, fun h' => absurd h' h, fun h' => absurd h' h⟩
    obtain ⟨t, ht, ht1, ht2⟩ := hcell
    have HT1 := Lib.hid (And.intro ht (And.intro ht1 ht2))
    clear ht ht1 ht2
    obtain ⟨b12, o12, e12, lb11, g11c⟩ := (K.out.rds ((some ⟨b11, o11, none⟩), (closedL ys)) (List.mem_of_getElem? (i := 1) rfl)) (by show 0 < (closedL ys).length; rw [HV.out.2]; exact HV.out.1.1)
    dsimp only at e12 lb11 g11c
    injection e12 with e12
    injection e12 with e1 e2
    subst e1 e2
    have k11 := g11c t (by rw [HV.out.2]; exact HT1.out.1)
    rw [nth_closedL HT1.out.1] at k11
    have q27 := (K.out.cells (⟨g19, 0, none⟩, .slice A19 (closedL ys).length c19) (List.mem_of_getElem? (i := 0) rfl)).2
    have q28 := (K.out.cells (⟨g11, 0, none⟩, .slice (some ⟨b11, o11, none⟩) (closedL ys).length c11) (List.mem_of_getElem? (i := 5) rfl)).2
    have hgo : (E3 = 0 ∧ (E3 == 0) = true ∧ step = (t : Int) ∧ ¬ n < closAt ys t) ∨ (E3 == 0) = false := by
      by_cases h : E3 = 0
      · exact .inl ⟨h, by simpa using h, HT1.out.2.1 h, by have := HT1.out.2.2 h; omega⟩
      · exact .inr (by simpa using h)
    rcases hgo with ⟨_, hg0, rfl, hg1⟩ | hg0
    · skip
      have htl : (t : Int) < ((closedL ys).length : Int) := by rw [HV.out.2]; have := HT1.out.1; omega
      go_upto_region 16 with (first
        | (go_at_call 24; have _t := K29; clear _t; refine (atMost_any (some ⟨b11, o11, none⟩) A2 c11 c2 (closedL ys) ys _ (K29.out.1.rds ((some ⟨b11, o11, none⟩), (closedL ys)) (List.mem_of_getElem? (i := 1) rfl)) (K29.out.1.rds (A2, ys) (List.mem_of_getElem? (i := 4) rfl)) HN.out.1 HN.out.2).mono ?_; rw [HM.out]; rintro e y34 ⟨rfl, hb⟩; have K33 := Lib.hid (And.intro (K29.out.1.ext hb) (trivial)); have q35 := (K33.out.1.cells (⟨g11, 0, none⟩, .slice (some ⟨b11, o11, none⟩) (closedL ys).length c11) (List.mem_of_getElem? (i := 5) rfl)).2; have k11b := (hb.cell (p := ⟨b11, o11 + t, none⟩) lb11a).trans k11a; clear hb)
        | (go_at_call 19; refine (Same_ex A19 (some ⟨b11, o11, none⟩) c19 c11 (closedL ys) _ (K.out.rds (A19, (closedL ys)) (List.mem_of_getElem? (i := 0) rfl)) (K.out.rds ((some ⟨b11, o11, none⟩), (closedL ys)) (List.mem_of_getElem? (i := 1) rfl)) HN.out.1).mono ?_; rintro e y30 ⟨rfl, hb⟩; have K29 := Lib.hid (And.intro (K.out.ext hb) (trivial)); have q31 := (K29.out.1.cells (⟨g11, 0, none⟩, .slice (some ⟨b11, o11, none⟩) (closedL ys).length c11) (List.mem_of_getElem? (i := 5) rfl)).2; have q32 := (K29.out.1.cells (⟨w.heap.size + 1, 0, none⟩, .slice A2 ys.length c2) (List.mem_of_getElem? (i := 7) rfl)).2; have k11a := (hb.cell (p := ⟨b11, o11 + t, none⟩) lb11).trans k11; have lb11a := Nat.lt_of_lt_of_le lb11 hb.size; clear hb))
      have hK := K33.out.1
      generalize hgW : y34 = W16 at *
      clear K K33 K29 q27 q28 q31 q32 q35 hgW k11 k11a k11b lb11 lb11a g11c
      have K := Lib.hid hK
      clear hK
      have q37 := (K.out.cells (⟨g11, 0, none⟩, .slice (some ⟨b11, o11, none⟩) (closedL ys).length c11) (List.mem_of_getElem? (i := 5) rfl)).2
      have hsl := HN.out.2
      have hP1 := fun (s : Nat) (hs : s < ys.length) W r => Parts_yes A2 c2 ys s W r M2.out HV.out.1 hs
      have HP1 := Lib.hid hP1
      have hP2 := fun (s : Nat) (us : List Int) (hs : s < ys.length) (hd : Divides ys s us) (A : Option Addr) (c : Nat) W r1 r2 => (show Calls Try.prog 61 #[.agg #[.slice A2 ys.length c2], .int .i64 s, .slice A us.length c] W fun e w' => e = .returned (.tuple #[.int .i64 (closAt ys s), .int .i64 0]) ∧ Below W.heap.size W w' from by
        have h := CheckParts_any A2 A c2 c ys us s W r1 r2 M2.out
        rwa [(divides_cp HV.out.1 hs hd).1, (divides_cp HV.out.1 hs hd).2] at h)
      have HP2 := Lib.hid hP2
      clear hP1 hP2
      go_wp2
      go_loopg [23, 24, 25, 26, 27, 122] ys.length (fun gg _ _ _ _ _ i wr => ∃ s : Nat, s ≤ ys.length ∧ ys.length - s ≤ gg ∧ i = .int .i64 s ∧ Aside (Below W16.heap.size W16 wr))
      case atStart => exact ⟨0, Nat.zero_le _, by omega, rfl, Below.refl _ _⟩
      case round =>
        obtain ⟨s, hs, hg, rfl, hbw⟩ := hrel
        have HBW := Lib.hid hbw.out
        have K9 := Lib.hid (K.out.ext hbw.out)
        clear hbw K
        by_cases hlt : s < ys.length
        · have hltz : (s : Int) < ((closedL ys).length : Int) := by rw [HV.out.2]; omega
          obtain ⟨b12, o12, e12, lb11, g11c⟩ := (K9.out.rds ((some ⟨b11, o11, none⟩), (closedL ys)) (List.mem_of_getElem? (i := 1) rfl)) (by show 0 < (closedL ys).length; rw [HV.out.2]; omega)
          dsimp only at e12 lb11 g11c
          injection e12 with e12
          injection e12 with e1 e2
          subst e1 e2
          have k11 := g11c s (by rw [HV.out.2]; exact hlt)
          rw [nth_closedL hlt] at k11
          clear g11c q37
          have z1 := (K9.out.cells (⟨w.heap.size + 1, 0, none⟩, .slice A2 ys.length c2) (List.mem_of_getElem? (i := 7) rfl)).2
          go_wp2_with (first
            | (go_at_call 61; refine (HP2.out s us hlt HD.out A24 c24 _ (K11.out.1.rds (A2, ys) (List.mem_of_getElem? (i := 4) rfl)) K11.out.2).mono ?_; rintro e y92 ⟨rfl, hb⟩; have HW2 := Lib.hid (HW1.out.trans (hb.mono HW1.out.size)); have k11b := (hb.cell (p := ⟨b11, o11 + s, none⟩) lb11a).trans k11a; have z3 := ((K11.out.1.ext hb).cells (⟨g11, 0, none⟩, .slice (some ⟨b11, o11, none⟩) (closedL ys).length c11) (List.mem_of_getElem? (i := 5) rfl)).2; clear hb)
            | (go_at_call 63; refine (HP1.out s hlt _ (K9.out.rds (A2, ys) (List.mem_of_getElem? (i := 4) rfl))).mono ?_; rintro e y91 ⟨us, hd, A24, c24, rfl, hr, hb⟩; have K11 := Lib.hid (And.intro (K9.out.ext hb) hr); have HD := Lib.hid hd; have HW1 := Lib.hid (HBW.out.trans (hb.mono HBW.out.size)); have k11a := (hb.cell (p := ⟨b11, o11 + s, none⟩) lb11).trans k11; have lb11a := Nat.lt_of_lt_of_le lb11 hb.size; have z2 := (K11.out.1.cells (⟨w.heap.size + 1, 0, none⟩, .slice A2 ys.length c2) (List.mem_of_getElem? (i := 7) rfl)).2; clear hb hr hd))
          go_roundg (ys.length - (s + 1))
          case measure => omega
          case rel => exact ⟨s + 1, by omega, by omega, by go_num, HW2.out⟩
        · have hltz : ¬ (s : Int) < ((closedL ys).length : Int) := by rw [HV.out.2]; omega
          have K := K9
          clear K9 HBW q37
          by_cases h1 : E1 = 0
          rotate_left
          · have hne : (E1 != 0) = true := by simpa using h1
            go_wp2_with (go_at_call 16; refine (sanity_any _).mono ?_; rintro e y39 ⟨rfl, hb⟩; have K38 := Lib.hid (And.intro (K.out.ext hb) (trivial)); clear hb)
            go_ret
            exact ⟨rfl, K38.out.1.bl⟩
          obtain ⟨hB1, hE1⟩ := HE.out
          subst h1
          have hok := errB_zero hE1
          obtain ⟨vx', vy', hle⟩ := ok2_iff.1 hok
          have HO3 := Lib.hid (fun W r1 r2 => Obeys_any A1 (some ⟨b11, o11, none⟩) c1 c11 xs (closedL ys) W r1 r2 M1.out (by rw [HV.out.2]; exact M2.out))
          have hok2 : ok2 xs (closedL ys) = true := ok2_iff.2 ⟨vx', closedL_valid vy', by rw [HV.out.2]; exact hle⟩
          rw [hok2, obeys_closed hle, pickI_t, pickI_t, errB_t, Bool.true_and] at HO3
          rw [hok, Bool.true_and] at hB1
          rw [hB1] at HO3
          have HM2 := Lib.hid (fun (h : B1 = true) => tight_most vy' hle (hB1.trans h))
          have hn9 : (leadL xs xs).length ≤ 1000 := by rw [leadL_length]; have := vx'.2.1; omega
          generalize brkLo (brk xs (closedL ys)) = lo3 at *
          generalize brkHi (brk xs (closedL ys)) = hi3 at *
          clear hB1 hE1 hok hok2 vx' vy' hle
          have q38 := (K.out.cells (⟨w.heap.size, 0, none⟩, .slice A1 xs.length c1) (List.mem_of_getElem? (i := 8) rfl)).2
          have q39 := (K.out.cells (⟨g11, 0, none⟩, .slice (some ⟨b11, o11, none⟩) (closedL ys).length c11) (List.mem_of_getElem? (i := 5) rfl)).2
          go_wp2_with fail
          refine (HO3.out _ (K.out.rds (A1, xs) (List.mem_of_getElem? (i := 5) rfl)) (K.out.rds ((some ⟨b11, o11, none⟩), (closedL ys)) (List.mem_of_getElem? (i := 1) rfl))).mono ?_
          rintro e y41 ⟨rfl, hb⟩
          have K40 := Lib.hid (K.out.ext hb)
          clear hb
          go_upto_region 27 with fail
          have hK := K40.out.two (.int .i64 lo3) (.int .i64 hi3) 73
          generalize hgW : y41.alloc (.cells #[.int .i64 lo3, .int .i64 hi3] 73) = W28 at *
          generalize hgg : y41.heap.size = g28 at *
          clear K K40 q38 q39 hgW hgg
          have K := Lib.hid hK
          clear hK
          cases B1
          · skip
            go_wp2_with (go_at_call 16; refine (sanity_any _).mono ?_; rintro e y43 ⟨rfl, hb⟩; have K42 := Lib.hid (And.intro (K.out.ext hb) (trivial)); clear hb)
            go_ret
            exact ⟨rfl, K42.out.1.bl⟩
          have hm2 := HM2.out rfl
          have HM3 := Lib.hid hm2
          clear HM2 hm2
          go_wp2_with (first
            | (go_at_call 24; have _t := K42; clear _t; refine (atMost_any A9 A2 c9 c2 (leadL xs xs) ys _ (K42.out.1.rds (A9, (leadL xs xs)) (List.mem_of_getElem? (i := 2) rfl)) (K42.out.1.rds (A2, ys) (List.mem_of_getElem? (i := 4) rfl)) hn9 HN.out.2).mono ?_; rw [HM3.out]; rintro e y47 ⟨rfl, hb⟩; have K46 := Lib.hid (And.intro (K42.out.1.ext hb) (trivial)); clear hb)
            | (go_at_call 16; refine (sanity_any _).mono ?_; rintro e y43 ⟨rfl, hb⟩; have K42 := Lib.hid (And.intro (K.out.ext hb) (trivial)); have q44 := (K42.out.1.cells (⟨g9, 0, none⟩, .slice A9 (leadL xs xs).length c9) (List.mem_of_getElem? (i := 8) rfl)).2; have q45 := (K42.out.1.cells (⟨w.heap.size + 1, 0, none⟩, .slice A2 ys.length c2) (List.mem_of_getElem? (i := 9) rfl)).2; clear hb))
          go_ret
          exact ⟨rfl, K46.out.1.bl⟩
    · skip
      go_upto_region 16 with (first
        | (go_at_call 24; have _t := K29; clear _t; refine (atMost_any (some ⟨b11, o11, none⟩) A2 c11 c2 (closedL ys) ys _ (K29.out.1.rds ((some ⟨b11, o11, none⟩), (closedL ys)) (List.mem_of_getElem? (i := 1) rfl)) (K29.out.1.rds (A2, ys) (List.mem_of_getElem? (i := 4) rfl)) HN.out.1 HN.out.2).mono ?_; rw [HM.out]; rintro e y34 ⟨rfl, hb⟩; have K33 := Lib.hid (And.intro (K29.out.1.ext hb) (trivial)); have q35 := (K33.out.1.cells (⟨g11, 0, none⟩, .slice (some ⟨b11, o11, none⟩) (closedL ys).length c11) (List.mem_of_getElem? (i := 5) rfl)).2; have k11b := (hb.cell (p := ⟨b11, o11 + t, none⟩) lb11a).trans k11a; clear hb)
        | (go_at_call 19; refine (Same_ex A19 (some ⟨b11, o11, none⟩) c19 c11 (closedL ys) _ (K.out.rds (A19, (closedL ys)) (List.mem_of_getElem? (i := 0) rfl)) (K.out.rds ((some ⟨b11, o11, none⟩), (closedL ys)) (List.mem_of_getElem? (i := 1) rfl)) HN.out.1).mono ?_; rintro e y30 ⟨rfl, hb⟩; have K29 := Lib.hid (And.intro (K.out.ext hb) (trivial)); have q31 := (K29.out.1.cells (⟨g11, 0, none⟩, .slice (some ⟨b11, o11, none⟩) (closedL ys).length c11) (List.mem_of_getElem? (i := 5) rfl)).2; have q32 := (K29.out.1.cells (⟨w.heap.size + 1, 0, none⟩, .slice A2 ys.length c2) (List.mem_of_getElem? (i := 7) rfl)).2; have k11a := (hb.cell (p := ⟨b11, o11 + t, none⟩) lb11).trans k11; have lb11a := Nat.lt_of_lt_of_le lb11 hb.size; clear hb))
      have hK := K33.out.1
      generalize hgW : y34 = W16 at *
      clear K K33 K29 q27 q28 q31 q32 q35 hgW k11 k11a k11b lb11 lb11a g11c
      have K := Lib.hid hK
      clear hK
      have q37 := (K.out.cells (⟨g11, 0, none⟩, .slice (some ⟨b11, o11, none⟩) (closedL ys).length c11) (List.mem_of_getElem? (i := 5) rfl)).2
      have hsl := HN.out.2
      have hP1 := fun (s : Nat) (hs : s < ys.length) W r => Parts_yes A2 c2 ys s W r M2.out HV.out.1 hs
      have HP1 := Lib.hid hP1
      have hP2 := fun (s : Nat) (us : List Int) (hs : s < ys.length) (hd : Divides ys s us) (A : Option Addr) (c : Nat) W r1 r2 => (show Calls Try.prog 61 #[.agg #[.slice A2 ys.length c2], .int .i64 s, .slice A us.length c] W fun e w' => e = .returned (.tuple #[.int .i64 (closAt ys s), .int .i64 0]) ∧ Below W.heap.size W w' from by
        have h := CheckParts_any A2 A c2 c ys us s W r1 r2 M2.out
        rwa [(divides_cp HV.out.1 hs hd).1, (divides_cp HV.out.1 hs hd).2] at h)
      have HP2 := Lib.hid hP2
      clear hP1 hP2
      go_wp2
      go_loopg [23, 24, 25, 26, 27, 122] ys.length (fun gg _ _ _ _ _ i wr => ∃ s : Nat, s ≤ ys.length ∧ ys.length - s ≤ gg ∧ i = .int .i64 s ∧ Aside (Below W16.heap.size W16 wr))
      case atStart => exact ⟨0, Nat.zero_le _, by omega, rfl, Below.refl _ _⟩
      case round =>
        obtain ⟨s, hs, hg, rfl, hbw⟩ := hrel
        have HBW := Lib.hid hbw.out
        have K9 := Lib.hid (K.out.ext hbw.out)
        clear hbw K
        by_cases hlt : s < ys.length
        · have hltz : (s : Int) < ((closedL ys).length : Int) := by rw [HV.out.2]; omega
          obtain ⟨b12, o12, e12, lb11, g11c⟩ := (K9.out.rds ((some ⟨b11, o11, none⟩), (closedL ys)) (List.mem_of_getElem? (i := 1) rfl)) (by show 0 < (closedL ys).length; rw [HV.out.2]; omega)
          dsimp only at e12 lb11 g11c
          injection e12 with e12
          injection e12 with e1 e2
          subst e1 e2
          have k11 := g11c s (by rw [HV.out.2]; exact hlt)
          rw [nth_closedL hlt] at k11
          clear g11c q37
          have z1 := (K9.out.cells (⟨w.heap.size + 1, 0, none⟩, .slice A2 ys.length c2) (List.mem_of_getElem? (i := 7) rfl)).2
          go_wp2_with (first
            | (go_at_call 61; refine (HP2.out s us hlt HD.out A24 c24 _ (K11.out.1.rds (A2, ys) (List.mem_of_getElem? (i := 4) rfl)) K11.out.2).mono ?_; rintro e y92 ⟨rfl, hb⟩; have HW2 := Lib.hid (HW1.out.trans (hb.mono HW1.out.size)); have k11b := (hb.cell (p := ⟨b11, o11 + s, none⟩) lb11a).trans k11a; have z3 := ((K11.out.1.ext hb).cells (⟨g11, 0, none⟩, .slice (some ⟨b11, o11, none⟩) (closedL ys).length c11) (List.mem_of_getElem? (i := 5) rfl)).2; clear hb)
            | (go_at_call 63; refine (HP1.out s hlt _ (K9.out.rds (A2, ys) (List.mem_of_getElem? (i := 4) rfl))).mono ?_; rintro e y91 ⟨us, hd, A24, c24, rfl, hr, hb⟩; have K11 := Lib.hid (And.intro (K9.out.ext hb) hr); have HD := Lib.hid hd; have HW1 := Lib.hid (HBW.out.trans (hb.mono HBW.out.size)); have k11a := (hb.cell (p := ⟨b11, o11 + s, none⟩) lb11).trans k11; have lb11a := Nat.lt_of_lt_of_le lb11 hb.size; have z2 := (K11.out.1.cells (⟨w.heap.size + 1, 0, none⟩, .slice A2 ys.length c2) (List.mem_of_getElem? (i := 7) rfl)).2; clear hb hr hd))
          go_roundg (ys.length - (s + 1))
          case measure => omega
          case rel => exact ⟨s + 1, by omega, by omega, by go_num, HW2.out⟩
        · have hltz : ¬ (s : Int) < ((closedL ys).length : Int) := by rw [HV.out.2]; omega
          have K := K9
          clear K9 HBW q37
          by_cases h1 : E1 = 0
          rotate_left
          · have hne : (E1 != 0) = true := by simpa using h1
            go_wp2_with (go_at_call 16; refine (sanity_any _).mono ?_; rintro e y39 ⟨rfl, hb⟩; have K38 := Lib.hid (And.intro (K.out.ext hb) (trivial)); clear hb)
            go_ret
            exact ⟨rfl, K38.out.1.bl⟩
          obtain ⟨hB1, hE1⟩ := HE.out
          subst h1
          have hok := errB_zero hE1
          obtain ⟨vx', vy', hle⟩ := ok2_iff.1 hok
          have HO3 := Lib.hid (fun W r1 r2 => Obeys_any A1 (some ⟨b11, o11, none⟩) c1 c11 xs (closedL ys) W r1 r2 M1.out (by rw [HV.out.2]; exact M2.out))
          have hok2 : ok2 xs (closedL ys) = true := ok2_iff.2 ⟨vx', closedL_valid vy', by rw [HV.out.2]; exact hle⟩
          rw [hok2, obeys_closed hle, pickI_t, pickI_t, errB_t, Bool.true_and] at HO3
          rw [hok, Bool.true_and] at hB1
          rw [hB1] at HO3
          have HM2 := Lib.hid (fun (h : B1 = true) => tight_most vy' hle (hB1.trans h))
          have hn9 : (leadL xs xs).length ≤ 1000 := by rw [leadL_length]; have := vx'.2.1; omega
          generalize brkLo (brk xs (closedL ys)) = lo3 at *
          generalize brkHi (brk xs (closedL ys)) = hi3 at *
          clear hB1 hE1 hok hok2 vx' vy' hle
          have q38 := (K.out.cells (⟨w.heap.size, 0, none⟩, .slice A1 xs.length c1) (List.mem_of_getElem? (i := 8) rfl)).2
          have q39 := (K.out.cells (⟨g11, 0, none⟩, .slice (some ⟨b11, o11, none⟩) (closedL ys).length c11) (List.mem_of_getElem? (i := 5) rfl)).2
          go_wp2_with fail
          refine (HO3.out _ (K.out.rds (A1, xs) (List.mem_of_getElem? (i := 5) rfl)) (K.out.rds ((some ⟨b11, o11, none⟩), (closedL ys)) (List.mem_of_getElem? (i := 1) rfl))).mono ?_
          rintro e y41 ⟨rfl, hb⟩
          have K40 := Lib.hid (K.out.ext hb)
          clear hb
          go_upto_region 27 with fail
          have hK := K40.out.two (.int .i64 lo3) (.int .i64 hi3) 73
          generalize hgW : y41.alloc (.cells #[.int .i64 lo3, .int .i64 hi3] 73) = W28 at *
          generalize hgg : y41.heap.size = g28 at *
          clear K K40 q38 q39 hgW hgg
          have K := Lib.hid hK
          clear hK
          cases B1
          · skip
            go_wp2_with (go_at_call 16; refine (sanity_any _).mono ?_; rintro e y43 ⟨rfl, hb⟩; have K42 := Lib.hid (And.intro (K.out.ext hb) (trivial)); clear hb)
            go_ret
            exact ⟨rfl, K42.out.1.bl⟩
          have hm2 := HM2.out rfl
          have HM3 := Lib.hid hm2
          clear HM2 hm2
          go_wp2_with (first
            | (go_at_call 24; have _t := K42; clear _t; refine (atMost_any A9 A2 c9 c2 (leadL xs xs) ys _ (K42.out.1.rds (A9, (leadL xs xs)) (List.mem_of_getElem? (i := 2) rfl)) (K42.out.1.rds (A2, ys) (List.mem_of_getElem? (i := 4) rfl)) hn9 HN.out.2).mono ?_; rw [HM3.out]; rintro e y47 ⟨rfl, hb⟩; have K46 := Lib.hid (And.intro (K42.out.1.ext hb) (trivial)); clear hb)
            | (go_at_call 16; refine (sanity_any _).mono ?_; rintro e y43 ⟨rfl, hb⟩; have K42 := Lib.hid (And.intro (K.out.ext hb) (trivial)); have q44 := (K42.out.1.cells (⟨g9, 0, none⟩, .slice A9 (leadL xs xs).length c9) (List.mem_of_getElem? (i := 8) rfl)).2; have q45 := (K42.out.1.cells (⟨w.heap.size + 1, 0, none⟩, .slice A2 ys.length c2) (List.mem_of_getElem? (i := 9) rfl)).2; clear hb))
          go_ret
          exact ⟨rfl, K46.out.1.bl⟩
end Go.Proofs.Ytknkneccnhgjmaa
