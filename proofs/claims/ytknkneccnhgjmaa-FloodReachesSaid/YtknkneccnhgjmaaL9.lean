/- Walk: the law FloodReaches. -/
import Derived.Test.YtknkneccnhgjmaaP6
import Derived.Test.YtknkneccnhgjmaaL7
namespace Go.Proofs.Ytknkneccnhgjmaa
open Go.RowKit Go.Shelf

set_option maxRecDepth 100000 in
set_option maxHeartbeats 8000000 in
theorem FloodReaches_row (w : World) (A1 : Option Addr) (c1 : Nat) (xs : List Int) (r1 : Rd w w.heap.size A1 xs) (m1 : xs.length ≤ maxLen) (A2 : Option Addr) (c2 : Nat) (ys : List Int) (r2 : Rd w w.heap.size A2 ys) (m2 : ys.length ≤ maxLen)
    (A3 : Option Addr) (c3 : Nat) (zs : List Int) (r3 : Rd w w.heap.size A3 zs) (m3 : zs.length ≤ maxLen) (A4 : Option Addr) (c4 : Nat) (us : List Int) (r4 : Rd w w.heap.size A4 us) (m4 : us.length ≤ maxLen) :
    Calls Try.prog 9 #[.agg #[.slice A1 xs.length c1], .agg #[.slice A2 ys.length c2], .agg #[.slice A3 zs.length c3], .agg #[.slice A4 us.length c4]] w fun e w' => e = .returned (.bool true) ∧ Below w.heap.size w w' := by
  have hK : Ex w w [] [] := ⟨Below.refl _ _, fun p hp => (by cases hp), fun p hp => (by cases hp)⟩
  have K := Lib.hid ((((hK.addRd r1).addRd r2).addRd r3).addRd r4)
  have M1 := Lib.hid m1
  have M2 := Lib.hid m2
  have M3 := Lib.hid m3
  have M4 := Lib.hid m4
  clear hK r1 r2 r3 r4 m1 m2 m3 m4
  cases hf0 : fewB xs with
  | false =>
    have F0 := Lib.hid hf0
    clear hf0
    go_enter Try.func9, Try.ntmps9
    go_upto_region 1 with fail
    have hK := ((((K.out.one (.slice A1 xs.length c1) 26).one (.slice A2 ys.length c2) 26).one (.slice A3 zs.length c3) 26).one (.slice A4 us.length c4) 26)
    simp only [World.size_alloc] at hK
    generalize hgW : (((w.alloc (.cells #[.slice A1 xs.length c1] 26)).alloc (.cells #[.slice A2 ys.length c2] 26)).alloc (.cells #[.slice A3 zs.length c3] 26)).alloc (.cells #[.slice A4 us.length c4] 26) = W0 at *
    clear K hgW
    have K := Lib.hid hK
    clear hK
    have q1 := (K.out.cells (⟨w.heap.size, 0, none⟩, .slice A1 xs.length c1) (List.mem_of_getElem? (i := 3) rfl)).2
    go_wp2_with (first
      | (go_at_call 16; have _t := K2; clear _t; refine (sanity_any _).mono ?_; rintro e y6 ⟨rfl, hb⟩; have K5 := Lib.hid (And.intro (K2.out.1.ext hb) (trivial)); clear hb)
      | (go_at_call 20; refine (few_any A1 c1 xs _ M1.out).mono ?_; rw [F0.out]; rintro e y3 ⟨rfl, hb⟩; have K2 := Lib.hid (And.intro (K.out.ext hb) (trivial)); have q4 := (K2.out.1.cells (⟨w.heap.size + 1, 0, none⟩, .slice A2 ys.length c2) (List.mem_of_getElem? (i := 2) rfl)).2; clear hb))
    go_ret
    exact ⟨rfl, K5.out.1.bl⟩
  | true =>
  have F0 := Lib.hid hf0
  clear hf0
  cases hf1 : fewB ys with
  | false =>
    have F1 := Lib.hid hf1
    clear hf1
    go_enter Try.func9, Try.ntmps9
    go_upto_region 1 with fail
    have hK := ((((K.out.one (.slice A1 xs.length c1) 26).one (.slice A2 ys.length c2) 26).one (.slice A3 zs.length c3) 26).one (.slice A4 us.length c4) 26)
    simp only [World.size_alloc] at hK
    generalize hgW : (((w.alloc (.cells #[.slice A1 xs.length c1] 26)).alloc (.cells #[.slice A2 ys.length c2] 26)).alloc (.cells #[.slice A3 zs.length c3] 26)).alloc (.cells #[.slice A4 us.length c4] 26) = W0 at *
    clear K hgW
    have K := Lib.hid hK
    clear hK
    have q1 := (K.out.cells (⟨w.heap.size, 0, none⟩, .slice A1 xs.length c1) (List.mem_of_getElem? (i := 3) rfl)).2
    go_wp2_with (first
      | (go_at_call 16; have _t := K5; clear _t; refine (sanity_any _).mono ?_; rintro e y9 ⟨rfl, hb⟩; have K8 := Lib.hid (And.intro (K5.out.1.ext hb) (trivial)); clear hb)
      | (go_at_call 20; have _t := K2; clear _t; refine (few_any A2 c2 ys _ M2.out).mono ?_; rw [F1.out]; rintro e y6 ⟨rfl, hb⟩; have K5 := Lib.hid (And.intro (K2.out.1.ext hb) (trivial)); have q7 := (K5.out.1.cells (⟨w.heap.size + 1 + 1, 0, none⟩, .slice A3 zs.length c3) (List.mem_of_getElem? (i := 1) rfl)).2; clear hb)
      | (go_at_call 20; refine (few_any A1 c1 xs _ M1.out).mono ?_; rw [F0.out]; rintro e y3 ⟨rfl, hb⟩; have K2 := Lib.hid (And.intro (K.out.ext hb) (trivial)); have q4 := (K2.out.1.cells (⟨w.heap.size + 1, 0, none⟩, .slice A2 ys.length c2) (List.mem_of_getElem? (i := 2) rfl)).2; clear hb))
    go_ret
    exact ⟨rfl, K8.out.1.bl⟩
  | true =>
  have F1 := Lib.hid hf1
  clear hf1
  cases hf2 : fewB zs with
  | false =>
    have F2 := Lib.hid hf2
    clear hf2
    go_enter Try.func9, Try.ntmps9
    go_upto_region 1 with fail
    have hK := ((((K.out.one (.slice A1 xs.length c1) 26).one (.slice A2 ys.length c2) 26).one (.slice A3 zs.length c3) 26).one (.slice A4 us.length c4) 26)
    simp only [World.size_alloc] at hK
    generalize hgW : (((w.alloc (.cells #[.slice A1 xs.length c1] 26)).alloc (.cells #[.slice A2 ys.length c2] 26)).alloc (.cells #[.slice A3 zs.length c3] 26)).alloc (.cells #[.slice A4 us.length c4] 26) = W0 at *
    clear K hgW
    have K := Lib.hid hK
    clear hK
    have q1 := (K.out.cells (⟨w.heap.size, 0, none⟩, .slice A1 xs.length c1) (List.mem_of_getElem? (i := 3) rfl)).2
    go_wp2_with (first
      | (go_at_call 16; have _t := K8; clear _t; refine (sanity_any _).mono ?_; rintro e y12 ⟨rfl, hb⟩; have K11 := Lib.hid (And.intro (K8.out.1.ext hb) (trivial)); clear hb)
      | (go_at_call 20; have _t := K5; clear _t; refine (few_any A3 c3 zs _ M3.out).mono ?_; rw [F2.out]; rintro e y9 ⟨rfl, hb⟩; have K8 := Lib.hid (And.intro (K5.out.1.ext hb) (trivial)); have q10 := (K8.out.1.cells (⟨w.heap.size + 1 + 1 + 1, 0, none⟩, .slice A4 us.length c4) (List.mem_of_getElem? (i := 0) rfl)).2; clear hb)
      | (go_at_call 20; have _t := K2; clear _t; refine (few_any A2 c2 ys _ M2.out).mono ?_; rw [F1.out]; rintro e y6 ⟨rfl, hb⟩; have K5 := Lib.hid (And.intro (K2.out.1.ext hb) (trivial)); have q7 := (K5.out.1.cells (⟨w.heap.size + 1 + 1, 0, none⟩, .slice A3 zs.length c3) (List.mem_of_getElem? (i := 1) rfl)).2; clear hb)
      | (go_at_call 20; refine (few_any A1 c1 xs _ M1.out).mono ?_; rw [F0.out]; rintro e y3 ⟨rfl, hb⟩; have K2 := Lib.hid (And.intro (K.out.ext hb) (trivial)); have q4 := (K2.out.1.cells (⟨w.heap.size + 1, 0, none⟩, .slice A2 ys.length c2) (List.mem_of_getElem? (i := 2) rfl)).2; clear hb))
    go_ret
    exact ⟨rfl, K11.out.1.bl⟩
  | true =>
  have F2 := Lib.hid hf2
  clear hf2
  cases hf3 : fewB us with
  | false =>
    have F3 := Lib.hid hf3
    clear hf3
    go_enter Try.func9, Try.ntmps9
    go_upto_region 1 with fail
    have hK := ((((K.out.one (.slice A1 xs.length c1) 26).one (.slice A2 ys.length c2) 26).one (.slice A3 zs.length c3) 26).one (.slice A4 us.length c4) 26)
    simp only [World.size_alloc] at hK
    generalize hgW : (((w.alloc (.cells #[.slice A1 xs.length c1] 26)).alloc (.cells #[.slice A2 ys.length c2] 26)).alloc (.cells #[.slice A3 zs.length c3] 26)).alloc (.cells #[.slice A4 us.length c4] 26) = W0 at *
    clear K hgW
    have K := Lib.hid hK
    clear hK
    have q1 := (K.out.cells (⟨w.heap.size, 0, none⟩, .slice A1 xs.length c1) (List.mem_of_getElem? (i := 3) rfl)).2
    go_wp2_with (first
      | (go_at_call 16; have _t := K11; clear _t; refine (sanity_any _).mono ?_; rintro e y14 ⟨rfl, hb⟩; have K13 := Lib.hid (And.intro (K11.out.1.ext hb) (trivial)); clear hb)
      | (go_at_call 20; have _t := K8; clear _t; refine (few_any A4 c4 us _ M4.out).mono ?_; rw [F3.out]; rintro e y12 ⟨rfl, hb⟩; have K11 := Lib.hid (And.intro (K8.out.1.ext hb) (trivial)); clear hb)
      | (go_at_call 20; have _t := K5; clear _t; refine (few_any A3 c3 zs _ M3.out).mono ?_; rw [F2.out]; rintro e y9 ⟨rfl, hb⟩; have K8 := Lib.hid (And.intro (K5.out.1.ext hb) (trivial)); have q10 := (K8.out.1.cells (⟨w.heap.size + 1 + 1 + 1, 0, none⟩, .slice A4 us.length c4) (List.mem_of_getElem? (i := 0) rfl)).2; clear hb)
      | (go_at_call 20; have _t := K2; clear _t; refine (few_any A2 c2 ys _ M2.out).mono ?_; rw [F1.out]; rintro e y6 ⟨rfl, hb⟩; have K5 := Lib.hid (And.intro (K2.out.1.ext hb) (trivial)); have q7 := (K5.out.1.cells (⟨w.heap.size + 1 + 1, 0, none⟩, .slice A3 zs.length c3) (List.mem_of_getElem? (i := 1) rfl)).2; clear hb)
      | (go_at_call 20; refine (few_any A1 c1 xs _ M1.out).mono ?_; rw [F0.out]; rintro e y3 ⟨rfl, hb⟩; have K2 := Lib.hid (And.intro (K.out.ext hb) (trivial)); have q4 := (K2.out.1.cells (⟨w.heap.size + 1, 0, none⟩, .slice A2 ys.length c2) (List.mem_of_getElem? (i := 2) rfl)).2; clear hb))
    go_ret
    exact ⟨rfl, K13.out.1.bl⟩
  | true =>
  have F3 := Lib.hid hf3
  clear hf3
  have hv1 := fun W r1 r2 r3 => Served_any A1 A2 A3 c1 c2 c3 xs ys zs W r1 r2 r3 M1.out M2.out M3.out
  have hv2 := fun W r1 r2 r3 => rServed_any A1 A2 A3 c1 c2 c3 xs ys zs W r1 r2 r3 M1.out M2.out M3.out
  rw [← ok3_eq, show (if ok3 xs ys zs then servedI xs ys zs else 0) = servedN xs ys zs from rfl, show (ok3 xs ys zs && servedOk xs ys zs) = servedB xs ys zs from rfl] at hv2
  have hl1 := fun W r1 r2 => Least_any A1 A3 c1 c3 xs zs W r1 r2 M1.out M3.out
  have hl2 := fun W r1 r2 => rLeast_any A1 A3 c1 c3 xs zs W r1 r2 M1.out M3.out
  have hb1 := fun W r1 r2 => Behind_any A4 A3 c4 c3 us zs W r1 r2 M4.out M3.out
  have hb2 := fun W r1 r2 => rBehind_any A4 A3 c4 c3 us zs W r1 r2 M4.out M3.out
  have hf1 := fun W r1 r2 => Left_any A3 A4 c3 c4 zs us W r1 r2 M3.out M4.out
  have hf2 := fun W r1 r2 => rLeft_any A3 A4 c3 c4 zs us W r1 r2 M3.out M4.out
  have hs1 := fun W r1 r2 => Stored_any A1 A2 c1 c2 xs ys W r1 r2 M1.out M2.out
  have hs2 := fun W r1 r2 => rStored_any A1 A2 c1 c2 xs ys W r1 r2 M1.out M2.out
  have hw1 := fun W r1 r2 => Waited_any A1 A2 c1 c2 xs ys W r1 r2 M1.out M2.out
  have hw2 := fun W r1 r2 => rWaited_any A1 A2 c1 c2 xs ys W r1 r2 M1.out M2.out
  have e1 : (if flowE xs ys = 0 then (apartT xs ys).2 else 0) = if flowE xs ys = 0 then liesAt xs ys (mostAt xs ys) else 0 := by
    by_cases h : flowE xs ys = 0
    · rw [if_pos h, if_pos h, stored_same h]
    · rw [if_neg h, if_neg h]
  have e2 : (if flowE xs ys = 0 then (((apartT xs ys).1 : Nat) : Int) else 0) = if flowE xs ys = 0 then ((mostAt xs ys : Nat) : Int) else 0 := by
    by_cases h : flowE xs ys = 0
    · rw [if_pos h, if_pos h, stored_same h]
    · rw [if_neg h, if_neg h]
  rw [e1, e2] at hs2
  have HN := Lib.hid (And.intro (pick_valid (b := ok2 xs zs) (xs := leastL xs zs) fun h => by rw [leastL_length]; exact (ok2_iff.1 h).1.2.1) (And.intro (pick_valid (b := ok2 us zs) (xs := behindL us zs) fun h => by rw [behindL_length]; exact (ok2_iff.1 h).1.2.1) (pick_valid (b := ok2 zs us) (xs := leftL zs us) fun h => by rw [leftL_length]; exact (ok2_iff.1 h).1.2.1)))
  clear e1 e2
  generalize servedN xs ys zs = n1 at *
  generalize servedB xs ys zs = B1 at *
  generalize errB (ok3 xs ys zs) = E1 at *
  generalize pick (ok2 xs zs) (leastL xs zs) = X at *
  generalize errB (ok2 xs zs) = E2 at *
  generalize pick (ok2 us zs) (behindL us zs) = Y at *
  generalize errB (ok2 us zs) = E3 at *
  generalize pick (ok2 zs us) (leftL zs us) = Z at *
  generalize errB (ok2 zs us) = E4 at *
  generalize (if flowE xs ys = 0 then liesAt xs ys (mostAt xs ys) else 0) = n2 at *
  generalize (if flowE xs ys = 0 then ((mostAt xs ys : Nat) : Int) else 0) = n3 at *
  generalize (if flowE xs ys = 0 then waitI xs ys else 0) = n4 at *
  generalize flowE xs ys = E5 at *
  have Hv1 := Lib.hid hv1
  have Hv2 := Lib.hid hv2
  have Hl1 := Lib.hid hl1
  have Hl2 := Lib.hid hl2
  have Hb1 := Lib.hid hb1
  have Hb2 := Lib.hid hb2
  have Hf1 := Lib.hid hf1
  have Hf2 := Lib.hid hf2
  have Hs1 := Lib.hid hs1
  have Hs2 := Lib.hid hs2
  have Hw1 := Lib.hid hw1
  have Hw2 := Lib.hid hw2
  clear hv1 hv2 hl1 hl2 hb1 hb2 hf1 hf2 hs1 hs2 hw1 hw2
  go_enter Try.func9, Try.ntmps9
  go_upto_region 1 with fail
  have hK := ((((K.out.one (.slice A1 xs.length c1) 26).one (.slice A2 ys.length c2) 26).one (.slice A3 zs.length c3) 26).one (.slice A4 us.length c4) 26)
  simp only [World.size_alloc] at hK
  generalize hgW : (((w.alloc (.cells #[.slice A1 xs.length c1] 26)).alloc (.cells #[.slice A2 ys.length c2] 26)).alloc (.cells #[.slice A3 zs.length c3] 26)).alloc (.cells #[.slice A4 us.length c4] 26) = W0 at *
  clear K hgW
  have K := Lib.hid hK
  clear hK
  have q1 := (K.out.cells (⟨w.heap.size, 0, none⟩, .slice A1 xs.length c1) (List.mem_of_getElem? (i := 3) rfl)).2
  go_upto_region 3 with (first
    | (go_at_call 20; have _t := K8; clear _t; refine (few_any A4 c4 us _ M4.out).mono ?_; rw [F3.out]; rintro e y12 ⟨rfl, hb⟩; have K11 := Lib.hid (And.intro (K8.out.1.ext hb) (trivial)); clear hb)
    | (go_at_call 20; have _t := K5; clear _t; refine (few_any A3 c3 zs _ M3.out).mono ?_; rw [F2.out]; rintro e y9 ⟨rfl, hb⟩; have K8 := Lib.hid (And.intro (K5.out.1.ext hb) (trivial)); have q10 := (K8.out.1.cells (⟨w.heap.size + 1 + 1 + 1, 0, none⟩, .slice A4 us.length c4) (List.mem_of_getElem? (i := 0) rfl)).2; clear hb)
    | (go_at_call 20; have _t := K2; clear _t; refine (few_any A2 c2 ys _ M2.out).mono ?_; rw [F1.out]; rintro e y6 ⟨rfl, hb⟩; have K5 := Lib.hid (And.intro (K2.out.1.ext hb) (trivial)); have q7 := (K5.out.1.cells (⟨w.heap.size + 1 + 1, 0, none⟩, .slice A3 zs.length c3) (List.mem_of_getElem? (i := 1) rfl)).2; clear hb)
    | (go_at_call 20; refine (few_any A1 c1 xs _ M1.out).mono ?_; rw [F0.out]; rintro e y3 ⟨rfl, hb⟩; have K2 := Lib.hid (And.intro (K.out.ext hb) (trivial)); have q4 := (K2.out.1.cells (⟨w.heap.size + 1, 0, none⟩, .slice A2 ys.length c2) (List.mem_of_getElem? (i := 2) rfl)).2; clear hb))
  have hK := K11.out.1
  generalize hgW : y12 = W1 at *
  clear K hgW
  have K := Lib.hid hK
  clear hK
  have q13 := (K.out.cells (⟨w.heap.size, 0, none⟩, .slice A1 xs.length c1) (List.mem_of_getElem? (i := 3) rfl)).2
  have q14 := (K.out.cells (⟨w.heap.size + 1, 0, none⟩, .slice A2 ys.length c2) (List.mem_of_getElem? (i := 2) rfl)).2
  have q15 := (K.out.cells (⟨w.heap.size + 1 + 1, 0, none⟩, .slice A3 zs.length c3) (List.mem_of_getElem? (i := 1) rfl)).2
  go_upto_region 4 with (go_at_call 36; refine (Hv1.out _ (K.out.rds (A1, xs) (List.mem_of_getElem? (i := 3) rfl)) (K.out.rds (A2, ys) (List.mem_of_getElem? (i := 2) rfl)) (K.out.rds (A3, zs) (List.mem_of_getElem? (i := 1) rfl))).mono ?_; rintro e y17 ⟨rfl, hb⟩; have K16 := Lib.hid (K.out.ext hb); clear hb)
  clear K q13 q14 q15
  have K := K16
  clear K16
  have q18 := (K.out.cells (⟨w.heap.size, 0, none⟩, .slice A1 xs.length c1) (List.mem_of_getElem? (i := 3) rfl)).2
  have q19 := (K.out.cells (⟨w.heap.size + 1, 0, none⟩, .slice A2 ys.length c2) (List.mem_of_getElem? (i := 2) rfl)).2
  have q20 := (K.out.cells (⟨w.heap.size + 1 + 1, 0, none⟩, .slice A3 zs.length c3) (List.mem_of_getElem? (i := 1) rfl)).2
  go_upto_region 5 with (go_at_call 37; refine (Hv2.out _ (K.out.rds (A1, xs) (List.mem_of_getElem? (i := 3) rfl)) (K.out.rds (A2, ys) (List.mem_of_getElem? (i := 2) rfl)) (K.out.rds (A3, zs) (List.mem_of_getElem? (i := 1) rfl))).mono ?_; rintro e y22 ⟨rfl, hb⟩; have K21 := Lib.hid (K.out.ext hb); clear hb)
  have hK := K21.out.three (.int .i64 n1) (.bool B1) (.int .i64 E1) 58
  generalize hgW : y22.alloc (.cells #[.int .i64 n1, .bool B1, .int .i64 E1] 58) = W12 at *
  generalize hgg : y22.heap.size = g12 at *
  clear K K21 q18 q19 q20 hgW hgg
  have K := Lib.hid hK
  clear hK
  have q23 := (K.out.cells (⟨w.heap.size, 0, none⟩, .slice A1 xs.length c1) (List.mem_of_getElem? (i := 6) rfl)).2
  have q24 := (K.out.cells (⟨w.heap.size + 1 + 1, 0, none⟩, .slice A3 zs.length c3) (List.mem_of_getElem? (i := 4) rfl)).2
  go_upto_region 6 with (go_at_call 38; refine (Hl1.out _ (K.out.rds (A1, xs) (List.mem_of_getElem? (i := 3) rfl)) (K.out.rds (A3, zs) (List.mem_of_getElem? (i := 1) rfl))).mono ?_; rintro e y26 ⟨A13, c13, rfl, hr, hf, hb⟩; have K25 := Lib.hid (And.intro (K.out.ext hb) hr); clear hr hf hb)
  have hK := K25.out.1.box (A := A13) (c := c13) K25.out.2
  generalize hgW : y26.alloc (.cells #[.slice A13 X.length c13] 26) = W13 at *
  generalize hgg : y26.heap.size = g13 at *
  clear K K25 q23 q24 hgW hgg
  have K := Lib.hid hK
  clear hK
  have q27 := (K.out.cells (⟨w.heap.size, 0, none⟩, .slice A1 xs.length c1) (List.mem_of_getElem? (i := 7) rfl)).2
  have q28 := (K.out.cells (⟨w.heap.size + 1 + 1, 0, none⟩, .slice A3 zs.length c3) (List.mem_of_getElem? (i := 5) rfl)).2
  go_upto_region 7 with (go_at_call 39; refine (Hl2.out _ (K.out.rds (A1, xs) (List.mem_of_getElem? (i := 4) rfl)) (K.out.rds (A3, zs) (List.mem_of_getElem? (i := 2) rfl))).mono ?_; rintro e y30 ⟨A15, c15, rfl, hr, hf, hb⟩; have K29 := Lib.hid (And.intro (K.out.ext hb) hr); clear hr hf hb)
  have hK := (K29.out.1.addRd K29.out.2).two (.slice A15 X.length c15) (.int .i64 E2) 61
  generalize hgW : y30.alloc (.cells #[.slice A15 X.length c15, .int .i64 E2] 61) = W15 at *
  generalize hgg : y30.heap.size = g15 at *
  clear K K29 q27 q28 hgW hgg
  have K := Lib.hid hK
  clear hK
  have q31 := (K.out.cells (⟨w.heap.size + 1 + 1 + 1, 0, none⟩, .slice A4 us.length c4) (List.mem_of_getElem? (i := 6) rfl)).2
  have q32 := (K.out.cells (⟨w.heap.size + 1 + 1, 0, none⟩, .slice A3 zs.length c3) (List.mem_of_getElem? (i := 7) rfl)).2
  go_upto_region 8 with (go_at_call 40; refine (Hb1.out _ (K.out.rds (A4, us) (List.mem_of_getElem? (i := 2) rfl)) (K.out.rds (A3, zs) (List.mem_of_getElem? (i := 3) rfl))).mono ?_; rintro e y34 ⟨A16, c16, rfl, hr, hf, hb⟩; have K33 := Lib.hid (And.intro (K.out.ext hb) hr); clear hr hf hb)
  have hK := K33.out.1.box (A := A16) (c := c16) K33.out.2
  generalize hgW : y34.alloc (.cells #[.slice A16 Y.length c16] 26) = W16 at *
  generalize hgg : y34.heap.size = g16 at *
  clear K K33 q31 q32 hgW hgg
  have K := Lib.hid hK
  clear hK
  have q35 := (K.out.cells (⟨w.heap.size + 1 + 1 + 1, 0, none⟩, .slice A4 us.length c4) (List.mem_of_getElem? (i := 7) rfl)).2
  have q36 := (K.out.cells (⟨w.heap.size + 1 + 1, 0, none⟩, .slice A3 zs.length c3) (List.mem_of_getElem? (i := 8) rfl)).2
  go_upto_region 9 with (go_at_call 41; refine (Hb2.out _ (K.out.rds (A4, us) (List.mem_of_getElem? (i := 3) rfl)) (K.out.rds (A3, zs) (List.mem_of_getElem? (i := 4) rfl))).mono ?_; rintro e y38 ⟨A18, c18, rfl, hr, hf, hb⟩; have K37 := Lib.hid (And.intro (K.out.ext hb) hr); clear hr hf hb)
  have hK := (K37.out.1.addRd K37.out.2).two (.slice A18 Y.length c18) (.int .i64 E3) 61
  generalize hgW : y38.alloc (.cells #[.slice A18 Y.length c18, .int .i64 E3] 61) = W18 at *
  generalize hgg : y38.heap.size = g18 at *
  clear K K37 q35 q36 hgW hgg
  have K := Lib.hid hK
  clear hK
  have q39 := (K.out.cells (⟨w.heap.size + 1 + 1, 0, none⟩, .slice A3 zs.length c3) (List.mem_of_getElem? (i := 10) rfl)).2
  have q40 := (K.out.cells (⟨w.heap.size + 1 + 1 + 1, 0, none⟩, .slice A4 us.length c4) (List.mem_of_getElem? (i := 9) rfl)).2
  go_upto_region 10 with (go_at_call 31; refine (Hf1.out _ (K.out.rds (A3, zs) (List.mem_of_getElem? (i := 5) rfl)) (K.out.rds (A4, us) (List.mem_of_getElem? (i := 4) rfl))).mono ?_; rintro e y42 ⟨A19, c19, rfl, hr, hf, hb⟩; have K41 := Lib.hid (And.intro (K.out.ext hb) hr); clear hr hf hb)
  have hK := K41.out.1.box (A := A19) (c := c19) K41.out.2
  generalize hgW : y42.alloc (.cells #[.slice A19 Z.length c19] 26) = W19 at *
  generalize hgg : y42.heap.size = g19 at *
  clear K K41 q39 q40 hgW hgg
  have K := Lib.hid hK
  clear hK
  have q43 := (K.out.cells (⟨w.heap.size + 1 + 1, 0, none⟩, .slice A3 zs.length c3) (List.mem_of_getElem? (i := 11) rfl)).2
  have q44 := (K.out.cells (⟨w.heap.size + 1 + 1 + 1, 0, none⟩, .slice A4 us.length c4) (List.mem_of_getElem? (i := 10) rfl)).2
  go_upto_region 11 with (go_at_call 42; refine (Hf2.out _ (K.out.rds (A3, zs) (List.mem_of_getElem? (i := 6) rfl)) (K.out.rds (A4, us) (List.mem_of_getElem? (i := 5) rfl))).mono ?_; rintro e y46 ⟨A21, c21, rfl, hr, hf, hb⟩; have K45 := Lib.hid (And.intro (K.out.ext hb) hr); clear hr hf hb)
  have hK := (K45.out.1.addRd K45.out.2).two (.slice A21 Z.length c21) (.int .i64 E4) 61
  generalize hgW : y46.alloc (.cells #[.slice A21 Z.length c21, .int .i64 E4] 61) = W21 at *
  generalize hgg : y46.heap.size = g21 at *
  clear K K45 q43 q44 hgW hgg
  have K := Lib.hid hK
  clear hK
  have q47 := (K.out.cells (⟨w.heap.size, 0, none⟩, .slice A1 xs.length c1) (List.mem_of_getElem? (i := 15) rfl)).2
  have q48 := (K.out.cells (⟨w.heap.size + 1, 0, none⟩, .slice A2 ys.length c2) (List.mem_of_getElem? (i := 14) rfl)).2
  go_upto_region 12 with (go_at_call 43; refine (Hs1.out _ (K.out.rds (A1, xs) (List.mem_of_getElem? (i := 9) rfl)) (K.out.rds (A2, ys) (List.mem_of_getElem? (i := 8) rfl))).mono ?_; rintro e y50 ⟨rfl, hb⟩; have K49 := Lib.hid (K.out.ext hb); clear hb)
  clear K q47 q48
  have K := K49
  clear K49
  have q51 := (K.out.cells (⟨w.heap.size, 0, none⟩, .slice A1 xs.length c1) (List.mem_of_getElem? (i := 15) rfl)).2
  have q52 := (K.out.cells (⟨w.heap.size + 1, 0, none⟩, .slice A2 ys.length c2) (List.mem_of_getElem? (i := 14) rfl)).2
  go_upto_region 13 with (go_at_call 44; refine (Hs2.out _ (K.out.rds (A1, xs) (List.mem_of_getElem? (i := 9) rfl)) (K.out.rds (A2, ys) (List.mem_of_getElem? (i := 8) rfl))).mono ?_; rintro e y54 ⟨rfl, hb⟩; have K53 := Lib.hid (K.out.ext hb); clear hb)
  have hK := K53.out.three (.int .i64 n2) (.int .i64 n3) (.int .i64 E5) 51
  generalize hgW : y54.alloc (.cells #[.int .i64 n2, .int .i64 n3, .int .i64 E5] 51) = W25 at *
  generalize hgg : y54.heap.size = g25 at *
  clear K K53 q51 q52 hgW hgg
  have K := Lib.hid hK
  clear hK
  have q55 := (K.out.cells (⟨w.heap.size, 0, none⟩, .slice A1 xs.length c1) (List.mem_of_getElem? (i := 18) rfl)).2
  have q56 := (K.out.cells (⟨w.heap.size + 1, 0, none⟩, .slice A2 ys.length c2) (List.mem_of_getElem? (i := 17) rfl)).2
  go_upto_region 14 with (go_at_call 45; refine (Hw1.out _ (K.out.rds (A1, xs) (List.mem_of_getElem? (i := 9) rfl)) (K.out.rds (A2, ys) (List.mem_of_getElem? (i := 8) rfl))).mono ?_; rintro e y58 ⟨rfl, hb⟩; have K57 := Lib.hid (K.out.ext hb); clear hb)
  clear K q55 q56
  have K := K57
  clear K57
  have q59 := (K.out.cells (⟨w.heap.size, 0, none⟩, .slice A1 xs.length c1) (List.mem_of_getElem? (i := 18) rfl)).2
  have q60 := (K.out.cells (⟨w.heap.size + 1, 0, none⟩, .slice A2 ys.length c2) (List.mem_of_getElem? (i := 17) rfl)).2
  go_upto_region 15 with (go_at_call 46; refine (Hw2.out _ (K.out.rds (A1, xs) (List.mem_of_getElem? (i := 9) rfl)) (K.out.rds (A2, ys) (List.mem_of_getElem? (i := 8) rfl))).mono ?_; rintro e y62 ⟨rfl, hb⟩; have K61 := Lib.hid (K.out.ext hb); clear hb)
  clear K q59 q60
  have K := K61
  clear K61
  have q63 := (K.out.cells (⟨g12, 0, none⟩, .int .i64 n1) (List.mem_of_getElem? (i := 12) rfl)).2
  have q64 := (K.out.cells (⟨g12, 1, none⟩, .bool B1) (List.mem_of_getElem? (i := 13) rfl)).2
  have q65 := (K.out.cells (⟨g12, 2, none⟩, .int .i64 E1) (List.mem_of_getElem? (i := 14) rfl)).2
  have q66 := (K.out.cells (⟨g13, 0, none⟩, .slice A13 X.length c13) (List.mem_of_getElem? (i := 11) rfl)).2
  have q67 := (K.out.cells (⟨g15, 0, none⟩, .slice A15 X.length c15) (List.mem_of_getElem? (i := 9) rfl)).2
  go_wp2_with (first
    | (go_at_call 19; have _t := K76; clear _t; refine (Same_ex A19 A21 c19 c21 Z _ (K76.out.1.rds (A19, Z) (List.mem_of_getElem? (i := 1) rfl)) (K76.out.1.rds (A21, Z) (List.mem_of_getElem? (i := 0) rfl)) HN.out.2.2).mono ?_; rintro e y81 ⟨rfl, hb⟩; have K80 := Lib.hid (And.intro (K76.out.1.ext hb) (trivial)); have q82 := (K80.out.1.cells (⟨g21, 1, none⟩, .int .i64 E4) (List.mem_of_getElem? (i := 4) rfl)).2; have q83 := (K80.out.1.cells (⟨g25, 0, none⟩, .int .i64 n2) (List.mem_of_getElem? (i := 0) rfl)).2; have q84 := (K80.out.1.cells (⟨g25, 1, none⟩, .int .i64 n3) (List.mem_of_getElem? (i := 1) rfl)).2; have q85 := (K80.out.1.cells (⟨g25, 2, none⟩, .int .i64 E5) (List.mem_of_getElem? (i := 2) rfl)).2; clear hb)
    | (go_at_call 16; have _t := K73; clear _t; refine (sanity_any _).mono ?_; rintro e y77 ⟨rfl, hb⟩; have K76 := Lib.hid (And.intro (K73.out.1.ext hb) (trivial)); have q78 := (K76.out.1.cells (⟨g19, 0, none⟩, .slice A19 Z.length c19) (List.mem_of_getElem? (i := 5) rfl)).2; have q79 := (K76.out.1.cells (⟨g21, 0, none⟩, .slice A21 Z.length c21) (List.mem_of_getElem? (i := 3) rfl)).2; clear hb)
    | (go_at_call 19; have _t := K68; clear _t; refine (Same_ex A16 A18 c16 c18 Y _ (K68.out.1.rds (A16, Y) (List.mem_of_getElem? (i := 3) rfl)) (K68.out.1.rds (A18, Y) (List.mem_of_getElem? (i := 2) rfl)) HN.out.2.1).mono ?_; rintro e y74 ⟨rfl, hb⟩; have K73 := Lib.hid (And.intro (K68.out.1.ext hb) (trivial)); have q75 := (K73.out.1.cells (⟨g18, 1, none⟩, .int .i64 E3) (List.mem_of_getElem? (i := 7) rfl)).2; clear hb)
    | (go_at_call 19; refine (Same_ex A13 A15 c13 c15 X _ (K.out.rds (A13, X) (List.mem_of_getElem? (i := 5) rfl)) (K.out.rds (A15, X) (List.mem_of_getElem? (i := 4) rfl)) HN.out.1).mono ?_; rintro e y69 ⟨rfl, hb⟩; have K68 := Lib.hid (And.intro (K.out.ext hb) (trivial)); have q70 := (K68.out.1.cells (⟨g15, 1, none⟩, .int .i64 E2) (List.mem_of_getElem? (i := 10) rfl)).2; have q71 := (K68.out.1.cells (⟨g16, 0, none⟩, .slice A16 Y.length c16) (List.mem_of_getElem? (i := 8) rfl)).2; have q72 := (K68.out.1.cells (⟨g18, 0, none⟩, .slice A18 Y.length c18) (List.mem_of_getElem? (i := 6) rfl)).2; clear hb))
  go_ret
  exact ⟨ret_bool (by simp), K80.out.1.bl⟩
end Go.Proofs.Ytknkneccnhgjmaa
