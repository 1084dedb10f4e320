/- Walk: the law FloodLeads. -/
import Derived.Test.YtknkneccnhgjmaaL2
namespace Go.Proofs.Ytknkneccnhgjmaa
open Go.RowKit Go.Shelf

theorem few_len {xs : List Int} (h : fewB xs = true) : xs.length ≤ 130 := by
  unfold fewB at h
  simp only [Bool.or_eq_true, Bool.and_eq_true, decide_eq_true_eq] at h
  omega
theorem Lead_yes {A1 A2 : Option Addr} {c1 c2 : Nat} {xs ys : List Int} (h : ok2 xs ys = true) (w : World) (r1 : Rd w w.heap.size A1 xs) (r2 : Rd w w.heap.size A2 ys) (m1 : xs.length ≤ maxLen) (m2 : ys.length ≤ maxLen) :
    Calls Try.prog 21 #[.agg #[.slice A1 xs.length c1], .agg #[.slice A2 ys.length c2]] w fun e w' => RCE w (leadL xs ys) 0 e w' := by
  have := Lead_any A1 A2 c1 c2 xs ys w r1 r2 m1 m2
  rwa [h, pick_t, errB_t] at this
theorem Lead_no {A1 A2 : Option Addr} {c1 c2 : Nat} {xs ys : List Int} (h : ok2 xs ys = false) (w : World) (r1 : Rd w w.heap.size A1 xs) (r2 : Rd w w.heap.size A2 ys) (m1 : xs.length ≤ maxLen) (m2 : ys.length ≤ maxLen) :
    Calls Try.prog 21 #[.agg #[.slice A1 xs.length c1], .agg #[.slice A2 ys.length c2]] w fun e w' => RCE w [] 1 e w' := by
  have := Lead_any A1 A2 c1 c2 xs ys w r1 r2 m1 m2
  rwa [h, pick_f, errB_f] at this
/-- What Join answers: a curve, or no curve and an error. -/
theorem Join_cases (xs ys : List Int) : (ok2 xs ys = true ∧ fitB (joinL xs ys) = true ∧ pick (ok2 xs ys && fitB (joinL xs ys)) (joinL xs ys) = joinL xs ys ∧ (if ok2 xs ys then rngB (joinL xs ys) else 1) = 0) ∨
    ((ok2 xs ys && fitB (joinL xs ys)) = false ∧ pick (ok2 xs ys && fitB (joinL xs ys)) (joinL xs ys) = [] ∧ (if ok2 xs ys then rngB (joinL xs ys) else 1) ≠ 0) := by
  cases h : ok2 xs ys
  · exact .inr ⟨rfl, rfl, by simp⟩
  · cases hf : fitB (joinL xs ys)
    · exact .inr ⟨rfl, rfl, by simp [rngB, hf]⟩
    · exact .inl ⟨rfl, rfl, rfl, by simp [rngB, hf]⟩
theorem check_ok {A : Option Addr} {c : Nat} {xs : List Int} (h : validB xs = true) (w : World) (r : Rd w w.heap.size A xs) (hm : xs.length ≤ maxLen) :
    Calls Try.prog 23 #[.agg #[.slice A xs.length c]] w fun e w' => e = .returned (.int .i64 0) ∧ Below w.heap.size w w' := by
  have := check_any A c xs w r hm
  rwa [h, errB_t] at this

set_option maxRecDepth 100000 in
set_option maxHeartbeats 3200000 in
theorem FloodLeads_row (w : World) (A1 : Option Addr) (c1 : Nat) (xs : List Int) (r1 : Rd w w.heap.size A1 xs) (m1 : xs.length ≤ maxLen) (A2 : Option Addr) (c2 : Nat) (ys : List Int) (r2 : Rd w w.heap.size A2 ys) (m2 : ys.length ≤ maxLen)
    (A3 : Option Addr) (c3 : Nat) (zs : List Int) (r3 : Rd w w.heap.size A3 zs) (m3 : zs.length ≤ maxLen) :
    Calls Try.prog 4 #[.agg #[.slice A1 xs.length c1], .agg #[.slice A2 ys.length c2], .agg #[.slice A3 zs.length c3]] w fun e w' => e = .returned (.bool true) ∧ Below w.heap.size w w' := by
  have hK : Ex w w [] [] := ⟨Below.refl _ _, fun p hp => (by cases hp), fun p hp => (by cases hp)⟩
  have K := Lib.hid (((hK.addRd r1).addRd r2).addRd r3)
  have M1 := Lib.hid m1
  have M2 := Lib.hid m2
  have M3 := Lib.hid m3
  clear hK r1 r2 r3 m1 m2 m3
  cases hf0 : fewB xs with
  | false =>
    have F0 := Lib.hid hf0
    clear hf0
    go_enter Try.func4, Try.ntmps4
    go_upto_region 1 with fail
    have hK := (((K.out.one (.slice A1 xs.length c1) 26).one (.slice A2 ys.length c2) 26).one (.slice A3 zs.length c3) 26)
    simp only [World.size_alloc] at hK
    generalize hgW : ((w.alloc (.cells #[.slice A1 xs.length c1] 26)).alloc (.cells #[.slice A2 ys.length c2] 26)).alloc (.cells #[.slice A3 zs.length c3] 26) = W0 at *
    clear K hgW
    have K := Lib.hid hK
    clear hK
    have q1 := (K.out.cells (⟨w.heap.size, 0, none⟩, .slice A1 xs.length c1) (List.mem_of_getElem? (i := 2) rfl)).2
    go_wp2_with (first
      | (go_at_call 16; have _t := K2; clear _t; refine (sanity_any _).mono ?_; rintro e y6 ⟨rfl, hb⟩; have K5 := Lib.hid (And.intro (K2.out.1.ext hb) (trivial)); clear hb)
      | (go_at_call 20; refine (few_any A1 c1 xs _ M1.out).mono ?_; rw [F0.out]; rintro e y3 ⟨rfl, hb⟩; have K2 := Lib.hid (And.intro (K.out.ext hb) (trivial)); have q4 := (K2.out.1.cells (⟨w.heap.size + 1, 0, none⟩, .slice A2 ys.length c2) (List.mem_of_getElem? (i := 1) rfl)).2; clear hb))
    go_ret
    exact ⟨rfl, K5.out.1.bl⟩
  | true =>
  have F0 := Lib.hid hf0
  clear hf0
  cases hf1 : fewB ys with
  | false =>
    have F1 := Lib.hid hf1
    clear hf1
    go_enter Try.func4, Try.ntmps4
    go_upto_region 1 with fail
    have hK := (((K.out.one (.slice A1 xs.length c1) 26).one (.slice A2 ys.length c2) 26).one (.slice A3 zs.length c3) 26)
    simp only [World.size_alloc] at hK
    generalize hgW : ((w.alloc (.cells #[.slice A1 xs.length c1] 26)).alloc (.cells #[.slice A2 ys.length c2] 26)).alloc (.cells #[.slice A3 zs.length c3] 26) = W0 at *
    clear K hgW
    have K := Lib.hid hK
    clear hK
    have q1 := (K.out.cells (⟨w.heap.size, 0, none⟩, .slice A1 xs.length c1) (List.mem_of_getElem? (i := 2) rfl)).2
    go_wp2_with (first
      | (go_at_call 16; have _t := K5; clear _t; refine (sanity_any _).mono ?_; rintro e y9 ⟨rfl, hb⟩; have K8 := Lib.hid (And.intro (K5.out.1.ext hb) (trivial)); clear hb)
      | (go_at_call 20; have _t := K2; clear _t; refine (few_any A2 c2 ys _ M2.out).mono ?_; rw [F1.out]; rintro e y6 ⟨rfl, hb⟩; have K5 := Lib.hid (And.intro (K2.out.1.ext hb) (trivial)); have q7 := (K5.out.1.cells (⟨w.heap.size + 1 + 1, 0, none⟩, .slice A3 zs.length c3) (List.mem_of_getElem? (i := 0) rfl)).2; clear hb)
      | (go_at_call 20; refine (few_any A1 c1 xs _ M1.out).mono ?_; rw [F0.out]; rintro e y3 ⟨rfl, hb⟩; have K2 := Lib.hid (And.intro (K.out.ext hb) (trivial)); have q4 := (K2.out.1.cells (⟨w.heap.size + 1, 0, none⟩, .slice A2 ys.length c2) (List.mem_of_getElem? (i := 1) rfl)).2; clear hb))
    go_ret
    exact ⟨rfl, K8.out.1.bl⟩
  | true =>
  have F1 := Lib.hid hf1
  clear hf1
  cases hf2 : fewB zs with
  | false =>
    have F2 := Lib.hid hf2
    clear hf2
    go_enter Try.func4, Try.ntmps4
    go_upto_region 1 with fail
    have hK := (((K.out.one (.slice A1 xs.length c1) 26).one (.slice A2 ys.length c2) 26).one (.slice A3 zs.length c3) 26)
    simp only [World.size_alloc] at hK
    generalize hgW : ((w.alloc (.cells #[.slice A1 xs.length c1] 26)).alloc (.cells #[.slice A2 ys.length c2] 26)).alloc (.cells #[.slice A3 zs.length c3] 26) = W0 at *
    clear K hgW
    have K := Lib.hid hK
    clear hK
    have q1 := (K.out.cells (⟨w.heap.size, 0, none⟩, .slice A1 xs.length c1) (List.mem_of_getElem? (i := 2) rfl)).2
    go_wp2_with (first
      | (go_at_call 16; have _t := K8; clear _t; refine (sanity_any _).mono ?_; rintro e y11 ⟨rfl, hb⟩; have K10 := Lib.hid (And.intro (K8.out.1.ext hb) (trivial)); clear hb)
      | (go_at_call 20; have _t := K5; clear _t; refine (few_any A3 c3 zs _ M3.out).mono ?_; rw [F2.out]; rintro e y9 ⟨rfl, hb⟩; have K8 := Lib.hid (And.intro (K5.out.1.ext hb) (trivial)); clear hb)
      | (go_at_call 20; have _t := K2; clear _t; refine (few_any A2 c2 ys _ M2.out).mono ?_; rw [F1.out]; rintro e y6 ⟨rfl, hb⟩; have K5 := Lib.hid (And.intro (K2.out.1.ext hb) (trivial)); have q7 := (K5.out.1.cells (⟨w.heap.size + 1 + 1, 0, none⟩, .slice A3 zs.length c3) (List.mem_of_getElem? (i := 0) rfl)).2; clear hb)
      | (go_at_call 20; refine (few_any A1 c1 xs _ M1.out).mono ?_; rw [F0.out]; rintro e y3 ⟨rfl, hb⟩; have K2 := Lib.hid (And.intro (K.out.ext hb) (trivial)); have q4 := (K2.out.1.cells (⟨w.heap.size + 1, 0, none⟩, .slice A2 ys.length c2) (List.mem_of_getElem? (i := 1) rfl)).2; clear hb))
    go_ret
    exact ⟨rfl, K10.out.1.bl⟩
  | true =>
  have F2 := Lib.hid hf2
  clear hf2
  cases ho : ok2 xs ys with
  | false =>
    have HL := Lib.hid (fun W r1 r2 => Lead_no (A1 := A1) (A2 := A2) (c1 := c1) (c2 := c2) ho W r1 r2 M1.out M2.out)
    have HJ := Lib.hid (fun W r1 r2 => Join_any A3 A2 c3 c2 zs ys W r1 r2 M3.out M2.out)
    generalize pick (ok2 zs ys && fitB (joinL zs ys)) (joinL zs ys) = J at *
    generalize (if ok2 zs ys then rngB (joinL zs ys) else 1) = I at *
    clear ho
    go_enter Try.func4, Try.ntmps4
    go_upto_region 1 with fail
    have hK := (((K.out.one (.slice A1 xs.length c1) 26).one (.slice A2 ys.length c2) 26).one (.slice A3 zs.length c3) 26)
    simp only [World.size_alloc] at hK
    generalize hgW : ((w.alloc (.cells #[.slice A1 xs.length c1] 26)).alloc (.cells #[.slice A2 ys.length c2] 26)).alloc (.cells #[.slice A3 zs.length c3] 26) = W0 at *
    clear K hgW
    have K := Lib.hid hK
    clear hK
    have q1 := (K.out.cells (⟨w.heap.size, 0, none⟩, .slice A1 xs.length c1) (List.mem_of_getElem? (i := 2) rfl)).2
    go_upto_region 3 with (first
      | (go_at_call 20; have _t := K5; clear _t; refine (few_any A3 c3 zs _ M3.out).mono ?_; rw [F2.out]; rintro e y9 ⟨rfl, hb⟩; have K8 := Lib.hid (And.intro (K5.out.1.ext hb) (trivial)); clear hb)
      | (go_at_call 20; have _t := K2; clear _t; refine (few_any A2 c2 ys _ M2.out).mono ?_; rw [F1.out]; rintro e y6 ⟨rfl, hb⟩; have K5 := Lib.hid (And.intro (K2.out.1.ext hb) (trivial)); have q7 := (K5.out.1.cells (⟨w.heap.size + 1 + 1, 0, none⟩, .slice A3 zs.length c3) (List.mem_of_getElem? (i := 0) rfl)).2; clear hb)
      | (go_at_call 20; refine (few_any A1 c1 xs _ M1.out).mono ?_; rw [F0.out]; rintro e y3 ⟨rfl, hb⟩; have K2 := Lib.hid (And.intro (K.out.ext hb) (trivial)); have q4 := (K2.out.1.cells (⟨w.heap.size + 1, 0, none⟩, .slice A2 ys.length c2) (List.mem_of_getElem? (i := 1) rfl)).2; clear hb))
    have hK := K8.out.1
    generalize hgW : y9 = W1 at *
    clear K hgW 
    have K := Lib.hid hK
    clear hK
    have q10 := (K.out.cells (⟨w.heap.size, 0, none⟩, .slice A1 xs.length c1) (List.mem_of_getElem? (i := 2) rfl)).2
    have q11 := (K.out.cells (⟨w.heap.size + 1, 0, none⟩, .slice A2 ys.length c2) (List.mem_of_getElem? (i := 1) rfl)).2
    go_upto_region 4 with (go_at_call 21; refine (HL.out _ (K.out.rds (A1, xs) (List.mem_of_getElem? (i := 2) rfl)) (K.out.rds (A2, ys) (List.mem_of_getElem? (i := 1) rfl))).mono ?_; rintro e y13 ⟨A7, c7, rfl, hr, hf, hb⟩; have K12 := Lib.hid (And.intro (K.out.ext hb) hr); clear hr hf hb)
    have hK := K12.out.1.box (A := A7) (c := c7) K12.out.2
    generalize hgW : y13.alloc (.cells #[.slice A7 ([] : List Int).length c7] 26) = W7 at *
    generalize hgg : y13.heap.size = g7 at *
    clear K K12 q10 q11 hgW hgg
    have K := Lib.hid hK
    clear hK
    have q14 := (K.out.cells (⟨w.heap.size + 1 + 1, 0, none⟩, .slice A3 zs.length c3) (List.mem_of_getElem? (i := 1) rfl)).2
    have q15 := (K.out.cells (⟨w.heap.size + 1, 0, none⟩, .slice A2 ys.length c2) (List.mem_of_getElem? (i := 2) rfl)).2
    go_upto_region 5 with (go_at_call 22; refine (HJ.out _ (K.out.rds (A3, zs) (List.mem_of_getElem? (i := 1) rfl)) (K.out.rds (A2, ys) (List.mem_of_getElem? (i := 2) rfl))).mono ?_; rintro e y17 ⟨A8, c8, rfl, hr, hf, hb⟩; have K16 := Lib.hid (And.intro (K.out.ext hb) hr); clear hr hf hb)
    have hK := K16.out.1.box (A := A8) (c := c8) K16.out.2
    generalize hgW : y17.alloc (.cells #[.slice A8 J.length c8] 26) = W8 at *
    generalize hgg : y17.heap.size = g8 at *
    clear K K16 q14 q15 hgW hgg
    have K := Lib.hid hK
    clear hK
    go_wp2_with (go_at_call 16; refine (sanity_any _).mono ?_; rintro e y19 ⟨rfl, hb⟩; have K18 := Lib.hid (And.intro (K.out.ext hb) (trivial)); clear hb)
    go_ret
    exact ⟨rfl, K18.out.1.bl⟩
  | true =>
  have HL := Lib.hid (fun W r1 r2 => Lead_yes (A1 := A1) (A2 := A2) (c1 := c1) (c2 := c2) ho W r1 r2 M1.out M2.out)
  have HJ := Lib.hid (fun W r1 r2 => Join_any A3 A2 c3 c2 zs ys W r1 r2 M3.out M2.out)
  rcases Join_cases zs ys with ⟨hj, hfit, e1, e2⟩ | ⟨_, e1, e2⟩
  · rw [e1, e2] at HJ
    have ⟨v1, v2, h21⟩ := ok2_iff.1 ho
    have ⟨v3, _, h23⟩ := ok2_iff.1 hj
    have hl13 : zs.length = xs.length := by omega
    have hlen : ((xs.length : Int) != (zs.length : Int)) = false := by rw [hl13]; simp
    have HV := Lib.hid (leadL_valid v1 v2 h21)
    have HQ := Lib.hid (leads_law (xs := xs) v3 h21 hl13)
    have HN := Lib.hid (And.intro v1.2.1 (And.intro v3.2.1 (And.intro (show (joinL zs ys).length ≤ 1000 by rw [joinL_length]; have := v3.2.1; omega) (show (leadL xs ys).length ≤ 1000 by rw [leadL_length]; have := v1.2.1; omega))))
    have HNm := Lib.hid (show (leadL xs ys).length ≤ maxLen by rw [leadL_length]; exact M1.out)
    clear ho hj hfit e1 e2 v1 v2 v3 h21 h23 hl13
    go_enter Try.func4, Try.ntmps4
    go_upto_region 1 with fail
    have hK := (((K.out.one (.slice A1 xs.length c1) 26).one (.slice A2 ys.length c2) 26).one (.slice A3 zs.length c3) 26)
    simp only [World.size_alloc] at hK
    generalize hgW : ((w.alloc (.cells #[.slice A1 xs.length c1] 26)).alloc (.cells #[.slice A2 ys.length c2] 26)).alloc (.cells #[.slice A3 zs.length c3] 26) = W0 at *
    clear K hgW
    have K := Lib.hid hK
    clear hK
    have q1 := (K.out.cells (⟨w.heap.size, 0, none⟩, .slice A1 xs.length c1) (List.mem_of_getElem? (i := 2) rfl)).2
    go_upto_region 3 with (first
      | (go_at_call 20; have _t := K5; clear _t; refine (few_any A3 c3 zs _ M3.out).mono ?_; rw [F2.out]; rintro e y9 ⟨rfl, hb⟩; have K8 := Lib.hid (And.intro (K5.out.1.ext hb) (trivial)); clear hb)
      | (go_at_call 20; have _t := K2; clear _t; refine (few_any A2 c2 ys _ M2.out).mono ?_; rw [F1.out]; rintro e y6 ⟨rfl, hb⟩; have K5 := Lib.hid (And.intro (K2.out.1.ext hb) (trivial)); have q7 := (K5.out.1.cells (⟨w.heap.size + 1 + 1, 0, none⟩, .slice A3 zs.length c3) (List.mem_of_getElem? (i := 0) rfl)).2; clear hb)
      | (go_at_call 20; refine (few_any A1 c1 xs _ M1.out).mono ?_; rw [F0.out]; rintro e y3 ⟨rfl, hb⟩; have K2 := Lib.hid (And.intro (K.out.ext hb) (trivial)); have q4 := (K2.out.1.cells (⟨w.heap.size + 1, 0, none⟩, .slice A2 ys.length c2) (List.mem_of_getElem? (i := 1) rfl)).2; clear hb))
    have hK := K8.out.1
    generalize hgW : y9 = W1 at *
    clear K hgW 
    have K := Lib.hid hK
    clear hK
    have q10 := (K.out.cells (⟨w.heap.size, 0, none⟩, .slice A1 xs.length c1) (List.mem_of_getElem? (i := 2) rfl)).2
    have q11 := (K.out.cells (⟨w.heap.size + 1, 0, none⟩, .slice A2 ys.length c2) (List.mem_of_getElem? (i := 1) rfl)).2
    go_upto_region 4 with (go_at_call 21; refine (HL.out _ (K.out.rds (A1, xs) (List.mem_of_getElem? (i := 2) rfl)) (K.out.rds (A2, ys) (List.mem_of_getElem? (i := 1) rfl))).mono ?_; rintro e y13 ⟨A7, c7, rfl, hr, hf, hb⟩; have K12 := Lib.hid (And.intro (K.out.ext hb) hr); clear hr hf hb)
    have hK := K12.out.1.box (A := A7) (c := c7) K12.out.2
    generalize hgW : y13.alloc (.cells #[.slice A7 (leadL xs ys).length c7] 26) = W7 at *
    generalize hgg : y13.heap.size = g7 at *
    clear K K12 q10 q11 hgW hgg
    have K := Lib.hid hK
    clear hK
    have q14 := (K.out.cells (⟨w.heap.size + 1 + 1, 0, none⟩, .slice A3 zs.length c3) (List.mem_of_getElem? (i := 1) rfl)).2
    have q15 := (K.out.cells (⟨w.heap.size + 1, 0, none⟩, .slice A2 ys.length c2) (List.mem_of_getElem? (i := 2) rfl)).2
    go_upto_region 5 with (go_at_call 22; refine (HJ.out _ (K.out.rds (A3, zs) (List.mem_of_getElem? (i := 1) rfl)) (K.out.rds (A2, ys) (List.mem_of_getElem? (i := 2) rfl))).mono ?_; rintro e y17 ⟨A8, c8, rfl, hr, hf, hb⟩; have K16 := Lib.hid (And.intro (K.out.ext hb) hr); clear hr hf hb)
    have hK := K16.out.1.box (A := A8) (c := c8) K16.out.2
    generalize hgW : y17.alloc (.cells #[.slice A8 (joinL zs ys).length c8] 26) = W8 at *
    generalize hgg : y17.heap.size = g8 at *
    clear K K16 q14 q15 hgW hgg
    have K := Lib.hid hK
    clear hK
    have q18 := (K.out.cells (⟨w.heap.size, 0, none⟩, .slice A1 xs.length c1) (List.mem_of_getElem? (i := 4) rfl)).2
    have q19 := (K.out.cells (⟨w.heap.size + 1 + 1, 0, none⟩, .slice A3 zs.length c3) (List.mem_of_getElem? (i := 2) rfl)).2
    go_upto_region 7 with fail
    clear q18 q19
    have q20 := (K.out.cells (⟨g7, 0, none⟩, .slice A7 (leadL xs ys).length c7) (List.mem_of_getElem? (i := 1) rfl)).2
    go_upto_region 9 with (go_at_call 23; refine (check_ok ((validB_iff _).2 HV.out) _ (K.out.rds (A7, (leadL xs ys)) (List.mem_of_getElem? (i := 1) rfl)) HNm.out).mono ?_; rintro e y22 ⟨rfl, hb⟩; have K21 := Lib.hid (And.intro (K.out.ext hb) (trivial)); clear hb)
    have hK := K21.out.1
    clear K q20
    have K := Lib.hid hK
    clear hK
    obtain ⟨l23, q24⟩ := (K.out.cells (⟨w.heap.size, 0, none⟩, .slice A1 xs.length c1) (List.mem_of_getElem? (i := 4) rfl))
    dsimp only at l23 q24
    obtain ⟨l25, q26⟩ := (K.out.cells (⟨w.heap.size + 1 + 1, 0, none⟩, .slice A3 zs.length c3) (List.mem_of_getElem? (i := 2) rfl))
    dsimp only at l25 q26
    obtain ⟨l27, q28⟩ := (K.out.cells (⟨g7, 0, none⟩, .slice A7 (leadL xs ys).length c7) (List.mem_of_getElem? (i := 1) rfl))
    dsimp only at l27 q28
    obtain ⟨l29, q30⟩ := (K.out.cells (⟨g8, 0, none⟩, .slice A8 (joinL zs ys).length c8) (List.mem_of_getElem? (i := 0) rfl))
    dsimp only at l29 q30
    refine wp_region_ext (by kernel_rfl) (by kernel_rfl) ?_
    intro ι _ X hX hC
    have rX := fun k => (bcell (hX k)).1
    repeat (first | go_big_quiet_skip | (go_big_quiet_want; go_big_quiet_op; first | go_big_quiet_on | (apply Exists.intro; refine ⟨fun _ => ?_, ?_⟩; (focus ((first | (go_at_call 16; with_reducible exact Calls.ext_of hX hC (sanity_any _)) | (go_at_call 24; with_reducible exact Calls.ext_of hX hC (atMost_any A1 A8 c1 c8 xs (joinL zs ys) _ ((K.out.rds (A1, xs) (List.mem_of_getElem? (i := 4) rfl)).ext (hX _)) ((K.out.rds (A8, (joinL zs ys)) (List.mem_of_getElem? (i := 0) rfl)).ext (hX _)) (by have := HN.out.1; omega) HN.out.2.2.1)) | (go_at_call 24; with_reducible exact Calls.ext_of hX hC (atMost_any A7 A3 c7 c3 (leadL xs ys) zs _ ((K.out.rds (A7, (leadL xs ys)) (List.mem_of_getElem? (i := 1) rfl)).ext (hX _)) ((K.out.rds (A3, zs) (List.mem_of_getElem? (i := 2) rfl)).ext (hX _)) HN.out.2.2.2 (by have := HN.out.2.1; omega)))))); go_big_quiet_on)))
    refine wpQuiet_nil ?_
    intro w1 hb1
    clear rX hX hC
    go_wp2
    go_ret
    exact ⟨ret_bool (by rw [HQ.out]; simp), (K.out.ext hb1).bl⟩
  · have HE := Lib.hid e2
    rw [e1] at HJ
    clear e1 e2 ho
    generalize (if ok2 zs ys then rngB (joinL zs ys) else 1) = I at *
    have hne : (I != 0) = true := by simpa using HE.out
    go_enter Try.func4, Try.ntmps4
    go_upto_region 1 with fail
    have hK := (((K.out.one (.slice A1 xs.length c1) 26).one (.slice A2 ys.length c2) 26).one (.slice A3 zs.length c3) 26)
    simp only [World.size_alloc] at hK
    generalize hgW : ((w.alloc (.cells #[.slice A1 xs.length c1] 26)).alloc (.cells #[.slice A2 ys.length c2] 26)).alloc (.cells #[.slice A3 zs.length c3] 26) = W0 at *
    clear K hgW
    have K := Lib.hid hK
    clear hK
    have q1 := (K.out.cells (⟨w.heap.size, 0, none⟩, .slice A1 xs.length c1) (List.mem_of_getElem? (i := 2) rfl)).2
    go_upto_region 3 with (first
      | (go_at_call 20; have _t := K5; clear _t; refine (few_any A3 c3 zs _ M3.out).mono ?_; rw [F2.out]; rintro e y9 ⟨rfl, hb⟩; have K8 := Lib.hid (And.intro (K5.out.1.ext hb) (trivial)); clear hb)
      | (go_at_call 20; have _t := K2; clear _t; refine (few_any A2 c2 ys _ M2.out).mono ?_; rw [F1.out]; rintro e y6 ⟨rfl, hb⟩; have K5 := Lib.hid (And.intro (K2.out.1.ext hb) (trivial)); have q7 := (K5.out.1.cells (⟨w.heap.size + 1 + 1, 0, none⟩, .slice A3 zs.length c3) (List.mem_of_getElem? (i := 0) rfl)).2; clear hb)
      | (go_at_call 20; refine (few_any A1 c1 xs _ M1.out).mono ?_; rw [F0.out]; rintro e y3 ⟨rfl, hb⟩; have K2 := Lib.hid (And.intro (K.out.ext hb) (trivial)); have q4 := (K2.out.1.cells (⟨w.heap.size + 1, 0, none⟩, .slice A2 ys.length c2) (List.mem_of_getElem? (i := 1) rfl)).2; clear hb))
    have hK := K8.out.1
    generalize hgW : y9 = W1 at *
    clear K hgW 
    have K := Lib.hid hK
    clear hK
    have q10 := (K.out.cells (⟨w.heap.size, 0, none⟩, .slice A1 xs.length c1) (List.mem_of_getElem? (i := 2) rfl)).2
    have q11 := (K.out.cells (⟨w.heap.size + 1, 0, none⟩, .slice A2 ys.length c2) (List.mem_of_getElem? (i := 1) rfl)).2
    go_upto_region 4 with (go_at_call 21; refine (HL.out _ (K.out.rds (A1, xs) (List.mem_of_getElem? (i := 2) rfl)) (K.out.rds (A2, ys) (List.mem_of_getElem? (i := 1) rfl))).mono ?_; rintro e y13 ⟨A7, c7, rfl, hr, hf, hb⟩; have K12 := Lib.hid (And.intro (K.out.ext hb) hr); clear hr hf hb)
    have hK := K12.out.1.box (A := A7) (c := c7) K12.out.2
    generalize hgW : y13.alloc (.cells #[.slice A7 (leadL xs ys).length c7] 26) = W7 at *
    generalize hgg : y13.heap.size = g7 at *
    clear K K12 q10 q11 hgW hgg
    have K := Lib.hid hK
    clear hK
    have q14 := (K.out.cells (⟨w.heap.size + 1 + 1, 0, none⟩, .slice A3 zs.length c3) (List.mem_of_getElem? (i := 1) rfl)).2
    have q15 := (K.out.cells (⟨w.heap.size + 1, 0, none⟩, .slice A2 ys.length c2) (List.mem_of_getElem? (i := 2) rfl)).2
    go_upto_region 5 with (go_at_call 22; refine (HJ.out _ (K.out.rds (A3, zs) (List.mem_of_getElem? (i := 1) rfl)) (K.out.rds (A2, ys) (List.mem_of_getElem? (i := 2) rfl))).mono ?_; rintro e y17 ⟨A8, c8, rfl, hr, hf, hb⟩; have K16 := Lib.hid (And.intro (K.out.ext hb) hr); clear hr hf hb)
    have hK := K16.out.1.box (A := A8) (c := c8) K16.out.2
    generalize hgW : y17.alloc (.cells #[.slice A8 ([] : List Int).length c8] 26) = W8 at *
    generalize hgg : y17.heap.size = g8 at *
    clear K K16 q14 q15 hgW hgg
    have K := Lib.hid hK
    clear hK
    go_wp2_with (go_at_call 16; refine (sanity_any _).mono ?_; rintro e y19 ⟨rfl, hb⟩; have K18 := Lib.hid (And.intro (K.out.ext hb) (trivial)); clear hb)
    go_ret
    exact ⟨rfl, K18.out.1.bl⟩
end Go.Proofs.Ytknkneccnhgjmaa
