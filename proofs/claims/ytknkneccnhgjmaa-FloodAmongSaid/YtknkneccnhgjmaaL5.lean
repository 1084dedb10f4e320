/- Walk: the law FloodAmong. -/
import Derived.Test.YtknkneccnhgjmaaL4
import Derived.Test.YtknkneccnhgjmaaL3
namespace Go.Proofs.Ytknkneccnhgjmaa
open Go.RowKit Go.Shelf

theorem wrap64_of {x : Int} (h1 : -9223372036854775808 ≤ x) (h2 : x ≤ 9223372036854775807) : wrap64 x = x := by
  unfold wrap64
  omega

set_option maxRecDepth 100000 in
set_option maxHeartbeats 8000000 in
theorem FloodAmong_row (w : World) (A1 : Option Addr) (c1 : Nat) (l : List Sv) (r1 : RdS w w.heap.size A1 l) (m1 : l.length ≤ maxLen) (last : Int) (wl : (Lit.int .i64 last).wf = true)
    (A3 : Option Addr) (c3 : Nat) (zs : List Int) (r3 : Rd w w.heap.size A3 zs) (m3 : zs.length ≤ maxLen) :
    Calls Try.prog 5 #[.slice A1 l.length c1, .int .i64 last, .agg #[.slice A3 zs.length c3]] w fun e w' => e = .returned (.bool true) ∧ Below w.heap.size w w' := by
  have hK : Ex w w [] [] := ⟨Below.refl _ _, fun p hp => (by cases hp), fun p hp => (by cases hp)⟩
  have K := Lib.hid (hK.addRd r3)
  have M3 := Lib.hid m3
  have RL := Lib.hid r1
  have M1 := Lib.hid m1
  clear hK r3 m3 r1
  unfold maxLen at m1
  by_cases h60 : 60 < l.length
  · have z1 : (60 : Int) < (l.length : Int) := by omega
    clear h60 K RL M1
    go_enter Try.func5, Try.ntmps5
    go_wp2_with (go_at_call 16; refine (sanity_any _).mono ?_; rintro e w1 ⟨rfl, hb⟩)
    go_ret
    exact ⟨rfl, ((Below.refl _ w).alloc (Nat.le_refl _) _).trans (hb.mono (by simp))⟩
  have z1 : ¬ (60 : Int) < (l.length : Int) := by omega
  have L60 := Lib.hid (Nat.not_lt.1 h60)
  clear h60 m1
  cases hf : fewB zs with
  | false =>
    have F0 := Lib.hid hf
    clear hf
    go_enter Try.func5, Try.ntmps5
    go_upto_region 1 with fail
    have hK := (K.out.one (.slice A3 zs.length c3) 26)
    generalize hgW : w.alloc (.cells #[.slice A3 zs.length c3] 26) = W0 at *
    clear K hgW
    have K := Lib.hid hK
    clear hK
    have q1 := (K.out.cells (⟨w.heap.size, 0, none⟩, .slice A3 zs.length c3) (List.mem_of_getElem? (i := 0) rfl)).2
    go_wp2_with (first
      | (go_at_call 16; have _t := K2; clear _t; refine (sanity_any _).mono ?_; rintro e y5 ⟨rfl, hb⟩; have K4 := Lib.hid (And.intro (K2.out.1.ext hb) (trivial)); clear hb)
      | (go_at_call 20; refine (few_any A3 c3 zs _ M3.out).mono ?_; rw [F0.out]; rintro e y3 ⟨rfl, hb⟩; have K2 := Lib.hid (And.intro (K.out.ext hb) (trivial)); clear hb))
    go_ret
    exact ⟨rfl, K4.out.1.bl⟩
  | true =>
  have F0 := Lib.hid hf
  clear hf
  have hE := betE_right (l := l) (last := last)
  have hB := fun W (hr : RdS W W.heap.size A1 l) => Between_any A1 c1 l last W hr M1.out
  have HK0 := Lib.hid (And.intro (among_ok (l := l) (last := last)) (And.intro (fun xs => among_clash (l := l) (last := last) (xs := xs)) hE))
  have hX : (pick (decide (betE l last = 0)) (loL l (last.toNat + 1))) = if betE l last = 0 then loL l (last.toNat + 1) else [] := by
    by_cases h : betE l last = 0 <;> simp [h, pick]
  have hY : (pick (decide (betE l last = 0)) (hiL l (last.toNat + 1))) = if betE l last = 0 then hiL l (last.toNat + 1) else [] := by
    by_cases h : betE l last = 0 <;> simp [h, pick]
  rw [hX, hY] at hB
  clear hX hY hE
  generalize hEg : betE l last = E at *

  have WL := Lib.hid wl
  clear wl
  by_cases h0 : E = 0
  · rw [if_pos h0, if_pos h0, h0] at hB
    obtain ⟨vX, vY, fX, fY⟩ := HK0.out.1 h0
    have hwl := HK0.out.2.2 (.inl h0)
    have WLast := Lib.hid (fun (h : (zs.length : Int) = wrap64 (last + 1)) => h.trans (wrap64_of (by omega) (by omega)))
    have hA := fun (xs : List Int) (v : Valid xs) (hl : (xs.length : Int) = last + 1) (hf : Fits l xs) => among_lies v hf
    have hA2 : ∀ xs : List Int, Valid xs → (xs.length : Int) = last + 1 → Fits l xs → atMostB (loL l (last.toNat + 1)) xs = true ∧ atMostB xs (hiL l (last.toNat + 1)) = true := fun xs v hl hf => by
      rw [show last.toNat + 1 = xs.length by omega]
      exact ⟨atMostB_iff.2 (among_lies v hf).1, atMostB_iff.2 (among_lies v hf).2⟩
    have hn : (((loL l (last.toNat + 1)).length : Int) != wrap64 (last + 1)) = false := by
      rw [loL_length, wrap64_of (by omega) (by omega)]
      simp
      omega
    have hx1 : (loL l (last.toNat + 1)).length ≤ maxLen := by rw [loL_length]; unfold maxLen; omega
    have hx2 : (hiL l (last.toNat + 1)).length ≤ maxLen := by rw [hiL_length]; unfold maxLen; omega
    clear hA hwl hEg HK0
    generalize loL l (last.toNat + 1) = X at *
    generalize hiL l (last.toNat + 1) = Y at *
    have HX := Lib.hid (And.intro vX (And.intro vY (And.intro (fitsB_iff.2 fX) (And.intro (fitsB_iff.2 fY) (And.intro hx1 (And.intro hx2 trivial))))))
    have HA := Lib.hid hA2
    have HB := Lib.hid hB
    clear vX vY fX fY hx1 hx2 hA2 hB h0
    cases hv : validB zs with
    | false =>
      have hc := fun W (r : Rd W W.heap.size A3 zs) => check_any A3 c3 zs W r M3.out
      rw [hv, errB_f] at hc
      have HC := Lib.hid hc
      clear hc hv
      go_enter Try.func5, Try.ntmps5
      go_upto_region 1 with fail
      have hK := (K.out.one (.slice A3 zs.length c3) 26)
      generalize hgW : w.alloc (.cells #[.slice A3 zs.length c3] 26) = W0 at *
      clear K hgW
      have K := Lib.hid hK
      clear hK
      have q1 := (K.out.cells (⟨w.heap.size, 0, none⟩, .slice A3 zs.length c3) (List.mem_of_getElem? (i := 0) rfl)).2
      go_upto_region 3 with (go_at_call 20; refine (few_any A3 c3 zs _ M3.out).mono ?_; rw [F0.out]; rintro e y3 ⟨rfl, hb⟩; have K2 := Lib.hid (And.intro (K.out.ext hb) (trivial)); clear hb)
      have hK := K2.out.1
      have hS := RL.out.ext K2.out.1.bl
      generalize hgW : y3 = W1 at *
      clear K K2 hgW q1
      have K := Lib.hid (And.intro hK hS)
      clear hK hS
      go_upto_region 4 with (go_at_call 17; refine (HB.out _ K.out.2).mono ?_; rintro e y4 ⟨A7, c7, A8, c8, rfl, hr, hr', hb⟩; have K5 := Lib.hid (And.intro (K.out.1.ext hb) (And.intro hr (And.intro hr' (K.out.2.ext hb)))); clear hr hr' hb)
      have hK := (K5.out.1.box (A := A7) (c := c7) K5.out.2.1).box (A := A8) (c := c8) (K5.out.2.2.1.ext ((Below.refl _ y4).alloc (Nat.le_refl _) _))
      have hS := K5.out.2.2.2.ext (((Below.refl _ y4).alloc (Nat.le_refl _) (.cells #[.slice A7 X.length c7] 26)).alloc (by simp) (.cells #[.slice A8 Y.length c8] 26))
      rw [World.size_alloc] at hK
      generalize hgW : (y4.alloc (.cells #[.slice A7 X.length c7] 26)).alloc (.cells #[.slice A8 Y.length c8] 26) = W3 at *
      generalize hgg : y4.heap.size = g7 at *
      clear K K5 hgW hgg
      have K := Lib.hid hK
      have S := Lib.hid hS
      clear hK hS
      have q6 := (K.out.cells (⟨w.heap.size, 0, none⟩, .slice A3 zs.length c3) (List.mem_of_getElem? (i := 2) rfl)).2
      go_upto_region 5 with (go_at_call 23; refine (HC.out _ (K.out.rds (A3, zs) (List.mem_of_getElem? (i := 2) rfl))).mono ?_; rintro e y8 ⟨rfl, hb⟩; have K7 := Lib.hid (And.intro (K.out.ext hb) (trivial)); clear hb)
      have hK := K7.out.1
      clear K K7  q6
      have K := Lib.hid hK
      clear hK
      have q9 := (K.out.cells (⟨g7, 0, none⟩, .slice A7 X.length c7) (List.mem_of_getElem? (i := 1) rfl)).2
      go_upto_region 9 with (first
        | (go_at_call 25; have _t := K16; clear _t; refine (fits_any A1 A8 c1 c8 l Y _ (RL.out.ext K16.out.1.bl) (K16.out.1.rds (A8, Y) (List.mem_of_getElem? (i := 0) rfl)) (by have := L60.out; omega) (by have := HX.out.2.1.2.1; omega)).mono ?_; rw [HX.out.2.2.2.1]; rintro e y20 ⟨rfl, hb⟩; have K19 := Lib.hid (And.intro (K16.out.1.ext hb) (trivial)); clear hb)
        | (go_at_call 25; have _t := K13; clear _t; refine (fits_any A1 A7 c1 c7 l X _ (RL.out.ext K13.out.1.bl) (K13.out.1.rds (A7, X) (List.mem_of_getElem? (i := 1) rfl)) (by have := L60.out; omega) (by have := HX.out.1.2.1; omega)).mono ?_; rw [HX.out.2.2.1]; rintro e y17 ⟨rfl, hb⟩; have K16 := Lib.hid (And.intro (K13.out.1.ext hb) (trivial)); have q18 := (K16.out.1.cells (⟨g7 + 1, 0, none⟩, .slice A8 Y.length c8) (List.mem_of_getElem? (i := 0) rfl)).2; clear hb)
        | (go_at_call 23; have _t := K10; clear _t; refine (check_ok ((validB_iff _).2 HX.out.2.1) _ (K10.out.1.rds (A8, Y) (List.mem_of_getElem? (i := 0) rfl)) HX.out.2.2.2.2.2.1).mono ?_; rintro e y14 ⟨rfl, hb⟩; have K13 := Lib.hid (And.intro (K10.out.1.ext hb) (trivial)); have q15 := (K13.out.1.cells (⟨g7, 0, none⟩, .slice A7 X.length c7) (List.mem_of_getElem? (i := 1) rfl)).2; clear hb)
        | (go_at_call 23; refine (check_ok ((validB_iff _).2 HX.out.1) _ (K.out.rds (A7, X) (List.mem_of_getElem? (i := 1) rfl)) HX.out.2.2.2.2.1).mono ?_; rintro e y11 ⟨rfl, hb⟩; have K10 := Lib.hid (And.intro (K.out.ext hb) (trivial)); have q12 := (K10.out.1.cells (⟨g7 + 1, 0, none⟩, .slice A8 Y.length c8) (List.mem_of_getElem? (i := 0) rfl)).2; clear hb))
      have hK := K19.out.1
      clear K K10 K13 K16 K19 q9
      have K := Lib.hid hK
      clear hK
      go_wp2_with (go_at_call 16; refine (sanity_any _).mono ?_; rintro e y22 ⟨rfl, hb⟩; have K21 := Lib.hid (And.intro (K.out.ext hb) (trivial)); clear hb)
      go_ret
      exact ⟨rfl, K21.out.1.bl⟩
    | true =>
    have V := Lib.hid ((validB_iff _).1 hv)
    clear hv
    cases hq : ((zs.length : Int) == wrap64 (last + 1)) with
    | false =>
      go_enter Try.func5, Try.ntmps5
      go_upto_region 1 with fail
      have hK := (K.out.one (.slice A3 zs.length c3) 26)
      generalize hgW : w.alloc (.cells #[.slice A3 zs.length c3] 26) = W0 at *
      clear K hgW
      have K := Lib.hid hK
      clear hK
      have q1 := (K.out.cells (⟨w.heap.size, 0, none⟩, .slice A3 zs.length c3) (List.mem_of_getElem? (i := 0) rfl)).2
      go_upto_region 3 with (go_at_call 20; refine (few_any A3 c3 zs _ M3.out).mono ?_; rw [F0.out]; rintro e y3 ⟨rfl, hb⟩; have K2 := Lib.hid (And.intro (K.out.ext hb) (trivial)); clear hb)
      have hK := K2.out.1
      have hS := RL.out.ext K2.out.1.bl
      generalize hgW : y3 = W1 at *
      clear K K2 hgW q1
      have K := Lib.hid (And.intro hK hS)
      clear hK hS
      go_upto_region 4 with (go_at_call 17; refine (HB.out _ K.out.2).mono ?_; rintro e y4 ⟨A7, c7, A8, c8, rfl, hr, hr', hb⟩; have K5 := Lib.hid (And.intro (K.out.1.ext hb) (And.intro hr (And.intro hr' (K.out.2.ext hb)))); clear hr hr' hb)
      have hK := (K5.out.1.box (A := A7) (c := c7) K5.out.2.1).box (A := A8) (c := c8) (K5.out.2.2.1.ext ((Below.refl _ y4).alloc (Nat.le_refl _) _))
      have hS := K5.out.2.2.2.ext (((Below.refl _ y4).alloc (Nat.le_refl _) (.cells #[.slice A7 X.length c7] 26)).alloc (by simp) (.cells #[.slice A8 Y.length c8] 26))
      rw [World.size_alloc] at hK
      generalize hgW : (y4.alloc (.cells #[.slice A7 X.length c7] 26)).alloc (.cells #[.slice A8 Y.length c8] 26) = W3 at *
      generalize hgg : y4.heap.size = g7 at *
      clear K K5 hgW hgg
      have K := Lib.hid hK
      have S := Lib.hid hS
      clear hK hS
      have q6 := (K.out.cells (⟨w.heap.size, 0, none⟩, .slice A3 zs.length c3) (List.mem_of_getElem? (i := 2) rfl)).2
      go_upto_region 5 with (go_at_call 23; refine (check_ok ((validB_iff _).2 V.out) _ (K.out.rds (A3, zs) (List.mem_of_getElem? (i := 2) rfl)) M3.out).mono ?_; rintro e y8 ⟨rfl, hb⟩; have K7 := Lib.hid (And.intro (K.out.ext hb) (trivial)); have q9 := (K7.out.1.cells (⟨w.heap.size, 0, none⟩, .slice A3 zs.length c3) (List.mem_of_getElem? (i := 2) rfl)).2; clear hb)
      have hK := K7.out.1
      clear K K7  q6
      have K := Lib.hid hK
      clear hK
      have q10 := (K.out.cells (⟨g7, 0, none⟩, .slice A7 X.length c7) (List.mem_of_getElem? (i := 1) rfl)).2
      go_upto_region 9 with (first
        | (go_at_call 25; have _t := K17; clear _t; refine (fits_any A1 A8 c1 c8 l Y _ (RL.out.ext K17.out.1.bl) (K17.out.1.rds (A8, Y) (List.mem_of_getElem? (i := 0) rfl)) (by have := L60.out; omega) (by have := HX.out.2.1.2.1; omega)).mono ?_; rw [HX.out.2.2.2.1]; rintro e y21 ⟨rfl, hb⟩; have K20 := Lib.hid (And.intro (K17.out.1.ext hb) (trivial)); clear hb)
        | (go_at_call 25; have _t := K14; clear _t; refine (fits_any A1 A7 c1 c7 l X _ (RL.out.ext K14.out.1.bl) (K14.out.1.rds (A7, X) (List.mem_of_getElem? (i := 1) rfl)) (by have := L60.out; omega) (by have := HX.out.1.2.1; omega)).mono ?_; rw [HX.out.2.2.1]; rintro e y18 ⟨rfl, hb⟩; have K17 := Lib.hid (And.intro (K14.out.1.ext hb) (trivial)); have q19 := (K17.out.1.cells (⟨g7 + 1, 0, none⟩, .slice A8 Y.length c8) (List.mem_of_getElem? (i := 0) rfl)).2; clear hb)
        | (go_at_call 23; have _t := K11; clear _t; refine (check_ok ((validB_iff _).2 HX.out.2.1) _ (K11.out.1.rds (A8, Y) (List.mem_of_getElem? (i := 0) rfl)) HX.out.2.2.2.2.2.1).mono ?_; rintro e y15 ⟨rfl, hb⟩; have K14 := Lib.hid (And.intro (K11.out.1.ext hb) (trivial)); have q16 := (K14.out.1.cells (⟨g7, 0, none⟩, .slice A7 X.length c7) (List.mem_of_getElem? (i := 1) rfl)).2; clear hb)
        | (go_at_call 23; refine (check_ok ((validB_iff _).2 HX.out.1) _ (K.out.rds (A7, X) (List.mem_of_getElem? (i := 1) rfl)) HX.out.2.2.2.2.1).mono ?_; rintro e y12 ⟨rfl, hb⟩; have K11 := Lib.hid (And.intro (K.out.ext hb) (trivial)); have q13 := (K11.out.1.cells (⟨g7 + 1, 0, none⟩, .slice A8 Y.length c8) (List.mem_of_getElem? (i := 0) rfl)).2; clear hb))
      have hK := K20.out.1
      clear K K11 K14 K17 K20 q10
      have K := Lib.hid hK
      clear hK
      go_wp2_with (go_at_call 16; refine (sanity_any _).mono ?_; rintro e y23 ⟨rfl, hb⟩; have K22 := Lib.hid (And.intro (K.out.ext hb) (trivial)); clear hb)
      go_ret
      exact ⟨rfl, K22.out.1.bl⟩
    | true =>
    cases hf : fitsB l zs with
    | false =>
      have FB := Lib.hid hf
      clear hf
      go_enter Try.func5, Try.ntmps5
      go_upto_region 1 with fail
      have hK := (K.out.one (.slice A3 zs.length c3) 26)
      generalize hgW : w.alloc (.cells #[.slice A3 zs.length c3] 26) = W0 at *
      clear K hgW
      have K := Lib.hid hK
      clear hK
      have q1 := (K.out.cells (⟨w.heap.size, 0, none⟩, .slice A3 zs.length c3) (List.mem_of_getElem? (i := 0) rfl)).2
      go_upto_region 3 with (go_at_call 20; refine (few_any A3 c3 zs _ M3.out).mono ?_; rw [F0.out]; rintro e y3 ⟨rfl, hb⟩; have K2 := Lib.hid (And.intro (K.out.ext hb) (trivial)); clear hb)
      have hK := K2.out.1
      have hS := RL.out.ext K2.out.1.bl
      generalize hgW : y3 = W1 at *
      clear K K2 hgW q1
      have K := Lib.hid (And.intro hK hS)
      clear hK hS
      go_upto_region 4 with (go_at_call 17; refine (HB.out _ K.out.2).mono ?_; rintro e y4 ⟨A7, c7, A8, c8, rfl, hr, hr', hb⟩; have K5 := Lib.hid (And.intro (K.out.1.ext hb) (And.intro hr (And.intro hr' (K.out.2.ext hb)))); clear hr hr' hb)
      have hK := (K5.out.1.box (A := A7) (c := c7) K5.out.2.1).box (A := A8) (c := c8) (K5.out.2.2.1.ext ((Below.refl _ y4).alloc (Nat.le_refl _) _))
      have hS := K5.out.2.2.2.ext (((Below.refl _ y4).alloc (Nat.le_refl _) (.cells #[.slice A7 X.length c7] 26)).alloc (by simp) (.cells #[.slice A8 Y.length c8] 26))
      rw [World.size_alloc] at hK
      generalize hgW : (y4.alloc (.cells #[.slice A7 X.length c7] 26)).alloc (.cells #[.slice A8 Y.length c8] 26) = W3 at *
      generalize hgg : y4.heap.size = g7 at *
      clear K K5 hgW hgg
      have K := Lib.hid hK
      have S := Lib.hid hS
      clear hK hS
      have q6 := (K.out.cells (⟨w.heap.size, 0, none⟩, .slice A3 zs.length c3) (List.mem_of_getElem? (i := 2) rfl)).2
      go_upto_region 5 with (first
        | (go_at_call 25; have _t := K7; clear _t; refine (fits_any A1 A3 c1 c3 l zs _ (S.out.ext ((Below.refl _ W3).trans K7.out.2)) (K7.out.1.rds (A3, zs) (List.mem_of_getElem? (i := 2) rfl)) (by have := L60.out; omega) (by have := V.out.2.1; omega)).mono ?_; rw [FB.out]; rintro e y11 ⟨rfl, hb⟩; have K10 := Lib.hid (And.intro (K7.out.1.ext hb) (trivial)); clear hb)
        | (go_at_call 23; refine (check_ok ((validB_iff _).2 V.out) _ (K.out.rds (A3, zs) (List.mem_of_getElem? (i := 2) rfl)) M3.out).mono ?_; rintro e y8 ⟨rfl, hb⟩; have K7 := Lib.hid (And.intro (K.out.ext hb) hb); have q9 := (K7.out.1.cells (⟨w.heap.size, 0, none⟩, .slice A3 zs.length c3) (List.mem_of_getElem? (i := 2) rfl)).2; clear hb))
      have hK := K10.out.1
      clear K K10 K7 q6
      have K := Lib.hid hK
      clear hK
      have q12 := (K.out.cells (⟨g7, 0, none⟩, .slice A7 X.length c7) (List.mem_of_getElem? (i := 1) rfl)).2
      go_upto_region 9 with (first
        | (go_at_call 25; have _t := K19; clear _t; refine (fits_any A1 A8 c1 c8 l Y _ (RL.out.ext K19.out.1.bl) (K19.out.1.rds (A8, Y) (List.mem_of_getElem? (i := 0) rfl)) (by have := L60.out; omega) (by have := HX.out.2.1.2.1; omega)).mono ?_; rw [HX.out.2.2.2.1]; rintro e y23 ⟨rfl, hb⟩; have K22 := Lib.hid (And.intro (K19.out.1.ext hb) (trivial)); clear hb)
        | (go_at_call 25; have _t := K16; clear _t; refine (fits_any A1 A7 c1 c7 l X _ (RL.out.ext K16.out.1.bl) (K16.out.1.rds (A7, X) (List.mem_of_getElem? (i := 1) rfl)) (by have := L60.out; omega) (by have := HX.out.1.2.1; omega)).mono ?_; rw [HX.out.2.2.1]; rintro e y20 ⟨rfl, hb⟩; have K19 := Lib.hid (And.intro (K16.out.1.ext hb) (trivial)); have q21 := (K19.out.1.cells (⟨g7 + 1, 0, none⟩, .slice A8 Y.length c8) (List.mem_of_getElem? (i := 0) rfl)).2; clear hb)
        | (go_at_call 23; have _t := K13; clear _t; refine (check_ok ((validB_iff _).2 HX.out.2.1) _ (K13.out.1.rds (A8, Y) (List.mem_of_getElem? (i := 0) rfl)) HX.out.2.2.2.2.2.1).mono ?_; rintro e y17 ⟨rfl, hb⟩; have K16 := Lib.hid (And.intro (K13.out.1.ext hb) (trivial)); have q18 := (K16.out.1.cells (⟨g7, 0, none⟩, .slice A7 X.length c7) (List.mem_of_getElem? (i := 1) rfl)).2; clear hb)
        | (go_at_call 23; refine (check_ok ((validB_iff _).2 HX.out.1) _ (K.out.rds (A7, X) (List.mem_of_getElem? (i := 1) rfl)) HX.out.2.2.2.2.1).mono ?_; rintro e y14 ⟨rfl, hb⟩; have K13 := Lib.hid (And.intro (K.out.ext hb) (trivial)); have q15 := (K13.out.1.cells (⟨g7 + 1, 0, none⟩, .slice A8 Y.length c8) (List.mem_of_getElem? (i := 0) rfl)).2; clear hb))
      have hK := K22.out.1
      clear K K13 K16 K19 K22 q12
      have K := Lib.hid hK
      clear hK
      go_wp2_with (go_at_call 16; refine (sanity_any _).mono ?_; rintro e y25 ⟨rfl, hb⟩; have K24 := Lib.hid (And.intro (K.out.ext hb) (trivial)); clear hb)
      go_ret
      exact ⟨rfl, K24.out.1.bl⟩
    | true =>
    have FB := Lib.hid hf
    clear hf
    have hlen := WLast.out (eq_of_beq hq)
    have HAM := Lib.hid (HA.out zs V.out hlen (fitsB_iff.1 FB.out))
    have HLEN := Lib.hid hlen
    clear hlen
    go_enter Try.func5, Try.ntmps5
    go_upto_region 1 with fail
    have hK := (K.out.one (.slice A3 zs.length c3) 26)
    generalize hgW : w.alloc (.cells #[.slice A3 zs.length c3] 26) = W0 at *
    clear K hgW
    have K := Lib.hid hK
    clear hK
    have q1 := (K.out.cells (⟨w.heap.size, 0, none⟩, .slice A3 zs.length c3) (List.mem_of_getElem? (i := 0) rfl)).2
    go_upto_region 3 with (go_at_call 20; refine (few_any A3 c3 zs _ M3.out).mono ?_; rw [F0.out]; rintro e y3 ⟨rfl, hb⟩; have K2 := Lib.hid (And.intro (K.out.ext hb) (trivial)); clear hb)
    have hK := K2.out.1
    have hS := RL.out.ext K2.out.1.bl
    generalize hgW : y3 = W1 at *
    clear K K2 hgW q1
    have K := Lib.hid (And.intro hK hS)
    clear hK hS
    go_upto_region 4 with (go_at_call 17; refine (HB.out _ K.out.2).mono ?_; rintro e y4 ⟨A7, c7, A8, c8, rfl, hr, hr', hb⟩; have K5 := Lib.hid (And.intro (K.out.1.ext hb) (And.intro hr (And.intro hr' (K.out.2.ext hb)))); clear hr hr' hb)
    have hK := (K5.out.1.box (A := A7) (c := c7) K5.out.2.1).box (A := A8) (c := c8) (K5.out.2.2.1.ext ((Below.refl _ y4).alloc (Nat.le_refl _) _))
    have hS := K5.out.2.2.2.ext (((Below.refl _ y4).alloc (Nat.le_refl _) (.cells #[.slice A7 X.length c7] 26)).alloc (by simp) (.cells #[.slice A8 Y.length c8] 26))
    rw [World.size_alloc] at hK
    generalize hgW : (y4.alloc (.cells #[.slice A7 X.length c7] 26)).alloc (.cells #[.slice A8 Y.length c8] 26) = W3 at *
    generalize hgg : y4.heap.size = g7 at *
    clear K K5 hgW hgg
    have K := Lib.hid hK
    have S := Lib.hid hS
    clear hK hS
    have q6 := (K.out.cells (⟨w.heap.size, 0, none⟩, .slice A3 zs.length c3) (List.mem_of_getElem? (i := 2) rfl)).2
    go_upto_region 5 with (first
      | (go_at_call 25; have _t := K7; clear _t; refine (fits_any A1 A3 c1 c3 l zs _ (S.out.ext ((Below.refl _ W3).trans K7.out.2)) (K7.out.1.rds (A3, zs) (List.mem_of_getElem? (i := 2) rfl)) (by have := L60.out; omega) (by have := V.out.2.1; omega)).mono ?_; rw [FB.out]; rintro e y11 ⟨rfl, hb⟩; have K10 := Lib.hid (And.intro (K7.out.1.ext hb) (trivial)); clear hb)
      | (go_at_call 23; refine (check_ok ((validB_iff _).2 V.out) _ (K.out.rds (A3, zs) (List.mem_of_getElem? (i := 2) rfl)) M3.out).mono ?_; rintro e y8 ⟨rfl, hb⟩; have K7 := Lib.hid (And.intro (K.out.ext hb) hb); have q9 := (K7.out.1.cells (⟨w.heap.size, 0, none⟩, .slice A3 zs.length c3) (List.mem_of_getElem? (i := 2) rfl)).2; clear hb))
    have hK := K10.out.1
    clear K K10 K7 q6
    have K := Lib.hid hK
    clear hK
    have q12 := (K.out.cells (⟨g7, 0, none⟩, .slice A7 X.length c7) (List.mem_of_getElem? (i := 1) rfl)).2
    go_upto_region 9 with (first
      | (go_at_call 25; have _t := K19; clear _t; refine (fits_any A1 A8 c1 c8 l Y _ (RL.out.ext K19.out.1.bl) (K19.out.1.rds (A8, Y) (List.mem_of_getElem? (i := 0) rfl)) (by have := L60.out; omega) (by have := HX.out.2.1.2.1; omega)).mono ?_; rw [HX.out.2.2.2.1]; rintro e y23 ⟨rfl, hb⟩; have K22 := Lib.hid (And.intro (K19.out.1.ext hb) (trivial)); clear hb)
      | (go_at_call 25; have _t := K16; clear _t; refine (fits_any A1 A7 c1 c7 l X _ (RL.out.ext K16.out.1.bl) (K16.out.1.rds (A7, X) (List.mem_of_getElem? (i := 1) rfl)) (by have := L60.out; omega) (by have := HX.out.1.2.1; omega)).mono ?_; rw [HX.out.2.2.1]; rintro e y20 ⟨rfl, hb⟩; have K19 := Lib.hid (And.intro (K16.out.1.ext hb) (trivial)); have q21 := (K19.out.1.cells (⟨g7 + 1, 0, none⟩, .slice A8 Y.length c8) (List.mem_of_getElem? (i := 0) rfl)).2; clear hb)
      | (go_at_call 23; have _t := K13; clear _t; refine (check_ok ((validB_iff _).2 HX.out.2.1) _ (K13.out.1.rds (A8, Y) (List.mem_of_getElem? (i := 0) rfl)) HX.out.2.2.2.2.2.1).mono ?_; rintro e y17 ⟨rfl, hb⟩; have K16 := Lib.hid (And.intro (K13.out.1.ext hb) (trivial)); have q18 := (K16.out.1.cells (⟨g7, 0, none⟩, .slice A7 X.length c7) (List.mem_of_getElem? (i := 1) rfl)).2; clear hb)
      | (go_at_call 23; refine (check_ok ((validB_iff _).2 HX.out.1) _ (K.out.rds (A7, X) (List.mem_of_getElem? (i := 1) rfl)) HX.out.2.2.2.2.1).mono ?_; rintro e y14 ⟨rfl, hb⟩; have K13 := Lib.hid (And.intro (K.out.ext hb) (trivial)); have q15 := (K13.out.1.cells (⟨g7 + 1, 0, none⟩, .slice A8 Y.length c8) (List.mem_of_getElem? (i := 0) rfl)).2; clear hb))
    have hK := K22.out.1
    clear K K13 K16 K19 K22 q12
    have K := Lib.hid hK
    clear hK
    go_wp2_with (first
      | (go_at_call 24; have _t := K28; clear _t; refine (atMost_any A3 A8 c3 c8 zs Y _ (K28.out.1.rds (A3, zs) (List.mem_of_getElem? (i := 2) rfl)) (K28.out.1.rds (A8, Y) (List.mem_of_getElem? (i := 0) rfl)) (by have := V.out.2.1; omega) (by have := HX.out.2.1.2.1; omega)).mono ?_; rw [HAM.out.2]; rintro e y33 ⟨rfl, hb⟩; have K32 := Lib.hid (And.intro (K28.out.1.ext hb) (trivial)); clear hb)
      | (go_at_call 24; have _t := K24; clear _t; refine (atMost_any A7 A3 c7 c3 X zs _ (K24.out.1.rds (A7, X) (List.mem_of_getElem? (i := 1) rfl)) (K24.out.1.rds (A3, zs) (List.mem_of_getElem? (i := 2) rfl)) (by have := HX.out.1.2.1; omega) (by have := V.out.2.1; omega)).mono ?_; rw [HAM.out.1]; rintro e y29 ⟨rfl, hb⟩; have K28 := Lib.hid (And.intro (K24.out.1.ext hb) (trivial)); have q30 := (K28.out.1.cells (⟨w.heap.size, 0, none⟩, .slice A3 zs.length c3) (List.mem_of_getElem? (i := 2) rfl)).2; have q31 := (K28.out.1.cells (⟨g7 + 1, 0, none⟩, .slice A8 Y.length c8) (List.mem_of_getElem? (i := 0) rfl)).2; clear hb)
      | (go_at_call 16; refine (sanity_any _).mono ?_; rintro e y25 ⟨rfl, hb⟩; have K24 := Lib.hid (And.intro (K.out.ext hb) (trivial)); have q26 := (K24.out.1.cells (⟨g7, 0, none⟩, .slice A7 X.length c7) (List.mem_of_getElem? (i := 1) rfl)).2; have q27 := (K24.out.1.cells (⟨w.heap.size, 0, none⟩, .slice A3 zs.length c3) (List.mem_of_getElem? (i := 2) rfl)).2; clear hb))
    go_ret
    exact ⟨rfl, K32.out.1.bl⟩
  rw [if_neg h0, if_neg h0] at hB
  have HB := Lib.hid hB
  have hne : (E != 0) = true := by simpa using h0
  clear hB h0 hEg
  by_cases h9 : E = 9
  · have E9 := Lib.hid h9
    have hn9 : (E != 9) = false := by simpa using h9
    have hwl := HK0.out.2.2 (.inr h9)
    have WLast := Lib.hid (fun (h : (zs.length : Int) = wrap64 (last + 1)) => h.trans (wrap64_of (by omega) (by omega)))
    clear h9 hwl
    cases hv : validB zs with
    | false =>
      have hc := fun W (r : Rd W W.heap.size A3 zs) => check_any A3 c3 zs W r M3.out
      rw [hv, errB_f] at hc
      have HC := Lib.hid hc
      clear hc hv
      go_enter Try.func5, Try.ntmps5
      go_upto_region 1 with fail
      have hK := (K.out.one (.slice A3 zs.length c3) 26)
      generalize hgW : w.alloc (.cells #[.slice A3 zs.length c3] 26) = W0 at *
      clear K hgW
      have K := Lib.hid hK
      clear hK
      have q1 := (K.out.cells (⟨w.heap.size, 0, none⟩, .slice A3 zs.length c3) (List.mem_of_getElem? (i := 0) rfl)).2
      go_upto_region 3 with (go_at_call 20; refine (few_any A3 c3 zs _ M3.out).mono ?_; rw [F0.out]; rintro e y3 ⟨rfl, hb⟩; have K2 := Lib.hid (And.intro (K.out.ext hb) (trivial)); clear hb)
      have hK := K2.out.1
      have hS := RL.out.ext K2.out.1.bl
      generalize hgW : y3 = W1 at *
      clear K K2 hgW q1
      have K := Lib.hid (And.intro hK hS)
      clear hK hS
      go_upto_region 4 with (go_at_call 17; refine (HB.out _ K.out.2).mono ?_; rintro e y4 ⟨A7, c7, A8, c8, rfl, hr, hr', hb⟩; have K5 := Lib.hid (And.intro (K.out.1.ext hb) (And.intro hr (And.intro hr' (K.out.2.ext hb)))); clear hr hr' hb)
      have hK := (K5.out.1.box (A := A7) (c := c7) K5.out.2.1).box (A := A8) (c := c8) (K5.out.2.2.1.ext ((Below.refl _ y4).alloc (Nat.le_refl _) _))
      have hS := K5.out.2.2.2.ext (((Below.refl _ y4).alloc (Nat.le_refl _) (.cells #[.slice A7 ([] : List Int).length c7] 26)).alloc (by simp) (.cells #[.slice A8 ([] : List Int).length c8] 26))
      rw [World.size_alloc] at hK
      generalize hgW : (y4.alloc (.cells #[.slice A7 ([] : List Int).length c7] 26)).alloc (.cells #[.slice A8 ([] : List Int).length c8] 26) = W3 at *
      generalize hgg : y4.heap.size = g7 at *
      clear K K5 hgW hgg
      have K := Lib.hid hK
      have S := Lib.hid hS
      clear hK hS
      have q6 := (K.out.cells (⟨w.heap.size, 0, none⟩, .slice A3 zs.length c3) (List.mem_of_getElem? (i := 2) rfl)).2
      go_upto_region 5 with (go_at_call 23; refine (HC.out _ (K.out.rds (A3, zs) (List.mem_of_getElem? (i := 2) rfl))).mono ?_; rintro e y8 ⟨rfl, hb⟩; have K7 := Lib.hid (And.intro (K.out.ext hb) (trivial)); clear hb)
      have hK := K7.out.1
      clear K K7  q6
      have K := Lib.hid hK
      clear hK
      go_wp2_with (go_at_call 16; refine (sanity_any _).mono ?_; rintro e y10 ⟨rfl, hb⟩; have K9 := Lib.hid (And.intro (K.out.ext hb) (trivial)); clear hb)
      go_ret
      exact ⟨rfl, K9.out.1.bl⟩
    | true =>
    have V := Lib.hid ((validB_iff _).1 hv)
    clear hv
    cases hq : ((zs.length : Int) == wrap64 (last + 1)) with
    | false =>
      go_enter Try.func5, Try.ntmps5
      go_upto_region 1 with fail
      have hK := (K.out.one (.slice A3 zs.length c3) 26)
      generalize hgW : w.alloc (.cells #[.slice A3 zs.length c3] 26) = W0 at *
      clear K hgW
      have K := Lib.hid hK
      clear hK
      have q1 := (K.out.cells (⟨w.heap.size, 0, none⟩, .slice A3 zs.length c3) (List.mem_of_getElem? (i := 0) rfl)).2
      go_upto_region 3 with (go_at_call 20; refine (few_any A3 c3 zs _ M3.out).mono ?_; rw [F0.out]; rintro e y3 ⟨rfl, hb⟩; have K2 := Lib.hid (And.intro (K.out.ext hb) (trivial)); clear hb)
      have hK := K2.out.1
      have hS := RL.out.ext K2.out.1.bl
      generalize hgW : y3 = W1 at *
      clear K K2 hgW q1
      have K := Lib.hid (And.intro hK hS)
      clear hK hS
      go_upto_region 4 with (go_at_call 17; refine (HB.out _ K.out.2).mono ?_; rintro e y4 ⟨A7, c7, A8, c8, rfl, hr, hr', hb⟩; have K5 := Lib.hid (And.intro (K.out.1.ext hb) (And.intro hr (And.intro hr' (K.out.2.ext hb)))); clear hr hr' hb)
      have hK := (K5.out.1.box (A := A7) (c := c7) K5.out.2.1).box (A := A8) (c := c8) (K5.out.2.2.1.ext ((Below.refl _ y4).alloc (Nat.le_refl _) _))
      have hS := K5.out.2.2.2.ext (((Below.refl _ y4).alloc (Nat.le_refl _) (.cells #[.slice A7 ([] : List Int).length c7] 26)).alloc (by simp) (.cells #[.slice A8 ([] : List Int).length c8] 26))
      rw [World.size_alloc] at hK
      generalize hgW : (y4.alloc (.cells #[.slice A7 ([] : List Int).length c7] 26)).alloc (.cells #[.slice A8 ([] : List Int).length c8] 26) = W3 at *
      generalize hgg : y4.heap.size = g7 at *
      clear K K5 hgW hgg
      have K := Lib.hid hK
      have S := Lib.hid hS
      clear hK hS
      have q6 := (K.out.cells (⟨w.heap.size, 0, none⟩, .slice A3 zs.length c3) (List.mem_of_getElem? (i := 2) rfl)).2
      go_upto_region 5 with (go_at_call 23; refine (check_ok ((validB_iff _).2 V.out) _ (K.out.rds (A3, zs) (List.mem_of_getElem? (i := 2) rfl)) M3.out).mono ?_; rintro e y8 ⟨rfl, hb⟩; have K7 := Lib.hid (And.intro (K.out.ext hb) (trivial)); have q9 := (K7.out.1.cells (⟨w.heap.size, 0, none⟩, .slice A3 zs.length c3) (List.mem_of_getElem? (i := 2) rfl)).2; clear hb)
      have hK := K7.out.1
      clear K K7  q6
      have K := Lib.hid hK
      clear hK
      go_wp2_with (go_at_call 16; refine (sanity_any _).mono ?_; rintro e y11 ⟨rfl, hb⟩; have K10 := Lib.hid (And.intro (K.out.ext hb) (trivial)); clear hb)
      go_ret
      exact ⟨rfl, K10.out.1.bl⟩
    | true =>
    cases hf : fitsB l zs with
    | false =>
      have FB := Lib.hid hf
      clear hf
      go_enter Try.func5, Try.ntmps5
      go_upto_region 1 with fail
      have hK := (K.out.one (.slice A3 zs.length c3) 26)
      generalize hgW : w.alloc (.cells #[.slice A3 zs.length c3] 26) = W0 at *
      clear K hgW
      have K := Lib.hid hK
      clear hK
      have q1 := (K.out.cells (⟨w.heap.size, 0, none⟩, .slice A3 zs.length c3) (List.mem_of_getElem? (i := 0) rfl)).2
      go_upto_region 3 with (go_at_call 20; refine (few_any A3 c3 zs _ M3.out).mono ?_; rw [F0.out]; rintro e y3 ⟨rfl, hb⟩; have K2 := Lib.hid (And.intro (K.out.ext hb) (trivial)); clear hb)
      have hK := K2.out.1
      have hS := RL.out.ext K2.out.1.bl
      generalize hgW : y3 = W1 at *
      clear K K2 hgW q1
      have K := Lib.hid (And.intro hK hS)
      clear hK hS
      go_upto_region 4 with (go_at_call 17; refine (HB.out _ K.out.2).mono ?_; rintro e y4 ⟨A7, c7, A8, c8, rfl, hr, hr', hb⟩; have K5 := Lib.hid (And.intro (K.out.1.ext hb) (And.intro hr (And.intro hr' (K.out.2.ext hb)))); clear hr hr' hb)
      have hK := (K5.out.1.box (A := A7) (c := c7) K5.out.2.1).box (A := A8) (c := c8) (K5.out.2.2.1.ext ((Below.refl _ y4).alloc (Nat.le_refl _) _))
      have hS := K5.out.2.2.2.ext (((Below.refl _ y4).alloc (Nat.le_refl _) (.cells #[.slice A7 ([] : List Int).length c7] 26)).alloc (by simp) (.cells #[.slice A8 ([] : List Int).length c8] 26))
      rw [World.size_alloc] at hK
      generalize hgW : (y4.alloc (.cells #[.slice A7 ([] : List Int).length c7] 26)).alloc (.cells #[.slice A8 ([] : List Int).length c8] 26) = W3 at *
      generalize hgg : y4.heap.size = g7 at *
      clear K K5 hgW hgg
      have K := Lib.hid hK
      have S := Lib.hid hS
      clear hK hS
      have q6 := (K.out.cells (⟨w.heap.size, 0, none⟩, .slice A3 zs.length c3) (List.mem_of_getElem? (i := 2) rfl)).2
      go_upto_region 5 with (first
        | (go_at_call 25; have _t := K7; clear _t; refine (fits_any A1 A3 c1 c3 l zs _ (S.out.ext ((Below.refl _ W3).trans K7.out.2)) (K7.out.1.rds (A3, zs) (List.mem_of_getElem? (i := 2) rfl)) (by have := L60.out; omega) (by have := V.out.2.1; omega)).mono ?_; rw [FB.out]; rintro e y11 ⟨rfl, hb⟩; have K10 := Lib.hid (And.intro (K7.out.1.ext hb) (trivial)); clear hb)
        | (go_at_call 23; refine (check_ok ((validB_iff _).2 V.out) _ (K.out.rds (A3, zs) (List.mem_of_getElem? (i := 2) rfl)) M3.out).mono ?_; rintro e y8 ⟨rfl, hb⟩; have K7 := Lib.hid (And.intro (K.out.ext hb) hb); have q9 := (K7.out.1.cells (⟨w.heap.size, 0, none⟩, .slice A3 zs.length c3) (List.mem_of_getElem? (i := 2) rfl)).2; clear hb))
      have hK := K10.out.1
      clear K K10 K7 q6
      have K := Lib.hid hK
      clear hK
      go_wp2_with (go_at_call 16; refine (sanity_any _).mono ?_; rintro e y13 ⟨rfl, hb⟩; have K12 := Lib.hid (And.intro (K.out.ext hb) (trivial)); clear hb)
      go_ret
      exact ⟨rfl, K12.out.1.bl⟩
    | true =>
    have FB := Lib.hid hf
    clear hf
    have hlen := WLast.out (eq_of_beq hq)
    exact (HK0.out.2.1 zs E9.out V.out hlen (fitsB_iff.1 FB.out)).elim
  · have hn9 : (E != 9) = true := by simpa using h9
    have WLast := Lib.hid (fun (h : (zs.length : Int) = wrap64 (last + 1)) => h)
    clear h9
    cases hv : validB zs with
    | false =>
      have hc := fun W (r : Rd W W.heap.size A3 zs) => check_any A3 c3 zs W r M3.out
      rw [hv, errB_f] at hc
      have HC := Lib.hid hc
      clear hc hv
      go_enter Try.func5, Try.ntmps5
      go_upto_region 1 with fail
      have hK := (K.out.one (.slice A3 zs.length c3) 26)
      generalize hgW : w.alloc (.cells #[.slice A3 zs.length c3] 26) = W0 at *
      clear K hgW
      have K := Lib.hid hK
      clear hK
      have q1 := (K.out.cells (⟨w.heap.size, 0, none⟩, .slice A3 zs.length c3) (List.mem_of_getElem? (i := 0) rfl)).2
      go_upto_region 3 with (go_at_call 20; refine (few_any A3 c3 zs _ M3.out).mono ?_; rw [F0.out]; rintro e y3 ⟨rfl, hb⟩; have K2 := Lib.hid (And.intro (K.out.ext hb) (trivial)); clear hb)
      have hK := K2.out.1
      have hS := RL.out.ext K2.out.1.bl
      generalize hgW : y3 = W1 at *
      clear K K2 hgW q1
      have K := Lib.hid (And.intro hK hS)
      clear hK hS
      go_upto_region 4 with (go_at_call 17; refine (HB.out _ K.out.2).mono ?_; rintro e y4 ⟨A7, c7, A8, c8, rfl, hr, hr', hb⟩; have K5 := Lib.hid (And.intro (K.out.1.ext hb) (And.intro hr (And.intro hr' (K.out.2.ext hb)))); clear hr hr' hb)
      have hK := (K5.out.1.box (A := A7) (c := c7) K5.out.2.1).box (A := A8) (c := c8) (K5.out.2.2.1.ext ((Below.refl _ y4).alloc (Nat.le_refl _) _))
      have hS := K5.out.2.2.2.ext (((Below.refl _ y4).alloc (Nat.le_refl _) (.cells #[.slice A7 ([] : List Int).length c7] 26)).alloc (by simp) (.cells #[.slice A8 ([] : List Int).length c8] 26))
      rw [World.size_alloc] at hK
      generalize hgW : (y4.alloc (.cells #[.slice A7 ([] : List Int).length c7] 26)).alloc (.cells #[.slice A8 ([] : List Int).length c8] 26) = W3 at *
      generalize hgg : y4.heap.size = g7 at *
      clear K K5 hgW hgg
      have K := Lib.hid hK
      have S := Lib.hid hS
      clear hK hS
      have q6 := (K.out.cells (⟨w.heap.size, 0, none⟩, .slice A3 zs.length c3) (List.mem_of_getElem? (i := 2) rfl)).2
      go_upto_region 5 with (go_at_call 23; refine (HC.out _ (K.out.rds (A3, zs) (List.mem_of_getElem? (i := 2) rfl))).mono ?_; rintro e y8 ⟨rfl, hb⟩; have K7 := Lib.hid (And.intro (K.out.ext hb) (trivial)); clear hb)
      have hK := K7.out.1
      clear K K7  q6
      have K := Lib.hid hK
      clear hK
      go_wp2_with (go_at_call 16; refine (sanity_any _).mono ?_; rintro e y10 ⟨rfl, hb⟩; have K9 := Lib.hid (And.intro (K.out.ext hb) (trivial)); clear hb)
      go_ret
      exact ⟨rfl, K9.out.1.bl⟩
    | true =>
    have V := Lib.hid ((validB_iff _).1 hv)
    clear hv
    cases hq : ((zs.length : Int) == wrap64 (last + 1)) with
    | false =>
      go_enter Try.func5, Try.ntmps5
      go_upto_region 1 with fail
      have hK := (K.out.one (.slice A3 zs.length c3) 26)
      generalize hgW : w.alloc (.cells #[.slice A3 zs.length c3] 26) = W0 at *
      clear K hgW
      have K := Lib.hid hK
      clear hK
      have q1 := (K.out.cells (⟨w.heap.size, 0, none⟩, .slice A3 zs.length c3) (List.mem_of_getElem? (i := 0) rfl)).2
      go_upto_region 3 with (go_at_call 20; refine (few_any A3 c3 zs _ M3.out).mono ?_; rw [F0.out]; rintro e y3 ⟨rfl, hb⟩; have K2 := Lib.hid (And.intro (K.out.ext hb) (trivial)); clear hb)
      have hK := K2.out.1
      have hS := RL.out.ext K2.out.1.bl
      generalize hgW : y3 = W1 at *
      clear K K2 hgW q1
      have K := Lib.hid (And.intro hK hS)
      clear hK hS
      go_upto_region 4 with (go_at_call 17; refine (HB.out _ K.out.2).mono ?_; rintro e y4 ⟨A7, c7, A8, c8, rfl, hr, hr', hb⟩; have K5 := Lib.hid (And.intro (K.out.1.ext hb) (And.intro hr (And.intro hr' (K.out.2.ext hb)))); clear hr hr' hb)
      have hK := (K5.out.1.box (A := A7) (c := c7) K5.out.2.1).box (A := A8) (c := c8) (K5.out.2.2.1.ext ((Below.refl _ y4).alloc (Nat.le_refl _) _))
      have hS := K5.out.2.2.2.ext (((Below.refl _ y4).alloc (Nat.le_refl _) (.cells #[.slice A7 ([] : List Int).length c7] 26)).alloc (by simp) (.cells #[.slice A8 ([] : List Int).length c8] 26))
      rw [World.size_alloc] at hK
      generalize hgW : (y4.alloc (.cells #[.slice A7 ([] : List Int).length c7] 26)).alloc (.cells #[.slice A8 ([] : List Int).length c8] 26) = W3 at *
      generalize hgg : y4.heap.size = g7 at *
      clear K K5 hgW hgg
      have K := Lib.hid hK
      have S := Lib.hid hS
      clear hK hS
      have q6 := (K.out.cells (⟨w.heap.size, 0, none⟩, .slice A3 zs.length c3) (List.mem_of_getElem? (i := 2) rfl)).2
      go_upto_region 5 with (go_at_call 23; refine (check_ok ((validB_iff _).2 V.out) _ (K.out.rds (A3, zs) (List.mem_of_getElem? (i := 2) rfl)) M3.out).mono ?_; rintro e y8 ⟨rfl, hb⟩; have K7 := Lib.hid (And.intro (K.out.ext hb) (trivial)); have q9 := (K7.out.1.cells (⟨w.heap.size, 0, none⟩, .slice A3 zs.length c3) (List.mem_of_getElem? (i := 2) rfl)).2; clear hb)
      have hK := K7.out.1
      clear K K7  q6
      have K := Lib.hid hK
      clear hK
      go_wp2_with (go_at_call 16; refine (sanity_any _).mono ?_; rintro e y11 ⟨rfl, hb⟩; have K10 := Lib.hid (And.intro (K.out.ext hb) (trivial)); clear hb)
      go_ret
      exact ⟨rfl, K10.out.1.bl⟩
    | true =>
    cases hf : fitsB l zs with
    | false =>
      have FB := Lib.hid hf
      clear hf
      go_enter Try.func5, Try.ntmps5
      go_upto_region 1 with fail
      have hK := (K.out.one (.slice A3 zs.length c3) 26)
      generalize hgW : w.alloc (.cells #[.slice A3 zs.length c3] 26) = W0 at *
      clear K hgW
      have K := Lib.hid hK
      clear hK
      have q1 := (K.out.cells (⟨w.heap.size, 0, none⟩, .slice A3 zs.length c3) (List.mem_of_getElem? (i := 0) rfl)).2
      go_upto_region 3 with (go_at_call 20; refine (few_any A3 c3 zs _ M3.out).mono ?_; rw [F0.out]; rintro e y3 ⟨rfl, hb⟩; have K2 := Lib.hid (And.intro (K.out.ext hb) (trivial)); clear hb)
      have hK := K2.out.1
      have hS := RL.out.ext K2.out.1.bl
      generalize hgW : y3 = W1 at *
      clear K K2 hgW q1
      have K := Lib.hid (And.intro hK hS)
      clear hK hS
      go_upto_region 4 with (go_at_call 17; refine (HB.out _ K.out.2).mono ?_; rintro e y4 ⟨A7, c7, A8, c8, rfl, hr, hr', hb⟩; have K5 := Lib.hid (And.intro (K.out.1.ext hb) (And.intro hr (And.intro hr' (K.out.2.ext hb)))); clear hr hr' hb)
      have hK := (K5.out.1.box (A := A7) (c := c7) K5.out.2.1).box (A := A8) (c := c8) (K5.out.2.2.1.ext ((Below.refl _ y4).alloc (Nat.le_refl _) _))
      have hS := K5.out.2.2.2.ext (((Below.refl _ y4).alloc (Nat.le_refl _) (.cells #[.slice A7 ([] : List Int).length c7] 26)).alloc (by simp) (.cells #[.slice A8 ([] : List Int).length c8] 26))
      rw [World.size_alloc] at hK
      generalize hgW : (y4.alloc (.cells #[.slice A7 ([] : List Int).length c7] 26)).alloc (.cells #[.slice A8 ([] : List Int).length c8] 26) = W3 at *
      generalize hgg : y4.heap.size = g7 at *
      clear K K5 hgW hgg
      have K := Lib.hid hK
      have S := Lib.hid hS
      clear hK hS
      have q6 := (K.out.cells (⟨w.heap.size, 0, none⟩, .slice A3 zs.length c3) (List.mem_of_getElem? (i := 2) rfl)).2
      go_upto_region 5 with (first
        | (go_at_call 25; have _t := K7; clear _t; refine (fits_any A1 A3 c1 c3 l zs _ (S.out.ext ((Below.refl _ W3).trans K7.out.2)) (K7.out.1.rds (A3, zs) (List.mem_of_getElem? (i := 2) rfl)) (by have := L60.out; omega) (by have := V.out.2.1; omega)).mono ?_; rw [FB.out]; rintro e y11 ⟨rfl, hb⟩; have K10 := Lib.hid (And.intro (K7.out.1.ext hb) (trivial)); clear hb)
        | (go_at_call 23; refine (check_ok ((validB_iff _).2 V.out) _ (K.out.rds (A3, zs) (List.mem_of_getElem? (i := 2) rfl)) M3.out).mono ?_; rintro e y8 ⟨rfl, hb⟩; have K7 := Lib.hid (And.intro (K.out.ext hb) hb); have q9 := (K7.out.1.cells (⟨w.heap.size, 0, none⟩, .slice A3 zs.length c3) (List.mem_of_getElem? (i := 2) rfl)).2; clear hb))
      have hK := K10.out.1
      clear K K10 K7 q6
      have K := Lib.hid hK
      clear hK
      go_wp2_with (go_at_call 16; refine (sanity_any _).mono ?_; rintro e y13 ⟨rfl, hb⟩; have K12 := Lib.hid (And.intro (K.out.ext hb) (trivial)); clear hb)
      go_ret
      exact ⟨rfl, K12.out.1.bl⟩
    | true =>
    have FB := Lib.hid hf
    clear hf
    have hlen := WLast.out (eq_of_beq hq)
    have HLEN := Lib.hid hlen
    clear hlen
    go_enter Try.func5, Try.ntmps5
    go_upto_region 1 with fail
    have hK := (K.out.one (.slice A3 zs.length c3) 26)
    generalize hgW : w.alloc (.cells #[.slice A3 zs.length c3] 26) = W0 at *
    clear K hgW
    have K := Lib.hid hK
    clear hK
    have q1 := (K.out.cells (⟨w.heap.size, 0, none⟩, .slice A3 zs.length c3) (List.mem_of_getElem? (i := 0) rfl)).2
    go_upto_region 3 with (go_at_call 20; refine (few_any A3 c3 zs _ M3.out).mono ?_; rw [F0.out]; rintro e y3 ⟨rfl, hb⟩; have K2 := Lib.hid (And.intro (K.out.ext hb) (trivial)); clear hb)
    have hK := K2.out.1
    have hS := RL.out.ext K2.out.1.bl
    generalize hgW : y3 = W1 at *
    clear K K2 hgW q1
    have K := Lib.hid (And.intro hK hS)
    clear hK hS
    go_upto_region 4 with (go_at_call 17; refine (HB.out _ K.out.2).mono ?_; rintro e y4 ⟨A7, c7, A8, c8, rfl, hr, hr', hb⟩; have K5 := Lib.hid (And.intro (K.out.1.ext hb) (And.intro hr (And.intro hr' (K.out.2.ext hb)))); clear hr hr' hb)
    have hK := (K5.out.1.box (A := A7) (c := c7) K5.out.2.1).box (A := A8) (c := c8) (K5.out.2.2.1.ext ((Below.refl _ y4).alloc (Nat.le_refl _) _))
    have hS := K5.out.2.2.2.ext (((Below.refl _ y4).alloc (Nat.le_refl _) (.cells #[.slice A7 ([] : List Int).length c7] 26)).alloc (by simp) (.cells #[.slice A8 ([] : List Int).length c8] 26))
    rw [World.size_alloc] at hK
    generalize hgW : (y4.alloc (.cells #[.slice A7 ([] : List Int).length c7] 26)).alloc (.cells #[.slice A8 ([] : List Int).length c8] 26) = W3 at *
    generalize hgg : y4.heap.size = g7 at *
    clear K K5 hgW hgg
    have K := Lib.hid hK
    have S := Lib.hid hS
    clear hK hS
    have q6 := (K.out.cells (⟨w.heap.size, 0, none⟩, .slice A3 zs.length c3) (List.mem_of_getElem? (i := 2) rfl)).2
    go_upto_region 5 with (first
      | (go_at_call 25; have _t := K7; clear _t; refine (fits_any A1 A3 c1 c3 l zs _ (S.out.ext ((Below.refl _ W3).trans K7.out.2)) (K7.out.1.rds (A3, zs) (List.mem_of_getElem? (i := 2) rfl)) (by have := L60.out; omega) (by have := V.out.2.1; omega)).mono ?_; rw [FB.out]; rintro e y11 ⟨rfl, hb⟩; have K10 := Lib.hid (And.intro (K7.out.1.ext hb) (trivial)); clear hb)
      | (go_at_call 23; refine (check_ok ((validB_iff _).2 V.out) _ (K.out.rds (A3, zs) (List.mem_of_getElem? (i := 2) rfl)) M3.out).mono ?_; rintro e y8 ⟨rfl, hb⟩; have K7 := Lib.hid (And.intro (K.out.ext hb) hb); have q9 := (K7.out.1.cells (⟨w.heap.size, 0, none⟩, .slice A3 zs.length c3) (List.mem_of_getElem? (i := 2) rfl)).2; clear hb))
    have hK := K10.out.1
    clear K K10 K7 q6
    have K := Lib.hid hK
    clear hK
    go_wp2_with (go_at_call 16; refine (sanity_any _).mono ?_; rintro e y13 ⟨rfl, hb⟩; have K12 := Lib.hid (And.intro (K.out.ext hb) (trivial)); clear hb)
    go_ret
    exact ⟨rfl, K12.out.1.bl⟩
end Go.Proofs.Ytknkneccnhgjmaa
