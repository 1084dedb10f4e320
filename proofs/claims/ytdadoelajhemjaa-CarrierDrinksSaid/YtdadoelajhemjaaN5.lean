/- Walk: the law CarrierDrinks. -/
import Derived.Test.YtdadoelajhemjaaN2
import Derived.Test.YtdadoelajhemjaaN3
import Derived.Test.YtdadoelajhemjaaN4
namespace Go.Proofs.Ytdadoelajhemjaa
open Go.RowKit Go.Shelf

theorem drkL_le (ws : List Car) (l : List Rn) (h : (outs ws).length ≤ 1000) : (drkL ws l).length ≤ 1000 := by
 unfold drkL
 by_cases h0 : drkE ws l = 0
 ·rw [if_pos h0]; simpa using h
 ·rw [if_neg h0]; exact Nat.zero_le _

set_option maxRecDepth 100000 in
set_option maxHeartbeats 8000000 in
theorem CarrierDrinks_row (w : World) (A1 : Option Addr) (c1 : Nat) (ws : List Car) (r0 : WkIn w A1 ws) (B : Option Addr) (d : Nat) (l : List Rn) (r1 : RnsIn w B l) :
  Calls Try.prog 12 #[.agg #[.slice A1 ws.length c1], .slice B l.length d] w fun e w' => e = .returned (.bool true) ∧ Below w.heap.size w w' := by
 have hb : Below w.heap.size w (w.alloc (.cells #[.slice A1 ws.length c1] 24)) := (Below.refl _ w).alloc (Nat.le_refl _) _
 have K := Lib.hid (((stays_bl hb).and (stays_blk (blk_new w #[.slice A1 ws.length c1] 24 rfl))).and ((stays_wkIn (r0.ext hb)).and (stays_rnsIn (r1.ext hb))))
 clear hb
 cases hf : fewB ws with
 | false =>
  have F0 := Lib.hid hf
  clear hf
  go_enter Try.func12, Try.ntmps12
  go_upto_region 1 with fail
  generalize (w.alloc (.cells #[.slice A1 ws.length c1] 24)) = W0 at *
  have q1 := cr 0 (K.out.1.1.2)
  go_wp2_with (first
   | (go_at_call 20; have _t := K2; clear _t; refine (sanity_any _).mono ?_; rintro e w7 ⟨rfl, hb⟩; have K6 := Lib.hid (K2.out.on hb); clear hb)
   | (go_at_call 18; refine (few_any A1 c1 ws _ K.out.1.2.1).mono ?_; rw [F0.out]; rintro e w3 ⟨rfl, hb⟩; have K2 := Lib.hid (K.out.on hb); clear hb))
  go_ret
  exact ⟨rfl, K6.out.1.1.1⟩
 | true =>
 have F0 := Lib.hid hf
 cases hs : runsB l with
 | false =>
  have F1 := Lib.hid hs
  clear hs hf
  go_enter Try.func12, Try.ntmps12
  go_upto_region 1 with fail
  generalize (w.alloc (.cells #[.slice A1 ws.length c1] 24)) = W0 at *
  have q1 := cr 0 (K.out.1.1.2)
  go_wp2_with (first
   | (go_at_call 20; have _t := K6; clear _t; refine (sanity_any _).mono ?_; rintro e w9 ⟨rfl, hb⟩; have K8 := Lib.hid (K6.out.on hb); clear hb)
   | (go_at_call 44; have _t := K2; clear _t; refine (runs_any B d l _ K2.out.1.2.2).mono ?_; rw [F1.out]; rintro e w7 ⟨rfl, hb⟩; have K6 := Lib.hid (K2.out.on hb); clear hb)
   | (go_at_call 18; refine (few_any A1 c1 ws _ K.out.1.2.1).mono ?_; rw [F0.out]; rintro e w3 ⟨rfl, hb⟩; have K2 := Lib.hid (K.out.on hb); clear hb))
  go_ret
  exact ⟨rfl, K8.out.1.1.1⟩
 | true =>
 have F1 := Lib.hid hs
 have hk := few_wk r0 hf
 have hr := runsB_ok r1 hs
 have hbw : Below w.heap.size w _ := K.out.1.1.1
 replace K := Lib.hid (K.out.and ((stays_wk (hk.ext hbw)).and (stays_rdr (hr.1.ext hbw))))
 have hm1 := drkL_le ws l (by have := hk.n2; omega)
 have hl80 := hr.2
 clear hbw hk hr hf hs
 have hF := fun W hk hc => Drunk_any A1 c1 ws B d l W hk hc (by omega)
 have rF := fun W hk hc => rDrunk_any A1 c1 ws B d l W hk hc (by omega)
 generalize drkL ws l = L1 at *
 generalize drkE ws l = E at *
 have HC := hd2 hF rF
 clear hF rF
 go_enter Try.func12, Try.ntmps12
 go_upto_region 1 with fail
 generalize (w.alloc (.cells #[.slice A1 ws.length c1] 24)) = W0 at *
 have q1 := cr 0 (K.out.1.1.1.2)
 go_upto_region 3 with (first
  | (go_at_call 44; have _t := K2; clear _t; refine (runs_any B d l _ K2.out.1.1.2.2).mono ?_; rw [F1.out]; rintro e w7 ⟨rfl, hb⟩; have K6 := Lib.hid (K2.out.on hb); clear hb)
  | (go_at_call 18; refine (few_any A1 c1 ws _ K.out.1.1.2.1).mono ?_; rw [F0.out]; rintro e w3 ⟨rfl, hb⟩; have K2 := Lib.hid (K.out.on hb); clear hb))
 clear q1
 clear K K2
 have q8 := cr 0 (K6.out.1.1.1.2)
 go_upto_region 4 with (go_at_call 45; refine (HC.out.1 _ K6.out.1.2.1 K6.out.1.2.2).mono ?_; rintro e w12 ⟨A4, c4, rfl, hr, -, hb⟩; have K11 := Lib.hid ((K6.out.on hb).and (stays_rd hr)); clear hr; clear hb)
 clear q8
 clear K6
 have q13 := cr 0 (K11.out.1.1.1.1.2)
 go_upto_region 5 with (go_at_call 50; refine (HC.out.2 _ K11.out.1.1.2.1 K11.out.1.1.2.2).mono ?_; rintro e w17 ⟨A7, c7, rfl, hr, hb⟩; have K16 := Lib.hid ((K11.out.on hb).and (stays_rd hr)); clear hr; clear hb)
 clear q13
 clear K11
 have K18 := Lib.hid ((K16.out.on ((Below.refl _ w17).alloc (Nat.le_refl _) (.cells #[.slice A7 L1.length c7, .int .i64 E] 45))).and (stays_blk (blk_new w17 #[.slice A7 L1.length c7, .int .i64 E] 45 rfl)))
 generalize w17.alloc (.cells #[.slice A7 L1.length c7, .int .i64 E] 45) = w19 at *
 generalize w17.heap.size = g9 at *
 clear K16
 go_wp2_with (first
  | (go_at_call 29; have _t := K20; clear _t; refine (same_yes A4 A7 c4 c7 L1 _ K20.out.1.1.1.2 K20.out.1.1.2 hm1).mono ?_; rintro e w25 ⟨rfl, hb⟩; have K24 := Lib.hid (K20.out.on hb); have z26 := cr 0 (K24.out.1.2); have z27 := cr 1 (K24.out.1.2); clear hb)
  | (go_at_call 20; refine (sanity_any _).mono ?_; rintro e w21 ⟨rfl, hb⟩; have K20 := Lib.hid (K18.out.on hb); have z22 := cr 0 (K20.out.1.2); have z23 := cr 1 (K20.out.1.2); clear hb))
 go_ret
 exact ⟨rfl, K24.out.1.1.1.1.1.1.1⟩
end Go.Proofs.Ytdadoelajhemjaa
