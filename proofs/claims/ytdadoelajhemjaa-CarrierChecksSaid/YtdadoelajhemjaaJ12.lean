/- Walk: the law CarrierChecks. -/
import Derived.Test.YtdadoelajhemjaaL1
import Derived.Test.YtdadoelajhemjaaJ11
import Derived.Test.YtdadoelajhemjaaQ2
namespace Go.Proofs.Ytdadoelajhemjaa
open Go.RowKit Go.Shelf

set_option maxRecDepth 100000 in
set_option maxHeartbeats 8000000 in
theorem CarrierChecks_row (w : World) (A1 : Option Addr) (c1 : Nat) (ws : List Car) (r0 : WkIn w A1 ws) (id : Int) (_ : (Lit.int .i64 id).wf = true) :
  Calls Try.prog 17 #[.agg #[.slice A1 ws.length c1], .int .i64 id] w fun e w' => e = .returned (.bool true) ∧ Below w.heap.size w w' := by
 show Calls _ _ #[.agg #[.slice A1 ws.length c1], .int .i64 id] _ _
 have hb : Below w.heap.size w (w.alloc (.cells #[.slice A1 ws.length c1] 24)) := ((Below.refl _ w).alloc (Nat.le_refl _) _)
 have K := Lib.hid (((stays_bl hb).and (stays_blk (g := w.heap.size) (blk_new w #[.slice A1 ws.length c1] 24 rfl))).and (show Stays (fun _ => True) _ from ⟨trivial, fun _ _ _ _ => trivial⟩))
 replace K := Lib.hid (K.out.push (stays_wkIn (r0.ext hb)))
 clear hb
 cases hf : fewB ws with
 | false =>
  have F0 := Lib.hid hf
  clear hf
  go_enter Try.func17, Try.ntmps17
  go_upto_region 1 with fail
  generalize w.alloc (.cells #[.slice A1 ws.length c1] 24) = W0 at *
  have q1 := cr 0 (K.out.1.1.2)
  go_wp2_with (first
   | (go_at_call 20; have _t := K2; clear _t; refine (sanity_any _).mono ?_; rintro e w5 ⟨rfl, hb⟩; have K4 := Lib.hid (K2.out.on hb); clear hb)
   | (go_at_call 18; have _t := K; clear _t; refine (few_any A1 c1 ws _ K.out.1.2.1).mono ?_; rw [F0.out]; rintro e w3 ⟨rfl, hb⟩; have K2 := Lib.hid (K.out.on hb); clear hb))
  go_ret
  exact ⟨rfl, K4.out.1.1.1⟩
 | true =>
 have F0 := Lib.hid hf
 have hbw : Below w.heap.size w _ := K.out.1.1.1
 have hk := few_wk r0 hf
 clear hf
 replace K := Lib.hid (K.out.push (stays_wk (hk.ext hbw)))
 have hn1 := hk.n1
 have hn2 := hk.n2
 obtain ⟨hm1, hm2, hm3, hm4, hm5⟩ := ints_small (id := id) hn1 hn2
 clear hbw hk hn1 hn2
 have f1 := fun W hk => Heads2_any A1 c1 ws W hk
 have g1 := fun W hk => rHeads0_any A1 c1 ws W hk
 have f2 := fun W hk => Outlets_any A1 c1 ws W hk
 have g2 := fun W hk => rOutlets0_any A1 c1 ws W hk
 have f3 := fun W hk => Beds_any A1 c1 ws W hk
 have g3 := fun W hk => rBeds_any A1 c1 ws W hk
 have f4 := fun W hk => Path_any A1 c1 ws id W hk
 have g4 := fun W hk => rPath0_any A1 c1 ws id W hk
 have f5 := fun W hk => Below_any A1 c1 ws id W hk
 have g5 := fun W hk => rBelow0_any A1 c1 ws id W hk
 have f6 := fun W hk => Check_any A1 c1 ws W hk
 have g6 := fun W hk => rCheck_any A1 c1 ws W hk
 generalize hd2L ws = L1 at *
 generalize idL ws = L2 at *
 generalize bdL ws = L3 at *
 generalize sgL ws id ptX = L4 at *
 generalize sgL ws id blX = L5 at *
 generalize sigE ws id = E at *
 generalize checkE ws = E0 at *
 have HC1 := hd2 f1 g1
 have HC2 := hd2 f2 g2
 have HC3 := hd2 f3 g3
 have HC4 := hd2 f4 g4
 have HC5 := hd2 f5 g5
 have HC6 := hd2 f6 g6
 clear f1 g1 f2 g2 f3 g3 f4 g4 f5 g5 f6 g6
 go_enter Try.func17, Try.ntmps17
 go_upto_region 1 with fail
 generalize w.alloc (.cells #[.slice A1 ws.length c1] 24) = W0 at *
 have q1 := cr 0 (K.out.1.1.2)
 go_upto_region 3 with (go_at_call 18; have _t := K; clear _t; refine (few_any A1 c1 ws _ K.out.1.2.2.1).mono ?_; rw [F0.out]; rintro e w3 ⟨rfl, hb⟩; have K2 := Lib.hid (K.out.on hb); clear hb)
 clear q1
 clear K
 have q4 := cr 0 (K2.out.1.1.2)
 go_upto_region 4 with (go_at_call 62; have _t := K2; clear _t; refine (HC1.out.1 _ K2.out.1.2.1).mono ?_; rintro e w6 ⟨P1, p1, rfl, r1, hb⟩; have K5 := Lib.hid ((K2.out.on hb).push (stays_rd r1)); clear r1; clear hb)
 clear q4
 clear K2
 have q7 := cr 0 (K5.out.1.1.2)
 go_upto_region 5 with (go_at_call 65; have _t := K5; clear _t; refine (HC1.out.2 _ K5.out.1.2.2.1).mono ?_; rintro e w9 ⟨R1, r1c, rfl, r1, hb⟩; have K8 := Lib.hid ((K5.out.on hb).push (stays_rd r1)); clear r1; clear hb)
 clear q7
 clear K5
 have K10 := Lib.hid ((K8.out.on ((Below.refl _ w9).alloc (Nat.le_refl _) (.cells #[.slice R1 L1.length r1c, .int .i64 E0] 45))).push (stays_blk (blk_new w9 #[.slice R1 L1.length r1c, .int .i64 E0] 45 rfl)))
 generalize w9.alloc (.cells #[.slice R1 L1.length r1c, .int .i64 E0] 45) = w11 at *
 generalize w9.heap.size = g1 at *
 clear K8
 have q12 := cr 0 (K10.out.1.1.2)
 go_upto_region 6 with (go_at_call 66; have _t := K10; clear _t; refine (HC2.out.1 _ K10.out.1.2.2.2.2.1).mono ?_; rintro e w14 ⟨P2, p2, rfl, r1, hb⟩; have K13 := Lib.hid ((K10.out.on hb).push (stays_rd r1)); clear r1; clear hb)
 clear q12
 clear K10
 have q15 := cr 0 (K13.out.1.1.2)
 go_upto_region 7 with (go_at_call 67; have _t := K13; clear _t; refine (HC2.out.2 _ K13.out.1.2.2.2.2.2.1).mono ?_; rintro e w17 ⟨R2, r2c, rfl, r1, hb⟩; have K16 := Lib.hid ((K13.out.on hb).push (stays_rd r1)); clear r1; clear hb)
 clear q15
 clear K13
 have K18 := Lib.hid ((K16.out.on ((Below.refl _ w17).alloc (Nat.le_refl _) (.cells #[.slice R2 L2.length r2c, .int .i64 E0] 45))).push (stays_blk (blk_new w17 #[.slice R2 L2.length r2c, .int .i64 E0] 45 rfl)))
 generalize w17.alloc (.cells #[.slice R2 L2.length r2c, .int .i64 E0] 45) = w19 at *
 generalize w17.heap.size = g2 at *
 clear K16
 have q20 := cr 0 (K18.out.1.1.2)
 go_upto_region 8 with (go_at_call 68; have _t := K18; clear _t; refine (HC3.out.1 _ K18.out.1.2.2.2.2.2.2.2.1).mono ?_; rintro e w22 ⟨P3, p3, rfl, r1, hb⟩; have K21 := Lib.hid ((K18.out.on hb).push (stays_rd r1)); clear r1; clear hb)
 clear q20
 clear K18
 have q23 := cr 0 (K21.out.1.1.2)
 go_upto_region 9 with (go_at_call 69; have _t := K21; clear _t; refine (HC3.out.2 _ K21.out.1.2.2.2.2.2.2.2.2.1).mono ?_; rintro e w25 ⟨R3, r3c, rfl, r1, hb⟩; have K24 := Lib.hid ((K21.out.on hb).push (stays_rd r1)); clear r1; clear hb)
 clear q23
 clear K21
 have K26 := Lib.hid ((K24.out.on ((Below.refl _ w25).alloc (Nat.le_refl _) (.cells #[.slice R3 L3.length r3c, .int .i64 E0] 45))).push (stays_blk (blk_new w25 #[.slice R3 L3.length r3c, .int .i64 E0] 45 rfl)))
 generalize w25.alloc (.cells #[.slice R3 L3.length r3c, .int .i64 E0] 45) = w27 at *
 generalize w25.heap.size = g3 at *
 clear K24
 have q28 := cr 0 (K26.out.1.1.2)
 go_upto_region 10 with (go_at_call 70; have _t := K26; clear _t; refine (HC4.out.1 _ K26.out.1.2.2.2.2.2.2.2.2.2.2.1).mono ?_; rintro e w30 ⟨P4, p4, rfl, r1, hb⟩; have K29 := Lib.hid ((K26.out.on hb).push (stays_rd r1)); clear r1; clear hb)
 clear q28
 clear K26
 have q31 := cr 0 (K29.out.1.1.2)
 go_upto_region 11 with (go_at_call 71; have _t := K29; clear _t; refine (HC4.out.2 _ K29.out.1.2.2.2.2.2.2.2.2.2.2.2.1).mono ?_; rintro e w33 ⟨R4, r4c, rfl, r1, hb⟩; have K32 := Lib.hid ((K29.out.on hb).push (stays_rd r1)); clear r1; clear hb)
 clear q31
 clear K29
 have K34 := Lib.hid ((K32.out.on ((Below.refl _ w33).alloc (Nat.le_refl _) (.cells #[.slice R4 L4.length r4c, .int .i64 E] 45))).push (stays_blk (blk_new w33 #[.slice R4 L4.length r4c, .int .i64 E] 45 rfl)))
 generalize w33.alloc (.cells #[.slice R4 L4.length r4c, .int .i64 E] 45) = w35 at *
 generalize w33.heap.size = g4 at *
 clear K32
 have q36 := cr 0 (K34.out.1.1.2)
 go_upto_region 12 with (go_at_call 72; have _t := K34; clear _t; refine (HC5.out.1 _ K34.out.1.2.2.2.2.2.2.2.2.2.2.2.2.2.1).mono ?_; rintro e w38 ⟨P5, p5, rfl, r1, hb⟩; have K37 := Lib.hid ((K34.out.on hb).push (stays_rd r1)); clear r1; clear hb)
 clear q36
 clear K34
 have q39 := cr 0 (K37.out.1.1.2)
 go_upto_region 13 with (go_at_call 73; have _t := K37; clear _t; refine (HC5.out.2 _ K37.out.1.2.2.2.2.2.2.2.2.2.2.2.2.2.2.1).mono ?_; rintro e w41 ⟨R5, r5c, rfl, r1, hb⟩; have K40 := Lib.hid ((K37.out.on hb).push (stays_rd r1)); clear r1; clear hb)
 clear q39
 clear K37
 have K42 := Lib.hid ((K40.out.on ((Below.refl _ w41).alloc (Nat.le_refl _) (.cells #[.slice R5 L5.length r5c, .int .i64 E] 45))).push (stays_blk (blk_new w41 #[.slice R5 L5.length r5c, .int .i64 E] 45 rfl)))
 generalize w41.alloc (.cells #[.slice R5 L5.length r5c, .int .i64 E] 45) = w43 at *
 generalize w41.heap.size = g5 at *
 clear K40
 have z44 := cr 0 (K42.out.1.2.2.2.2.2.2.2.2.2.2.2.2.2.1)
 have z45 := cr 1 (K42.out.1.2.2.2.2.2.2.2.2.2.2.2.2.2.1)
 have z46 := cr 0 (K42.out.1.2.2.2.2.2.2.2.2.2.2.1)
 have z47 := cr 1 (K42.out.1.2.2.2.2.2.2.2.2.2.2.1)
 have z48 := cr 0 (K42.out.1.2.2.2.2.2.2.2.1)
 have z49 := cr 1 (K42.out.1.2.2.2.2.2.2.2.1)
 go_upto_region 14 with (first
  | (go_at_call 29; have _t := K58; clear _t; refine (same_yes P3 R3 p3 r3c L3 _ K58.out.1.2.2.2.2.2.2.2.2.2.1 K58.out.1.2.2.2.2.2.2.2.2.1 hm3).mono ?_; rintro e w67 ⟨rfl, hb⟩; have K66 := Lib.hid (K58.out.on hb); have z68 := cr 0 (K66.out.1.2.2.2.2.2.2.2.2.2.2.2.2.2.1); have z69 := cr 1 (K66.out.1.2.2.2.2.2.2.2.2.2.2.2.2.2.1); have z70 := cr 0 (K66.out.1.2.2.2.2.2.2.2.2.2.2.1); have z71 := cr 1 (K66.out.1.2.2.2.2.2.2.2.2.2.2.1); have z72 := cr 0 (K66.out.1.2.2.2.2.2.2.2.1); have z73 := cr 1 (K66.out.1.2.2.2.2.2.2.2.1); clear hb)
  | (go_at_call 29; have _t := K50; clear _t; refine (same_yes P2 R2 p2 r2c L2 _ K50.out.1.2.2.2.2.2.2.2.2.2.2.2.2.1 K50.out.1.2.2.2.2.2.2.2.2.2.2.2.1 hm2).mono ?_; rintro e w59 ⟨rfl, hb⟩; have K58 := Lib.hid (K50.out.on hb); have z60 := cr 0 (K58.out.1.2.2.2.2.2.2.2.2.2.2.2.2.2.1); have z61 := cr 1 (K58.out.1.2.2.2.2.2.2.2.2.2.2.2.2.2.1); have z62 := cr 0 (K58.out.1.2.2.2.2.2.2.2.2.2.2.1); have z63 := cr 1 (K58.out.1.2.2.2.2.2.2.2.2.2.2.1); have z64 := cr 0 (K58.out.1.2.2.2.2.2.2.2.1); have z65 := cr 1 (K58.out.1.2.2.2.2.2.2.2.1); clear hb)
  | (go_at_call 29; have _t := K42; clear _t; refine (same_yes P1 R1 p1 r1c L1 _ K42.out.1.2.2.2.2.2.2.2.2.2.2.2.2.2.2.2.1 K42.out.1.2.2.2.2.2.2.2.2.2.2.2.2.2.2.1 hm1).mono ?_; rintro e w51 ⟨rfl, hb⟩; have K50 := Lib.hid (K42.out.on hb); have z52 := cr 0 (K50.out.1.2.2.2.2.2.2.2.2.2.2.2.2.2.1); have z53 := cr 1 (K50.out.1.2.2.2.2.2.2.2.2.2.2.2.2.2.1); have z54 := cr 0 (K50.out.1.2.2.2.2.2.2.2.2.2.2.1); have z55 := cr 1 (K50.out.1.2.2.2.2.2.2.2.2.2.2.1); have z56 := cr 0 (K50.out.1.2.2.2.2.2.2.2.1); have z57 := cr 1 (K50.out.1.2.2.2.2.2.2.2.1); clear hb))
 refine wp_region_R (fun _ => true) ?_
 have K74 := Lib.hid (K66.out.on (Below.refl _ w67).drew)
 generalize w67.drew = X0 at *
 clear K66
 clear z44 z45 z46 z47 z48 z49 z68 z69 z70 z71 z72 z73 z60 z61 z62 z63 z64 z65 z52 z53 z54 z55 z56 z57
 refine bR 0 rfl fun K hK => ?_
 go_simp
 refine (sanity_any _).mono ?_
 rintro e X1 ⟨rfl, hb⟩
 dsimp only
 refine hK.out _ _ (fun _ => hb) ?_
 have K75 := Lib.hid (K74.out.on hb)
 clear hK hb K74
 have q0 := cr 0 (K75.out.1.1.2)
 refine bF 1 rfl ?_
 refine bT q0 2 rfl ?_
 refine bT q0 4 rfl ?_
 clear q0
 refine bR 3 rfl fun K hK => ?_
 go_simp
 refine (HC6.out.1 _ K75.out.1.2.2.2.2.2.2.2.2.2.2.2.2.2.2.2.2.1).mono ?_
 rintro e X2 ⟨rfl, hb⟩
 dsimp only
 refine hK.out _ _ (fun _ => hb) ?_
 have K76 := Lib.hid (K75.out.on hb)
 clear hK hb K75
 refine bR 5 rfl fun K hK => ?_
 go_simp
 refine (HC6.out.2 _ K76.out.1.2.2.2.2.2.2.2.2.2.2.2.2.2.2.2.2.1).mono ?_
 rintro e X3 ⟨rfl, hb⟩
 dsimp only
 refine hK.out _ _ (fun _ => hb) ?_
 have K77 := Lib.hid (K76.out.on hb)
 clear hK hb K76
 have q0 := cr 0 (K77.out.1.2.2.2.2.1)
 refine bF (v := .bool true) 6 rfl ?_
 refine bF 7 rfl ?_
 refine bF 8 rfl ?_
 refine bF 9 rfl ?_
 refine bF 10 rfl ?_
 refine bF 11 rfl ?_
 refine bF 12 rfl ?_
 refine bF 13 rfl ?_
 refine bT q0 14 rfl ?_
 clear q0
 refine bR 15 rfl fun K hK => ?_
 go_simp
 refine (same_yes P4 R4 p4 r4c L4 _ K77.out.1.2.2.2.2.2.2.1 K77.out.1.2.2.2.2.2.1 hm4).mono ?_
 rintro e X4 ⟨rfl, hb⟩
 dsimp only
 refine hK.out _ _ (fun _ => hb) ?_
 have K78 := Lib.hid (K77.out.on hb)
 clear hK hb K77
 have q0 := cr 1 (K78.out.1.2.2.2.2.1)
 have q1 := cr 0 (K78.out.1.2.1)
 refine bF 16 rfl ?_
 refine bF 17 rfl ?_
 refine bF 18 rfl ?_
 refine bF 19 rfl ?_
 refine bT q0 20 rfl ?_
 refine bF (v := .bool true) 21 rfl ?_
 refine bF 22 rfl ?_
 refine bF 23 rfl ?_
 refine bF 24 rfl ?_
 refine bF 25 rfl ?_
 refine bT q1 26 rfl ?_
 clear q0 q1
 refine bR 27 rfl fun K hK => ?_
 go_simp
 refine (same_yes P5 R5 p5 r5c L5 _ K78.out.1.2.2.2.1 K78.out.1.2.2.1 hm5).mono ?_
 rintro e X5 ⟨rfl, hb⟩
 dsimp only
 refine hK.out _ _ (fun _ => hb) ?_
 have K79 := Lib.hid (K78.out.on hb)
 clear hK hb K78
 have q0 := cr 1 (K79.out.1.2.1)
 refine bF 28 rfl ?_
 refine bF 29 rfl ?_
 refine bF 30 rfl ?_
 refine bF 31 rfl ?_
 refine bT q0 32 rfl ?_
 refine bF (v := .bool true) 33 rfl ?_
 refine bF 34 rfl ?_
 refine bF 35 rfl ?_
 refine bD ?_
 clear q0
 go_wp2
 go_ret
 exact ⟨rfl, K79.out.1.1.1⟩
end Go.Proofs.Ytdadoelajhemjaa
