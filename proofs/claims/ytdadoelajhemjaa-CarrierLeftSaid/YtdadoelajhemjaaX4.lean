
/- Walk: the law CarrierLeft (its exits ahead). -/
import Derived.Test.YtdadoelajhemjaaL1
namespace Go.Proofs.Ytdadoelajhemjaa
open Go.RowKit Go.Shelf

set_option maxRecDepth 100000 in
set_option maxHeartbeats 8000000 in
theorem left_few (w : World) (A1 : Option Addr) (c1 : Nat) (ws : List Car) (r0 : WkIn w A1 ws) (s : Wt) (r2 : WtIn w s) (n : Int) (hf : fewB ws = false) : Calls Try.prog 15 #[.agg #[.slice A1 ws.length c1], s.v, .int .u8 n] w fun e w' => e = .returned (.bool true) ∧ Below w.heap.size w w' := by
 show Calls _ _ #[.agg #[.slice A1 ws.length c1], .agg #[.slice s.A0 s.ri.length s.c0, .slice s.A1 s.bo.length s.c1, .slice s.A2 s.lk.length s.c2, .slice s.A3 s.lo.length s.c3], .int .u8 n] _ _
 have hb : Below w.heap.size w ((w.alloc (.cells #[.slice A1 ws.length c1] 24)).alloc (.cells #[.slice s.A0 s.ri.length s.c0, .slice s.A1 s.bo.length s.c1, .slice s.A2 s.lk.length s.c2, .slice s.A3 s.lo.length s.c3] 27)) := ((Below.refl _ w).alloc (Nat.le_refl _) _).alloc (by simp) _
 have K := Lib.hid ((((stays_bl hb).and (stays_blk (blk_alloc (blk_new w #[.slice A1 ws.length c1] 24 rfl) _))).and (stays_blk (g := w.heap.size + 1) (blk_new (w.alloc (.cells #[.slice A1 ws.length c1] 24)) #[.slice s.A0 s.ri.length s.c0, .slice s.A1 s.bo.length s.c1, .slice s.A2 s.lk.length s.c2, .slice s.A3 s.lo.length s.c3] 27 (by simp)))).and ((stays_wkIn (r0.ext hb)).and (stays_wtIn (r2.ext hb))))
 clear hb
 have F0 := Lib.hid hf
 clear hf
 go_enter Try.func15, Try.ntmps15
 go_upto_region 1 with fail
 generalize ((w.alloc (.cells #[.slice A1 ws.length c1] 24)).alloc (.cells #[.slice s.A0 s.ri.length s.c0, .slice s.A1 s.bo.length s.c1, .slice s.A2 s.lk.length s.c2, .slice s.A3 s.lo.length s.c3] 27)) = W0 at *
 have q0 := cr 0 K.out.1.1.1.2
 have q3 := cr 0 K.out.1.1.2
 have q4 := cr 1 K.out.1.1.2
 have q5 := cr 2 K.out.1.1.2
 have q6 := cr 3 K.out.1.1.2
 go_wp2_with (first
  | (go_at_call 20; have _t := K2; clear _t; refine (sanity_any _).mono ?_; rintro e wz ⟨rfl, hb⟩; have KZ := Lib.hid (K2.out.on hb); clear hb)
  | (go_at_call 18; refine (few_any A1 c1 ws _ K.out.1.2.1).mono ?_; rw [F0.out]; rintro e w3 ⟨rfl, hb⟩; have K2 := Lib.hid (K.out.on hb); have p3 := cr 0 K2.out.1.1.2; have p4 := cr 1 K2.out.1.1.2; have p5 := cr 2 K2.out.1.1.2; have p6 := cr 3 K2.out.1.1.2; clear hb))
 go_ret
 exact ⟨rfl, KZ.out.1.1.1.1⟩
set_option maxRecDepth 100000 in
set_option maxHeartbeats 8000000 in
theorem left_wet (w : World) (A1 : Option Addr) (c1 : Nat) (ws : List Car) (r0 : WkIn w A1 ws) (s : Wt) (r2 : WtIn w s) (n : Int) (hf : fewB ws = true) (hs : wetB s = false) : Calls Try.prog 15 #[.agg #[.slice A1 ws.length c1], s.v, .int .u8 n] w fun e w' => e = .returned (.bool true) ∧ Below w.heap.size w w' := by
 show Calls _ _ #[.agg #[.slice A1 ws.length c1], .agg #[.slice s.A0 s.ri.length s.c0, .slice s.A1 s.bo.length s.c1, .slice s.A2 s.lk.length s.c2, .slice s.A3 s.lo.length s.c3], .int .u8 n] _ _
 have hb : Below w.heap.size w ((w.alloc (.cells #[.slice A1 ws.length c1] 24)).alloc (.cells #[.slice s.A0 s.ri.length s.c0, .slice s.A1 s.bo.length s.c1, .slice s.A2 s.lk.length s.c2, .slice s.A3 s.lo.length s.c3] 27)) := ((Below.refl _ w).alloc (Nat.le_refl _) _).alloc (by simp) _
 have K := Lib.hid ((((stays_bl hb).and (stays_blk (blk_alloc (blk_new w #[.slice A1 ws.length c1] 24 rfl) _))).and (stays_blk (g := w.heap.size + 1) (blk_new (w.alloc (.cells #[.slice A1 ws.length c1] 24)) #[.slice s.A0 s.ri.length s.c0, .slice s.A1 s.bo.length s.c1, .slice s.A2 s.lk.length s.c2, .slice s.A3 s.lo.length s.c3] 27 (by simp)))).and ((stays_wkIn (r0.ext hb)).and (stays_wtIn (r2.ext hb))))
 clear hb
 have F0 := Lib.hid hf
 have F1 := Lib.hid hs
 clear hf hs
 go_enter Try.func15, Try.ntmps15
 go_upto_region 1 with fail
 generalize ((w.alloc (.cells #[.slice A1 ws.length c1] 24)).alloc (.cells #[.slice s.A0 s.ri.length s.c0, .slice s.A1 s.bo.length s.c1, .slice s.A2 s.lk.length s.c2, .slice s.A3 s.lo.length s.c3] 27)) = W0 at *
 have q0 := cr 0 K.out.1.1.1.2
 have q3 := cr 0 K.out.1.1.2
 have q4 := cr 1 K.out.1.1.2
 have q5 := cr 2 K.out.1.1.2
 have q6 := cr 3 K.out.1.1.2
 go_wp2_with (first
  | (go_at_call 20; have _t := K6; clear _t; refine (sanity_any _).mono ?_; rintro e wz ⟨rfl, hb⟩; have KZ := Lib.hid (K6.out.on hb); clear hb)
  | (go_at_call 19; have _t := K2; clear _t; refine (wet_any s _ K2.out.1.2.2).mono ?_; rw [F1.out]; rintro e w7 ⟨rfl, hb⟩; have K6 := Lib.hid (K2.out.on hb); have p7 := cr 0 K6.out.1.1.1.2; have r3 := cr 0 K6.out.1.1.2; have r4 := cr 1 K6.out.1.1.2; have r5 := cr 2 K6.out.1.1.2; have r6 := cr 3 K6.out.1.1.2; clear hb)
  | (go_at_call 18; refine (few_any A1 c1 ws _ K.out.1.2.1).mono ?_; rw [F0.out]; rintro e w3 ⟨rfl, hb⟩; have K2 := Lib.hid (K.out.on hb); have p3 := cr 0 K2.out.1.1.2; have p4 := cr 1 K2.out.1.1.2; have p5 := cr 2 K2.out.1.1.2; have p6 := cr 3 K2.out.1.1.2; clear hb))
 go_ret
 exact ⟨rfl, KZ.out.1.1.1.1⟩
set_option maxRecDepth 100000 in
set_option maxHeartbeats 8000000 in
theorem left_zero (w : World) (A1 : Option Addr) (c1 : Nat) (ws : List Car) (r0 : WkIn w A1 ws) (s : Wt) (r2 : WtIn w s) (n : Int) (hf : fewB ws = true) (hs : wetB s = true) (hl : ws.length = 0) : Calls Try.prog 15 #[.agg #[.slice A1 ws.length c1], s.v, .int .u8 n] w fun e w' => e = .returned (.bool true) ∧ Below w.heap.size w w' := by
 show Calls _ _ #[.agg #[.slice A1 ws.length c1], .agg #[.slice s.A0 s.ri.length s.c0, .slice s.A1 s.bo.length s.c1, .slice s.A2 s.lk.length s.c2, .slice s.A3 s.lo.length s.c3], .int .u8 n] _ _
 have hb : Below w.heap.size w ((w.alloc (.cells #[.slice A1 ws.length c1] 24)).alloc (.cells #[.slice s.A0 s.ri.length s.c0, .slice s.A1 s.bo.length s.c1, .slice s.A2 s.lk.length s.c2, .slice s.A3 s.lo.length s.c3] 27)) := ((Below.refl _ w).alloc (Nat.le_refl _) _).alloc (by simp) _
 have K := Lib.hid ((((stays_bl hb).and (stays_blk (blk_alloc (blk_new w #[.slice A1 ws.length c1] 24 rfl) _))).and (stays_blk (g := w.heap.size + 1) (blk_new (w.alloc (.cells #[.slice A1 ws.length c1] 24)) #[.slice s.A0 s.ri.length s.c0, .slice s.A1 s.bo.length s.c1, .slice s.A2 s.lk.length s.c2, .slice s.A3 s.lo.length s.c3] 27 (by simp)))).and ((stays_wkIn (r0.ext hb)).and (stays_wtIn (r2.ext hb))))
 clear hb
 have F0 := Lib.hid hf
 have F1 := Lib.hid hs
 have hbw : Below w.heap.size w _ := K.out.1.1.1.1
 replace K := Lib.hid (K.out.and ((stays_wk ((few_wk r0 hf).ext hbw)).and (stays_wet ((wetB_ok r2 hs).ext hbw))))
 have hn90 : (outs ws).length ≤ 1000 := (few_wk r0 hf).n2
 clear hf hs hbw
 have hlz : ((ws.length : Int) == 0) = true := by simp [hl]
 clear hl
 go_enter Try.func15, Try.ntmps15
 go_upto_region 1 with fail
 generalize ((w.alloc (.cells #[.slice A1 ws.length c1] 24)).alloc (.cells #[.slice s.A0 s.ri.length s.c0, .slice s.A1 s.bo.length s.c1, .slice s.A2 s.lk.length s.c2, .slice s.A3 s.lo.length s.c3] 27)) = W0 at *
 have q0 := cr 0 K.out.1.1.1.1.2
 have q3 := cr 0 K.out.1.1.1.2
 have q4 := cr 1 K.out.1.1.1.2
 have q5 := cr 2 K.out.1.1.1.2
 have q6 := cr 3 K.out.1.1.1.2
 go_wp2_with (first
  | (go_at_call 20; have _t := K6; clear _t; refine (sanity_any _).mono ?_; rintro e wz ⟨rfl, hb⟩; have KZ := Lib.hid (K6.out.on hb); clear hb)
  | (go_at_call 19; have _t := K2; clear _t; refine (wet_any s _ K2.out.1.1.2.2).mono ?_; rw [F1.out]; rintro e w7 ⟨rfl, hb⟩; have K6 := Lib.hid (K2.out.on hb); have p7 := cr 0 K6.out.1.1.1.1.2; have r3 := cr 0 K6.out.1.1.1.2; have r4 := cr 1 K6.out.1.1.1.2; have r5 := cr 2 K6.out.1.1.1.2; have r6 := cr 3 K6.out.1.1.1.2; clear hb)
  | (go_at_call 18; refine (few_any A1 c1 ws _ K.out.1.1.2.1).mono ?_; rw [F0.out]; rintro e w3 ⟨rfl, hb⟩; have K2 := Lib.hid (K.out.on hb); have p3 := cr 0 K2.out.1.1.1.2; have p4 := cr 1 K2.out.1.1.1.2; have p5 := cr 2 K2.out.1.1.1.2; have p6 := cr 3 K2.out.1.1.1.2; clear hb))
 go_ret
 exact ⟨rfl, KZ.out.1.1.1.1.1⟩
set_option maxRecDepth 100000 in
set_option maxHeartbeats 8000000 in
theorem left_cw (w : World) (A1 : Option Addr) (c1 : Nat) (ws : List Car) (r0 : WkIn w A1 ws) (s : Wt) (r2 : WtIn w s) (n : Int) (hf : fewB ws = true) (hs : wetB s = true) (hl : ws.length ≠ 0) (hw : cwE ws s ≠ 0) : Calls Try.prog 15 #[.agg #[.slice A1 ws.length c1], s.v, .int .u8 n] w fun e w' => e = .returned (.bool true) ∧ Below w.heap.size w w' := by
 show Calls _ _ #[.agg #[.slice A1 ws.length c1], .agg #[.slice s.A0 s.ri.length s.c0, .slice s.A1 s.bo.length s.c1, .slice s.A2 s.lk.length s.c2, .slice s.A3 s.lo.length s.c3], .int .u8 n] _ _
 have hb : Below w.heap.size w ((w.alloc (.cells #[.slice A1 ws.length c1] 24)).alloc (.cells #[.slice s.A0 s.ri.length s.c0, .slice s.A1 s.bo.length s.c1, .slice s.A2 s.lk.length s.c2, .slice s.A3 s.lo.length s.c3] 27)) := ((Below.refl _ w).alloc (Nat.le_refl _) _).alloc (by simp) _
 have K := Lib.hid ((((stays_bl hb).and (stays_blk (blk_alloc (blk_new w #[.slice A1 ws.length c1] 24 rfl) _))).and (stays_blk (g := w.heap.size + 1) (blk_new (w.alloc (.cells #[.slice A1 ws.length c1] 24)) #[.slice s.A0 s.ri.length s.c0, .slice s.A1 s.bo.length s.c1, .slice s.A2 s.lk.length s.c2, .slice s.A3 s.lo.length s.c3] 27 (by simp)))).and ((stays_wkIn (r0.ext hb)).and (stays_wtIn (r2.ext hb))))
 clear hb
 have F0 := Lib.hid hf
 have F1 := Lib.hid hs
 have hbw : Below w.heap.size w _ := K.out.1.1.1.1
 replace K := Lib.hid (K.out.and ((stays_wk ((few_wk r0 hf).ext hbw)).and (stays_wet ((wetB_ok r2 hs).ext hbw))))
 have hn90 : (outs ws).length ≤ 1000 := (few_wk r0 hf).n2
 clear hf hs hbw
 obtain ⟨E, hE⟩ : ∃ E, cwE ws s = E := ⟨_, rfl⟩
 have F3 := Lib.hid hE
 have hz : (E != 0) = true := by rw [← hE]; simpa using hw
 have hlz : ((ws.length : Int) == 0) = false := by simpa using hl
 clear hw hE
 go_enter Try.func15, Try.ntmps15
 go_upto_region 1 with fail
 generalize ((w.alloc (.cells #[.slice A1 ws.length c1] 24)).alloc (.cells #[.slice s.A0 s.ri.length s.c0, .slice s.A1 s.bo.length s.c1, .slice s.A2 s.lk.length s.c2, .slice s.A3 s.lo.length s.c3] 27)) = W0 at *
 have q0 := cr 0 K.out.1.1.1.1.2
 have q3 := cr 0 K.out.1.1.1.2
 have q4 := cr 1 K.out.1.1.1.2
 have q5 := cr 2 K.out.1.1.1.2
 have q6 := cr 3 K.out.1.1.1.2
 go_wp2_with (first
  | (go_at_call 20; have _t := K8; clear _t; refine (sanity_any _).mono ?_; rintro e wz ⟨rfl, hb⟩; have KZ := Lib.hid (K8.out.on hb); clear hb)
  | (go_at_call 27; have _t := K6; clear _t; refine (CheckWater_any A1 c1 ws s _ K6.out.1.2.1 K6.out.1.2.2).mono ?_; rw [F3.out]; rintro e w8 ⟨rfl, hb⟩; have K8 := Lib.hid (K6.out.on hb); clear hb)
  | (go_at_call 19; have _t := K2; clear _t; refine (wet_any s _ K2.out.1.1.2.2).mono ?_; rw [F1.out]; rintro e w7 ⟨rfl, hb⟩; have K6 := Lib.hid (K2.out.on hb); have p7 := cr 0 K6.out.1.1.1.1.2; have r3 := cr 0 K6.out.1.1.1.2; have r4 := cr 1 K6.out.1.1.1.2; have r5 := cr 2 K6.out.1.1.1.2; have r6 := cr 3 K6.out.1.1.1.2; clear hb)
  | (go_at_call 18; refine (few_any A1 c1 ws _ K.out.1.1.2.1).mono ?_; rw [F0.out]; rintro e w3 ⟨rfl, hb⟩; have K2 := Lib.hid (K.out.on hb); have p3 := cr 0 K2.out.1.1.1.2; have p4 := cr 1 K2.out.1.1.1.2; have p5 := cr 2 K2.out.1.1.1.2; have p6 := cr 3 K2.out.1.1.1.2; clear hb))
 go_ret
 exact ⟨rfl, KZ.out.1.1.1.1.1⟩
end Go.Proofs.Ytdadoelajhemjaa
