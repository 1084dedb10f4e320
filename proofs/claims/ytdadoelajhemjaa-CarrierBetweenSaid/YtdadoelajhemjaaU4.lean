/- Walk: the law CarrierBetween (its exits ahead). -/
import Derived.Test.YtdadoelajhemjaaL1
import Derived.Test.YtdadoelajhemjaaD4
import Derived.Test.YtdadoelajhemjaaU2
import Derived.Test.YtdadoelajhemjaaU3
namespace Go.Proofs.Ytdadoelajhemjaa
open Go.RowKit Go.Shelf

set_option maxRecDepth 100000 in
set_option maxHeartbeats 8000000 in
theorem btw_few (w : World) (A1 : Option Addr) (c1 : Nat) (ws : List Car) (r0 : WkIn w A1 ws) (cs : Cs) (r1 : CsIn w cs) (s : Wt) (r2 : WtIn w s) (id : Int) (B : Option Addr) (d : Nat) (us : List Int) (r4 : UsIn w B us) (hf : fewB ws = false) : Calls Try.prog 16 #[.agg #[.slice A1 ws.length c1], cs.v, s.v, .int .i64 id, .slice B us.length d] w fun e w' => e = .returned (.bool true) ∧ Below w.heap.size w w' := by
 show Calls _ _ #[.agg #[.slice A1 ws.length c1], .agg #[.slice cs.A0 cs.ri.length cs.c0, .slice cs.A1 cs.bo.length cs.c1], .agg #[.slice s.A0 s.ri.length s.c0, .slice s.A1 s.bo.length s.c1, .slice s.A2 s.lk.length s.c2, .slice s.A3 s.lo.length s.c3], .int .i64 id, .slice B us.length d] _ _
 have hb : Below w.heap.size w (((w.alloc (.cells #[.slice A1 ws.length c1] 24)).alloc (.cells #[.slice cs.A0 cs.ri.length cs.c0, .slice cs.A1 cs.bo.length cs.c1] 51)).alloc (.cells #[.slice s.A0 s.ri.length s.c0, .slice s.A1 s.bo.length s.c1, .slice s.A2 s.lk.length s.c2, .slice s.A3 s.lo.length s.c3] 27)) := (((Below.refl _ w).alloc (Nat.le_refl _) _).alloc (by simp) _).alloc (by simp; omega) _
 have K := Lib.hid (((((stays_bl hb).and (stays_blk (blk_alloc (blk_alloc (blk_new w #[.slice A1 ws.length c1] 24 rfl) _) _))).and (stays_blk (g := w.heap.size + 1) (blk_alloc (blk_new (w.alloc (.cells #[.slice A1 ws.length c1] 24)) #[.slice cs.A0 cs.ri.length cs.c0, .slice cs.A1 cs.bo.length cs.c1] 51 (by simp)) _))).and (stays_blk (g := w.heap.size + 1 + 1) (blk_new ((w.alloc (.cells #[.slice A1 ws.length c1] 24)).alloc (.cells #[.slice cs.A0 cs.ri.length cs.c0, .slice cs.A1 cs.bo.length cs.c1] 51)) #[.slice s.A0 s.ri.length s.c0, .slice s.A1 s.bo.length s.c1, .slice s.A2 s.lk.length s.c2, .slice s.A3 s.lo.length s.c3] 27 (by simp)))).and (((stays_wkIn (r0.ext hb)).and (stays_csIn (r1.ext hb))).and ((stays_wtIn (r2.ext hb)).and (stays_usIn (r4.ext hb)))))
 clear hb
 have F0 := Lib.hid hf
 clear hf
 go_enter Try.func16, Try.ntmps16
 go_upto_region 1 with fail
 generalize (((w.alloc (.cells #[.slice A1 ws.length c1] 24)).alloc (.cells #[.slice cs.A0 cs.ri.length cs.c0, .slice cs.A1 cs.bo.length cs.c1] 51)).alloc (.cells #[.slice s.A0 s.ri.length s.c0, .slice s.A1 s.bo.length s.c1, .slice s.A2 s.lk.length s.c2, .slice s.A3 s.lo.length s.c3] 27)) = W0 at *
 have q0 := cr 0 K.out.1.1.1.1.2
 have q1 := cr 0 K.out.1.1.1.2
 have q2 := cr 1 K.out.1.1.1.2
 have q3 := cr 0 K.out.1.1.2
 have q4 := cr 1 K.out.1.1.2
 have q5 := cr 2 K.out.1.1.2
 have q6 := cr 3 K.out.1.1.2
 go_wp2_with (first
  | (go_at_call 20; have _t := K2; clear _t; refine (sanity_any _).mono ?_; rintro e w7 ⟨rfl, hb⟩; have K6 := Lib.hid (K2.out.on hb); clear hb)
  | (go_at_call 18; refine (few_any A1 c1 ws _ K.out.1.2.1.1).mono ?_; rw [F0.out]; rintro e w3 ⟨rfl, hb⟩; have K2 := Lib.hid (K.out.on hb); clear hb))
 go_ret
 exact ⟨rfl, K6.out.1.1.1.1.1⟩
set_option maxRecDepth 100000 in
set_option maxHeartbeats 8000000 in
theorem btw_wet (w : World) (A1 : Option Addr) (c1 : Nat) (ws : List Car) (r0 : WkIn w A1 ws) (cs : Cs) (r1 : CsIn w cs) (s : Wt) (r2 : WtIn w s) (id : Int) (B : Option Addr) (d : Nat) (us : List Int) (r4 : UsIn w B us) (hf : fewB ws = true) (hs : wetB s = false) : Calls Try.prog 16 #[.agg #[.slice A1 ws.length c1], cs.v, s.v, .int .i64 id, .slice B us.length d] w fun e w' => e = .returned (.bool true) ∧ Below w.heap.size w w' := by
 show Calls _ _ #[.agg #[.slice A1 ws.length c1], .agg #[.slice cs.A0 cs.ri.length cs.c0, .slice cs.A1 cs.bo.length cs.c1], .agg #[.slice s.A0 s.ri.length s.c0, .slice s.A1 s.bo.length s.c1, .slice s.A2 s.lk.length s.c2, .slice s.A3 s.lo.length s.c3], .int .i64 id, .slice B us.length d] _ _
 have hb : Below w.heap.size w (((w.alloc (.cells #[.slice A1 ws.length c1] 24)).alloc (.cells #[.slice cs.A0 cs.ri.length cs.c0, .slice cs.A1 cs.bo.length cs.c1] 51)).alloc (.cells #[.slice s.A0 s.ri.length s.c0, .slice s.A1 s.bo.length s.c1, .slice s.A2 s.lk.length s.c2, .slice s.A3 s.lo.length s.c3] 27)) := (((Below.refl _ w).alloc (Nat.le_refl _) _).alloc (by simp) _).alloc (by simp; omega) _
 have K := Lib.hid (((((stays_bl hb).and (stays_blk (blk_alloc (blk_alloc (blk_new w #[.slice A1 ws.length c1] 24 rfl) _) _))).and (stays_blk (g := w.heap.size + 1) (blk_alloc (blk_new (w.alloc (.cells #[.slice A1 ws.length c1] 24)) #[.slice cs.A0 cs.ri.length cs.c0, .slice cs.A1 cs.bo.length cs.c1] 51 (by simp)) _))).and (stays_blk (g := w.heap.size + 1 + 1) (blk_new ((w.alloc (.cells #[.slice A1 ws.length c1] 24)).alloc (.cells #[.slice cs.A0 cs.ri.length cs.c0, .slice cs.A1 cs.bo.length cs.c1] 51)) #[.slice s.A0 s.ri.length s.c0, .slice s.A1 s.bo.length s.c1, .slice s.A2 s.lk.length s.c2, .slice s.A3 s.lo.length s.c3] 27 (by simp)))).and (((stays_wkIn (r0.ext hb)).and (stays_csIn (r1.ext hb))).and ((stays_wtIn (r2.ext hb)).and (stays_usIn (r4.ext hb)))))
 clear hb
 have F0 := Lib.hid hf
 have F1 := Lib.hid hs
 clear hf hs
 go_enter Try.func16, Try.ntmps16
 go_upto_region 1 with fail
 generalize (((w.alloc (.cells #[.slice A1 ws.length c1] 24)).alloc (.cells #[.slice cs.A0 cs.ri.length cs.c0, .slice cs.A1 cs.bo.length cs.c1] 51)).alloc (.cells #[.slice s.A0 s.ri.length s.c0, .slice s.A1 s.bo.length s.c1, .slice s.A2 s.lk.length s.c2, .slice s.A3 s.lo.length s.c3] 27)) = W0 at *
 have q0 := cr 0 K.out.1.1.1.1.2
 have q1 := cr 0 K.out.1.1.1.2
 have q2 := cr 1 K.out.1.1.1.2
 have q3 := cr 0 K.out.1.1.2
 have q4 := cr 1 K.out.1.1.2
 have q5 := cr 2 K.out.1.1.2
 have q6 := cr 3 K.out.1.1.2
 go_wp2_with (first
  | (go_at_call 20; have _t := K6; clear _t; refine (sanity_any _).mono ?_; rintro e w9 ⟨rfl, hb⟩; have K8 := Lib.hid (K6.out.on hb); clear hb)
  | (go_at_call 19; have _t := K2; clear _t; refine (wet_any s _ K2.out.1.2.2.1).mono ?_; rw [F1.out]; rintro e w7 ⟨rfl, hb⟩; have K6 := Lib.hid (K2.out.on hb); clear hb)
  | (go_at_call 18; refine (few_any A1 c1 ws _ K.out.1.2.1.1).mono ?_; rw [F0.out]; rintro e w3 ⟨rfl, hb⟩; have K2 := Lib.hid (K.out.on hb); have p3 := cr 0 K2.out.1.1.2; have p4 := cr 1 K2.out.1.1.2; have p5 := cr 2 K2.out.1.1.2; have p6 := cr 3 K2.out.1.1.2; clear hb))
 go_ret
 exact ⟨rfl, K8.out.1.1.1.1.1⟩
set_option maxRecDepth 100000 in
set_option maxHeartbeats 8000000 in
theorem btw_cased (w : World) (A1 : Option Addr) (c1 : Nat) (ws : List Car) (r0 : WkIn w A1 ws) (cs : Cs) (r1 : CsIn w cs) (s : Wt) (r2 : WtIn w s) (id : Int) (B : Option Addr) (d : Nat) (us : List Int) (r4 : UsIn w B us) (hf : fewB ws = true) (hs : wetB s = true) (hc : casedB cs = false) : Calls Try.prog 16 #[.agg #[.slice A1 ws.length c1], cs.v, s.v, .int .i64 id, .slice B us.length d] w fun e w' => e = .returned (.bool true) ∧ Below w.heap.size w w' := by
 show Calls _ _ #[.agg #[.slice A1 ws.length c1], .agg #[.slice cs.A0 cs.ri.length cs.c0, .slice cs.A1 cs.bo.length cs.c1], .agg #[.slice s.A0 s.ri.length s.c0, .slice s.A1 s.bo.length s.c1, .slice s.A2 s.lk.length s.c2, .slice s.A3 s.lo.length s.c3], .int .i64 id, .slice B us.length d] _ _
 have hb : Below w.heap.size w (((w.alloc (.cells #[.slice A1 ws.length c1] 24)).alloc (.cells #[.slice cs.A0 cs.ri.length cs.c0, .slice cs.A1 cs.bo.length cs.c1] 51)).alloc (.cells #[.slice s.A0 s.ri.length s.c0, .slice s.A1 s.bo.length s.c1, .slice s.A2 s.lk.length s.c2, .slice s.A3 s.lo.length s.c3] 27)) := (((Below.refl _ w).alloc (Nat.le_refl _) _).alloc (by simp) _).alloc (by simp; omega) _
 have K := Lib.hid (((((stays_bl hb).and (stays_blk (blk_alloc (blk_alloc (blk_new w #[.slice A1 ws.length c1] 24 rfl) _) _))).and (stays_blk (g := w.heap.size + 1) (blk_alloc (blk_new (w.alloc (.cells #[.slice A1 ws.length c1] 24)) #[.slice cs.A0 cs.ri.length cs.c0, .slice cs.A1 cs.bo.length cs.c1] 51 (by simp)) _))).and (stays_blk (g := w.heap.size + 1 + 1) (blk_new ((w.alloc (.cells #[.slice A1 ws.length c1] 24)).alloc (.cells #[.slice cs.A0 cs.ri.length cs.c0, .slice cs.A1 cs.bo.length cs.c1] 51)) #[.slice s.A0 s.ri.length s.c0, .slice s.A1 s.bo.length s.c1, .slice s.A2 s.lk.length s.c2, .slice s.A3 s.lo.length s.c3] 27 (by simp)))).and (((stays_wkIn (r0.ext hb)).and (stays_csIn (r1.ext hb))).and ((stays_wtIn (r2.ext hb)).and (stays_usIn (r4.ext hb)))))
 clear hb
 have F0 := Lib.hid hf
 have F1 := Lib.hid hs
 have F2 := Lib.hid hc
 clear hf hs hc
 go_enter Try.func16, Try.ntmps16
 go_upto_region 1 with fail
 generalize (((w.alloc (.cells #[.slice A1 ws.length c1] 24)).alloc (.cells #[.slice cs.A0 cs.ri.length cs.c0, .slice cs.A1 cs.bo.length cs.c1] 51)).alloc (.cells #[.slice s.A0 s.ri.length s.c0, .slice s.A1 s.bo.length s.c1, .slice s.A2 s.lk.length s.c2, .slice s.A3 s.lo.length s.c3] 27)) = W0 at *
 have q0 := cr 0 K.out.1.1.1.1.2
 have q1 := cr 0 K.out.1.1.1.2
 have q2 := cr 1 K.out.1.1.1.2
 have q3 := cr 0 K.out.1.1.2
 have q4 := cr 1 K.out.1.1.2
 have q5 := cr 2 K.out.1.1.2
 have q6 := cr 3 K.out.1.1.2
 go_wp2_with (first
  | (go_at_call 20; have _t := K8; clear _t; refine (sanity_any _).mono ?_; rintro e w9 ⟨rfl, hb⟩; have K9 := Lib.hid (K8.out.on hb); clear hb)
  | (go_at_call 30; have _t := K6; clear _t; refine (cased_any cs _ K6.out.1.2.1.2).mono ?_; rw [F2.out]; rintro e w8 ⟨rfl, hb⟩; have K8 := Lib.hid (K6.out.on hb); clear hb)
  | (go_at_call 19; have _t := K2; clear _t; refine (wet_any s _ K2.out.1.2.2.1).mono ?_; rw [F1.out]; rintro e w7 ⟨rfl, hb⟩; have K6 := Lib.hid (K2.out.on hb); have p1 := cr 0 K6.out.1.1.1.2; have p2 := cr 1 K6.out.1.1.1.2; clear hb)
  | (go_at_call 18; refine (few_any A1 c1 ws _ K.out.1.2.1.1).mono ?_; rw [F0.out]; rintro e w3 ⟨rfl, hb⟩; have K2 := Lib.hid (K.out.on hb); have p3 := cr 0 K2.out.1.1.2; have p4 := cr 1 K2.out.1.1.2; have p5 := cr 2 K2.out.1.1.2; have p6 := cr 3 K2.out.1.1.2; clear hb))
 go_ret
 exact ⟨rfl, K9.out.1.1.1.1.1⟩
end Go.Proofs.Ytdadoelajhemjaa
