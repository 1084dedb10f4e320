
/- Walk: the law CarrierBetween, behind its exits. -/
import Derived.Test.YtdadoelajhemjaaU4
import Derived.Test.YtdadoelajhemjaaB2
import Derived.Test.YtdadoelajhemjaaD3
import Derived.Test.YtdadoelajhemjaaN7
namespace Go.Proofs.Ytdadoelajhemjaa
open Go.RowKit Go.Shelf

theorem stays_spans {W : World} {A : Option Addr} {l : List Sp} (h : RdS W W.heap.size A l) : Stays (fun X => RdS X X.heap.size A l) W := ⟨h, fun _ _ a b => a.ext b⟩
set_option maxRecDepth 100000 in
set_option maxHeartbeats 8000000 in
theorem btw_ask (w : World) (A1 : Option Addr) (c1 : Nat) (ws : List Car) (r0 : WkIn w A1 ws) (cs : Cs) (r1 : CsIn w cs) (s : Wt) (r2 : WtIn w s) (id : Int) (B : Option Addr) (d : Nat) (us : List Int) (r4 : UsIn w B us) (hf : fewB ws = true) (hs : wetB s = true) (hc : casedB cs = true) (ha : askE ws cs id ≠ 0) : Calls Try.prog 16 #[.agg #[.slice A1 ws.length c1], cs.v, s.v, .int .i64 id, .slice B us.length d] w fun e w' => e = .returned (.bool true) ∧ Below w.heap.size w w' := by
 show Calls _ _ #[.agg #[.slice A1 ws.length c1], .agg #[.slice cs.A0 cs.ri.length cs.c0, .slice cs.A1 cs.bo.length cs.c1], .agg #[.slice s.A0 s.ri.length s.c0, .slice s.A1 s.bo.length s.c1, .slice s.A2 s.lk.length s.c2, .slice s.A3 s.lo.length s.c3], .int .i64 id, .slice B us.length d] _ _
 have hb : Below w.heap.size w (((w.alloc (.cells #[.slice A1 ws.length c1] 24)).alloc (.cells #[.slice cs.A0 cs.ri.length cs.c0, .slice cs.A1 cs.bo.length cs.c1] 51)).alloc (.cells #[.slice s.A0 s.ri.length s.c0, .slice s.A1 s.bo.length s.c1, .slice s.A2 s.lk.length s.c2, .slice s.A3 s.lo.length s.c3] 27)) := (((Below.refl _ w).alloc (Nat.le_refl _) _).alloc (by simp) _).alloc (by simp; omega) _
 have K := Lib.hid (((((stays_bl hb).and (stays_blk (blk_alloc (blk_alloc (blk_new w #[.slice A1 ws.length c1] 24 rfl) _) _))).and (stays_blk (g := w.heap.size + 1) (blk_alloc (blk_new (w.alloc (.cells #[.slice A1 ws.length c1] 24)) #[.slice cs.A0 cs.ri.length cs.c0, .slice cs.A1 cs.bo.length cs.c1] 51 (by simp)) _))).and (stays_blk (g := w.heap.size + 1 + 1) (blk_new ((w.alloc (.cells #[.slice A1 ws.length c1] 24)).alloc (.cells #[.slice cs.A0 cs.ri.length cs.c0, .slice cs.A1 cs.bo.length cs.c1] 51)) #[.slice s.A0 s.ri.length s.c0, .slice s.A1 s.bo.length s.c1, .slice s.A2 s.lk.length s.c2, .slice s.A3 s.lo.length s.c3] 27 (by simp)))).and (((stays_wkIn (r0.ext hb)).and (stays_csIn (r1.ext hb))).and ((stays_wtIn (r2.ext hb)).and (stays_usIn (r4.ext hb)))))
 clear hb
 have F0 := Lib.hid hf
 have F1 := Lib.hid hs
 have F2 := Lib.hid hc
 have hbw : Below w.heap.size w _ := K.out.1.1.1.1.1
 replace K := Lib.hid (K.out.and (((stays_wk ((few_wk r0 hf).ext hbw)).and (stays_csd ((casedB_ok r1 hc).ext hbw))).and (stays_wet ((wetB_ok r2 hs).ext hbw))))
 have hn90 : (outs ws).length ≤ 1000 := (few_wk r0 hf).n2
 clear hf hs hc hbw
 have hE : ∀ W, Wk W A1 ws → Csd W cs → Calls Try.prog 54 #[.agg #[.slice A1 ws.length c1], cs.v, .int .i64 id] W fun e w' => Below W.heap.size W w' ∧ e = .returned (.tuple #[.agg #[.int .i64 0, .int .i64 0, .slice none 0 0, .slice none 0 0, .slice none 0 0, .slice none 0 0, .slice none 0 0, .slice none 0 0, .slice none 0 0, .slice none 0 0], .int .i64 (askE ws cs id)]) := fun W hk hc => (Ends_any A1 c1 ws cs id W hk hc).mono (fun e w' h => by
  obtain ⟨hb, ⟨-, h⟩ | ⟨h0, -⟩⟩ := h
  ·exact ⟨hb, h⟩
  ·exact absurd h0 ha)
 have hz : (askE ws cs id != 0) = true := by simpa using ha
 generalize askE ws cs id = E at *
 have HC := Lib.hid hE
 clear hE ha
 go_enter Try.func16, Try.ntmps16
 go_upto_region 1 with fail
 generalize (((w.alloc (.cells #[.slice A1 ws.length c1] 24)).alloc (.cells #[.slice cs.A0 cs.ri.length cs.c0, .slice cs.A1 cs.bo.length cs.c1] 51)).alloc (.cells #[.slice s.A0 s.ri.length s.c0, .slice s.A1 s.bo.length s.c1, .slice s.A2 s.lk.length s.c2, .slice s.A3 s.lo.length s.c3] 27)) = W0 at *
 have q0 := cr 0 K.out.1.1.1.1.1.2
 have q1 := cr 0 K.out.1.1.1.1.2
 have q2 := cr 1 K.out.1.1.1.1.2
 have q3 := cr 0 K.out.1.1.1.2
 have q4 := cr 1 K.out.1.1.1.2
 have q5 := cr 2 K.out.1.1.1.2
 have q6 := cr 3 K.out.1.1.1.2
 go_upto_region 3 with (first
  | (go_at_call 30; have _t := K6; clear _t; refine (cased_any cs _ K6.out.1.1.2.1.2).mono ?_; rw [F2.out]; rintro e w8 ⟨rfl, hb⟩; have K8 := Lib.hid (K6.out.on hb); clear hb)
  | (go_at_call 19; have _t := K2; clear _t; refine (wet_any s _ K2.out.1.1.2.2.1).mono ?_; rw [F1.out]; rintro e w7 ⟨rfl, hb⟩; have K6 := Lib.hid (K2.out.on hb); have p1 := cr 0 K6.out.1.1.1.1.2; have p2 := cr 1 K6.out.1.1.1.1.2; clear hb)
  | (go_at_call 18; refine (few_any A1 c1 ws _ K.out.1.1.2.1.1).mono ?_; rw [F0.out]; rintro e w3 ⟨rfl, hb⟩; have K2 := Lib.hid (K.out.on hb); have p3 := cr 0 K2.out.1.1.1.2; have p4 := cr 1 K2.out.1.1.1.2; have p5 := cr 2 K2.out.1.1.1.2; have p6 := cr 3 K2.out.1.1.1.2; clear hb))
 clear q0 q1 q2 q3 q4 q5 q6 p1 p2 p3 p4 p5 p6 K K2 K6
 have q0 := cr 0 K8.out.1.1.1.1.1.2
 have q1 := cr 0 K8.out.1.1.1.1.2
 have q2 := cr 1 K8.out.1.1.1.1.2
 have q3 := cr 0 K8.out.1.1.1.2
 have q4 := cr 1 K8.out.1.1.1.2
 have q5 := cr 2 K8.out.1.1.1.2
 have q6 := cr 3 K8.out.1.1.1.2
 go_upto_region 4 with (go_at_call 54; refine (HC.out _ K8.out.1.2.1.1 K8.out.1.2.1.2).mono ?_; rintro e w9 ⟨hb, rfl⟩; have K9 := Lib.hid (K8.out.on hb); clear hb)
 have KA := Lib.hid (K9.out.on ((Below.refl _ w9).alloc (Nat.le_refl _) (.cells #[.int .i64 0, .int .i64 0, .slice none 0 0, .slice none 0 0, .slice none 0 0, .slice none 0 0, .slice none 0 0, .slice none 0 0, .slice none 0 0, .slice none 0 0] 91)))
 go_wp2_with (go_at_call 20; refine (sanity_any _).mono ?_; rintro e wa ⟨rfl, hb⟩; have KB := Lib.hid (KA.out.on hb); clear hb)
 go_ret
 exact ⟨rfl, KB.out.1.1.1.1.1.1⟩
end Go.Proofs.Ytdadoelajhemjaa
