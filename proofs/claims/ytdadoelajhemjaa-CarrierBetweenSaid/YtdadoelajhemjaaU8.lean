
/- Walk: the law CarrierBetween, where the water does not fit the case. -/
import Derived.Test.YtdadoelajhemjaaU5
import Derived.Test.YtdadoelajhemjaaM5
import Derived.Test.YtdadoelajhemjaaU7
namespace Go.Proofs.Ytdadoelajhemjaa
open Go.RowKit Go.Shelf

set_option maxRecDepth 100000 in
set_option maxHeartbeats 8000000 in
theorem btw_not (w : World) (A1 : Option Addr) (c1 : Nat) (ws : List Car) (r0 : WkIn w A1 ws) (cs : Cs) (r1 : CsIn w cs) (s : Wt) (r2 : WtIn w s) (id : Int) (B : Option Addr) (d : Nat) (us : List Int) (r4 : UsIn w B us) (hf : fewB ws = true) (hs : wetB s = true) (hc : casedB cs = true) (ha : askE ws cs id = 0) (x : Nat) (hx : idxO ws id = some x) (hxl : x < (outs ws).length) (hfit : ¬ (waterE ws s = 0 ∧ fitsB cs s = true)) : Calls Try.prog 16 #[.agg #[.slice A1 ws.length c1], cs.v, s.v, .int .i64 id, .slice B us.length d] w fun e w' => e = .returned (.bool true) ∧ Below w.heap.size w w' := by
 obtain ⟨E, R, hER, hFI⟩ : ∃ (E : Int) (R : Bool), (E ≠ 0 ∨ E = 0 ∧ R = false) ∧ ∀ W, Wk W A1 ws → Csd W cs → Wet W s → Calls Try.prog 46 #[.agg #[.slice A1 ws.length c1], cs.v, s.v] W fun e w' => e = .returned (.tuple #[.bool R, .int .i64 E]) ∧ Below W.heap.size W w' := ⟨fitE ws cs s, fitR ws cs s, by
  have e1 : fitE ws cs s = waterE ws s := by unfold fitE; rw [if_pos (cc_of_ask ha)]
  unfold fitR
  rw [e1]
  by_cases h0 : waterE ws s = 0
  ·rw [if_pos h0]
   cases hb : fitsB cs s with
   | false => exact .inr ⟨h0, rfl⟩
   | true => exact absurd ⟨h0, hb⟩ hfit
  ·exact .inl h0, fun W a b c => Fits_any A1 c1 ws cs s W a b c⟩
 have HFI := hd2 hFI hER
 clear hFI hER hfit
 show Calls _ _ #[.agg #[.slice A1 ws.length c1], .agg #[.slice cs.A0 cs.ri.length cs.c0, .slice cs.A1 cs.bo.length cs.c1], .agg #[.slice s.A0 s.ri.length s.c0, .slice s.A1 s.bo.length s.c1, .slice s.A2 s.lk.length s.c2, .slice s.A3 s.lo.length s.c3], .int .i64 id, .slice B us.length d] _ _
 have hb : Below w.heap.size w (((w.alloc (.cells #[.slice A1 ws.length c1] 24)).alloc (.cells #[.slice cs.A0 cs.ri.length cs.c0, .slice cs.A1 cs.bo.length cs.c1] 51)).alloc (.cells #[.slice s.A0 s.ri.length s.c0, .slice s.A1 s.bo.length s.c1, .slice s.A2 s.lk.length s.c2, .slice s.A3 s.lo.length s.c3] 27)) := (((Below.refl _ w).alloc (Nat.le_refl _) _).alloc (by simp) _).alloc (by simp; omega) _
 have K := Lib.hid (((((stays_bl hb).and (stays_blk (blk_alloc (blk_alloc (blk_new w #[.slice A1 ws.length c1] 24 rfl) _) _))).and (stays_blk (g := w.heap.size + 1) (blk_alloc (blk_new (w.alloc (.cells #[.slice A1 ws.length c1] 24)) #[.slice cs.A0 cs.ri.length cs.c0, .slice cs.A1 cs.bo.length cs.c1] 51 (by simp)) _))).and (stays_blk (g := w.heap.size + 1 + 1) (blk_new ((w.alloc (.cells #[.slice A1 ws.length c1] 24)).alloc (.cells #[.slice cs.A0 cs.ri.length cs.c0, .slice cs.A1 cs.bo.length cs.c1] 51)) #[.slice s.A0 s.ri.length s.c0, .slice s.A1 s.bo.length s.c1, .slice s.A2 s.lk.length s.c2, .slice s.A3 s.lo.length s.c3] 27 (by simp)))).and (((stays_wkIn (r0.ext hb)).and (stays_csIn (r1.ext hb))).and ((stays_wtIn (r2.ext hb)).and (stays_usIn (r4.ext hb)))))
 clear hb
 have F0 := Lib.hid hf
 have F1 := Lib.hid hs
 have F2 := Lib.hid hc
 have hbw : Below w.heap.size w _ := K.out.1.1.1.1.1
 replace K := Lib.hid (K.out.and (((stays_wk ((few_wk r0 hf).ext hbw)).and (stays_csd ((casedB_ok r1 hc).ext hbw))).and (stays_wet ((wetB_ok r2 hs).ext hbw))))
 have hn90 : (outs ws).length ≤ 1000 := (few_wk r0 hf).n2
 clear hf hs hc hbw
 obtain ⟨lo, hi, hlh⟩ : ∃ lo hi : Int, endsF ws cs x = (lo, hi) := ⟨_, _, rfl⟩
 have hE : ∀ W, Wk W A1 ws → Csd W cs → Calls Try.prog 54 #[.agg #[.slice A1 ws.length c1], cs.v, .int .i64 id] W fun e w' => ∃ s1 t1 : Wt, Below W.heap.size W w' ∧ e = .returned (.tuple #[.agg #[.int .i64 lo, .int .i64 hi, .slice s1.A0 s1.ri.length s1.c0, .slice s1.A1 s1.bo.length s1.c1, .slice s1.A2 s1.lk.length s1.c2, .slice s1.A3 s1.lo.length s1.c3, .slice t1.A0 t1.ri.length t1.c0, .slice t1.A1 t1.bo.length t1.c1, .slice t1.A2 t1.lk.length t1.c2, .slice t1.A3 t1.lo.length t1.c3], .int .i64 0]) ∧ Wet w' s1 ∧ Wet w' t1 ∧ Corner ws cs x false s1 ∧ Corner ws cs x true t1 := fun W hk hc => (Ends_any A1 c1 ws cs id W hk hc).mono (fun e w' h => by
  obtain ⟨hb, ⟨h0, -⟩ | ⟨-, x', s1, t1, e1, e2, h1, h2, h3, h4, -⟩⟩ := h
  ·exact absurd ha h0
  ·rw [hx] at e1
   cases e1
   rw [hlh] at e2
   exact ⟨s1, t1, hb, e2, h1, h2, h3, h4⟩)
 have HC := hd5 hE ha hx hxl hlh
 clear hE ha hlh
 go_enter Try.func16, Try.ntmps16
 go_upto_region 1 with fail
 generalize (((w.alloc (.cells #[.slice A1 ws.length c1] 24)).alloc (.cells #[.slice cs.A0 cs.ri.length cs.c0, .slice cs.A1 cs.bo.length cs.c1] 51)).alloc (.cells #[.slice s.A0 s.ri.length s.c0, .slice s.A1 s.bo.length s.c1, .slice s.A2 s.lk.length s.c2, .slice s.A3 s.lo.length s.c3] 27)) = W0 at *
 have q0 := cr 0 K.out.1.1.1.1.1.2
 have q1 := cr 0 K.out.1.1.1.1.2
 have q2 := cr 1 K.out.1.1.1.1.2
 have q3 := cr 0 K.out.1.1.1.2
 have q4 := cr 1 K.out.1.1.1.2
 have q5 := cr 2 K.out.1.1.1.2
 have q6 := cr 3 K.out.1.1.1.2
 go_upto_region 3 with (first
  | (go_at_call 30; have _t := K6; clear _t; refine (cased_any cs _ K6.out.1.1.2.1.2).mono ?_; rw [F2.out]; rintro e w8 ⟨rfl, hb⟩; have K8 := Lib.hid (K6.out.on hb); clear hb)
  | (go_at_call 19; have _t := K2; clear _t; refine (wet_any s _ K2.out.1.1.2.2.1).mono ?_; rw [F1.out]; rintro e w7 ⟨rfl, hb⟩; have K6 := Lib.hid (K2.out.on hb); have p1 := cr 0 K6.out.1.1.1.1.2; have p2 := cr 1 K6.out.1.1.1.1.2; clear hb)
  | (go_at_call 18; refine (few_any A1 c1 ws _ K.out.1.1.2.1.1).mono ?_; rw [F0.out]; rintro e w3 ⟨rfl, hb⟩; have K2 := Lib.hid (K.out.on hb); have p3 := cr 0 K2.out.1.1.1.2; have p4 := cr 1 K2.out.1.1.1.2; have p5 := cr 2 K2.out.1.1.1.2; have p6 := cr 3 K2.out.1.1.1.2; clear hb))
 clear q0 q1 q2 q3 q4 q5 q6 p1 p2 p3 p4 p5 p6 K K2 K6
 have q0 := cr 0 K8.out.1.1.1.1.1.2
 have q1 := cr 0 K8.out.1.1.1.1.2
 have q2 := cr 1 K8.out.1.1.1.1.2
 have q3 := cr 0 K8.out.1.1.1.2
 have q4 := cr 1 K8.out.1.1.1.2
 have q5 := cr 2 K8.out.1.1.1.2
 have q6 := cr 3 K8.out.1.1.1.2
 go_upto_region 4 with (go_at_call 54; refine (HC.out.1 _ K8.out.1.2.1.1 K8.out.1.2.1.2).mono ?_; rintro e w9 ⟨s1, t1, hb, rfl, h1, h2, h3, h4⟩; have K9 := Lib.hid ((K8.out.on hb).and ((stays_wet h1).and (stays_wet h2))); have HT := hd2 h3 h4; clear hb h1 h2 h3 h4)
 clear q0 q1 q2 q3 q4 q5 q6 K8
 have hbx := (Below.refl _ w9).alloc (Nat.le_refl _) (.cells #[.int .i64 lo, .int .i64 hi, .slice s1.A0 s1.ri.length s1.c0, .slice s1.A1 s1.bo.length s1.c1, .slice s1.A2 s1.lk.length s1.c2, .slice s1.A3 s1.lo.length s1.c3, .slice t1.A0 t1.ri.length t1.c0, .slice t1.A1 t1.bo.length t1.c1, .slice t1.A2 t1.lk.length t1.c2, .slice t1.A3 t1.lo.length t1.c3] 91)
 have KA := Lib.hid ((K9.out.on hbx).and (stays_blk (blk_new w9 #[.int .i64 lo, .int .i64 hi, .slice s1.A0 s1.ri.length s1.c0, .slice s1.A1 s1.bo.length s1.c1, .slice s1.A2 s1.lk.length s1.c2, .slice s1.A3 s1.lo.length s1.c3, .slice t1.A0 t1.ri.length t1.c0, .slice t1.A1 t1.bo.length t1.c1, .slice t1.A2 t1.lk.length t1.c2, .slice t1.A3 t1.lo.length t1.c3] 91 rfl)))
 clear hbx K9
 generalize w9.alloc (.cells #[.int .i64 lo, .int .i64 hi, .slice s1.A0 s1.ri.length s1.c0, .slice s1.A1 s1.bo.length s1.c1, .slice s1.A2 s1.lk.length s1.c2, .slice s1.A3 s1.lo.length s1.c3, .slice t1.A0 t1.ri.length t1.c0, .slice t1.A1 t1.bo.length t1.c1, .slice t1.A2 t1.lk.length t1.c2, .slice t1.A3 t1.lo.length t1.c3] 91) = X0 at *
 generalize w9.heap.size = g0 at *
 have q0 := cr 0 KA.out.1.1.1.1.1.1.1.2
 have q1 := cr 0 KA.out.1.1.1.1.1.1.2
 have q2 := cr 1 KA.out.1.1.1.1.1.1.2
 have q3 := cr 0 KA.out.1.1.1.1.1.2
 have q4 := cr 1 KA.out.1.1.1.1.1.2
 have q5 := cr 2 KA.out.1.1.1.1.1.2
 have q6 := cr 3 KA.out.1.1.1.1.1.2
 go_upto_region 6 with fail
 have hcc := cc_of_ask HC.out.2.1
 have hgk := cc_good hcc
 have hsp := spn_at hcc hxl
 have hch := chk_own HC.out.2.1 HC.out.2.2.1 hgk.1 hgk.2 HT.out.1 HT.out.2
 rw [HC.out.2.2.2.2] at hsp hch
 have hor := ends_order hgk.1 hgk.2 hxl
 rw [HC.out.2.2.2.2] at hor
 have hP : ∀ W, Wk W A1 ws → Calls Try.prog 39 #[.agg #[.slice A1 ws.length c1], .int .i64 id] W fun e w' => e = .returned (.int .i64 (x : Int)) ∧ Below W.heap.size W w' := fun W hk => by
  have := place_any A1 c1 ws id W hk
  rw [HC.out.2.2.1] at this
  exact this
 have hS : ∀ W, Wk W A1 ws → Csd W cs → Calls Try.prog 56 #[.agg #[.slice A1 ws.length c1], cs.v] W fun e w' => ∃ A' c', e = .returned (.tuple #[.slice A' (outs ws).length c', .int .i64 0]) ∧ RdS w' w'.heap.size A' (spnE ws cs) ∧ Below W.heap.size W w' := fun W hk hc => by
  have := Spans_any A1 c1 ws cs W hk hc
  rw [hsp.1, hcc] at this
  exact this
 have hK : ∀ W, Wk W A1 ws → Csd W cs → Wet W s1 → Wet W t1 → Calls Try.prog 60 #[.agg #[.slice A1 ws.length c1], cs.v, .int .i64 id, .agg #[.int .i64 lo, .int .i64 hi, .slice s1.A0 s1.ri.length s1.c0, .slice s1.A1 s1.bo.length s1.c1, .slice s1.A2 s1.lk.length s1.c2, .slice s1.A3 s1.lo.length s1.c3, .slice t1.A0 t1.ri.length t1.c0, .slice t1.A1 t1.bo.length t1.c1, .slice t1.A2 t1.lk.length t1.c2, .slice t1.A3 t1.lo.length t1.c3]] W fun e w' => e = .returned (.int .i64 0) ∧ Below W.heap.size W w' := fun W hk hc h1 h2 => by
  have := CheckEnds_any A1 c1 ws cs id (lo, hi) s1 t1 W hk hc h1 h2
  rw [hch] at this
  exact this
 have HP := hd3 hP hS hK
 have HG := hd2 hgk hsp
 clear hP hS hK hgk hsp hch hcc
 go_upto_region 7 with (go_at_call 39; refine (HP.out.1 _ KA.out.1.1.1.2.1.1).mono ?_; rintro e X1 ⟨rfl, hb⟩; have KB := Lib.hid (KA.out.on hb); clear hb)
 clear q0 q1 q2 q3 q4 q5 q6
 have q0 := cr 0 KB.out.1.1.1.1.1.1.1.2
 have q1 := cr 0 KB.out.1.1.1.1.1.1.2
 have q2 := cr 1 KB.out.1.1.1.1.1.1.2
 have q3 := cr 0 KB.out.1.1.1.1.1.2
 have q4 := cr 1 KB.out.1.1.1.1.1.2
 have q5 := cr 2 KB.out.1.1.1.1.1.2
 have q6 := cr 3 KB.out.1.1.1.1.1.2
 go_upto_region 8 with (go_at_call 56; refine (HP.out.2.1 _ KB.out.1.1.1.2.1.1 KB.out.1.1.1.2.1.2).mono ?_; rintro e X2 ⟨A4, c4, rfl, hr, hb⟩; have KC := Lib.hid ((KB.out.on hb).and (stays_spans hr)); clear hb hr)
 clear q0 q1 q2 q3 q4 q5 q6 KA KB
 refine wp_region_R (fun _ => true) ?_
 have KD := Lib.hid (KC.out.on (Below.refl _ _).drew)
 generalize X2.drew = X3 at *
 clear KC
 obtain ⟨b4, o4, rfl, -, hc4⟩ := KD.out.1.2 (by rw [HG.out.2.1]; omega)
 have h4 := hc4 x (by rw [HG.out.2.1]; exact hxl)
 rw [HG.out.2.2] at h4
 have s0 := h4.c0
 have s1' := h4.c1
 clear hc4 h4
 have hU := KD.out.1.1.2
 have u0 := cr 0 hU
 have u1 := cr 1 hU
 have hxz : (x : Int) < ((outs ws).length : Int) := by omega
 have hxz2 : ¬ ((outs ws).length : Int) ≤ (x : Int) := by omega
 have hx0 : ¬ (x : Int) < 0 := by omega
 have q0 := cr 0 KD.out.1.1.1.1.1.1.1.1.2
 have q1 := cr 0 KD.out.1.1.1.1.1.1.1.2
 have q2 := cr 1 KD.out.1.1.1.1.1.1.1.2
 have q3 := cr 0 KD.out.1.1.1.1.1.1.2
 have q4 := cr 1 KD.out.1.1.1.1.1.1.2
 have q5 := cr 2 KD.out.1.1.1.1.1.1.2
 have q6 := cr 3 KD.out.1.1.1.1.1.1.2
 refine bF 0 rfl ?_
 refine bF 1 rfl ?_
 refine bF 2 rfl ?_
 refine bF 3 rfl ?_
 refine bF 4 rfl ?_
 refine bF 5 rfl ?_
 refine bF 6 rfl ?_
 refine bF 7 rfl ?_
 refine bF 8 rfl ?_
 refine bF 9 rfl ?_
 refine bF 10 rfl ?_
 refine bF 11 rfl ?_
 refine bF 12 rfl ?_
 refine bF 13 rfl ?_
 refine bF 14 rfl ?_
 refine bF 15 rfl ?_
 refine bP s0 s1' 16 rfl ?_
 refine bF 17 rfl ?_
 refine bP u0 u1 18 rfl ?_
 refine bF 19 rfl ?_
 refine bF 20 rfl ?_
 refine bF 21 rfl ?_
 refine bT q0 22 rfl ?_
 refine bP q1 q2 23 rfl ?_
 refine bF 24 rfl ?_
 refine bU (v := .agg #[.int .i64 lo, .int .i64 hi, .slice s1.A0 s1.ri.length s1.c0, .slice s1.A1 s1.bo.length s1.c1, .slice s1.A2 s1.lk.length s1.c2, .slice s1.A3 s1.lo.length s1.c3, .slice t1.A0 t1.ri.length t1.c0, .slice t1.A1 t1.bo.length t1.c1, .slice t1.A2 t1.lk.length t1.c2, .slice t1.A3 t1.lo.length t1.c3]) hU 25 rfl ?_ (by intro w hB; have a0 := cr 0 hB; have a1 := cr 1 hB; have a2 := cr 2 hB; have a3 := cr 3 hB; have a4 := cr 4 hB; have a5 := cr 5 hB; have a6 := cr 6 hB; have a7 := cr 7 hB; have a8 := cr 8 hB; have a9 := cr 9 hB; go_simp)
 clear u0 u1 s0 s1' hU q0 q1 q2 q3 q4 q5 q6
 refine bR 26 rfl fun K hK => ?_
 go_simp
 refine (HP.out.2.2 _ KD.out.1.1.1.1.2.1.1 KD.out.1.1.1.1.2.1.2 KD.out.1.1.1.2.1 KD.out.1.1.1.2.2).mono ?_
 rintro e X4 ⟨rfl, hb⟩
 dsimp only
 refine hK.out _ _ (fun _ => hb) ?_
 have KE := Lib.hid (KD.out.on hb)
 clear hK hb KD
 have hU := KE.out.1.1.2
 have u0 := cr 0 hU
 have u1 := cr 1 hU
 have hlo : ¬ lo < 0 := by omega
 have hhi : ¬ hi < lo := by omega
 refine bF 27 rfl ?_
 refine bF 28 rfl ?_
 refine bF 29 rfl ?_
 refine bF 30 rfl ?_
 refine bF 31 rfl ?_
 refine bT u0 32 rfl ?_
 refine bF 33 rfl ?_
 refine bF 34 rfl ?_
 refine bF 35 rfl ?_
 refine bF 36 rfl ?_
 refine bF 37 rfl ?_
 refine bT u0 38 rfl ?_
 refine bF 39 rfl ?_
 refine bF 40 rfl ?_
 refine bT u1 41 rfl ?_
 refine bF 42 rfl ?_
 refine bF 43 rfl ?_
 refine bD ?_
 clear u0 u1 hU
 have q0 := cr 0 KE.out.1.1.1.1.1.1.1.1.2
 have q1 := cr 0 KE.out.1.1.1.1.1.1.1.2
 have q2 := cr 1 KE.out.1.1.1.1.1.1.1.2
 have q3 := cr 0 KE.out.1.1.1.1.1.1.2
 have q4 := cr 1 KE.out.1.1.1.1.1.1.2
 have q5 := cr 2 KE.out.1.1.1.1.1.1.2
 have q6 := cr 3 KE.out.1.1.1.1.1.1.2
 have hER := HFI.out.2
 go_upto_region 11 with (go_at_call 46; refine (HFI.out.1 _ KE.out.1.1.1.1.2.1.1 KE.out.1.1.1.1.2.1.2 KE.out.1.1.1.1.2.2).mono ?_; rintro e X7 ⟨rfl, hb⟩; have KF := Lib.hid (KE.out.on hb); clear hb)
 clear q0 q1 q2 q3 q4 q5 q6 KE
 rcases hER with hE0 | ⟨rfl, rfl⟩
 all_goals
  go_upto_region 15 with fail
  have KT := Lib.hid ((((stays_bl KF.out.1.1.1.1.1.1.1.1.1).and (stays_blk KF.out.1.1.1.1.1.1.1.1.2)).and (stays_blk KF.out.1.1.1.1.1.1.1.2)).and ((stays_usIn KF.out.1.1.1.1.1.2.2.2).and (((stays_wk KF.out.1.1.1.1.2.1.1).and (stays_csd KF.out.1.1.1.1.2.1.2)).and (stays_blk KF.out.1.1.2))))
  have HM : Hid (cs.ri.length ≤ 100 ∧ cs.bo.length ≤ 100 ∧ cs.bo.length = (outs ws).length ∧ ((∀ t, t < cs.ri.length → (sAt cs.ri t).2 ≤ 1048576) ∧ ∀ t, t < (outs ws).length → (sAt cs.bo t).2 ≤ 1048576)) := Lib.hid (by
   have h2 := F2.out
   unfold casedB at h2
   simp only [Bool.and_eq_true, decide_eq_true_eq] at h2
   refine ⟨h2.1, h2.2, HG.out.1.2.l1, fun t ht => (HG.out.1.2.r0 t ht).2.2, fun t ht => ?_⟩
   have a := (HG.out.1.2.r1 t ht).2.2
   have b := (HG.out.1.1.fine ht).n
   omega)
  go_upto_region 17 with fail
  have HI0 : Hid (LsI X7 (X7.alloc (.cells #[.slice none 0 0, .slice none 0 0] 51)) (X7.alloc (.cells #[.slice none 0 0, .slice none 0 0] 51)) X7.heap.size #[.slice none 0 0, .slice none 0 0] none 0 []) := Lib.hid ⟨(Below.refl _ X7).alloc (Nat.le_refl _) _, fun _ _ _ => rfl, blk_new X7 #[.slice none 0 0, .slice none 0 0] 51 rfl, OwnS.nil _ _, Nat.le_refl _, by simp⟩
  generalize X7.alloc (.cells #[.slice none 0 0, .slice none 0 0] 51) = Y0 at *
  go_loopg [21, 22, 23] cs.ri.length (fun gg i a b wr => ∃ (t : Nat) (A2 : Option Addr) (c2 : Nat), t ≤ cs.ri.length ∧ cs.ri.length - t ≤ gg ∧ i = .int .i64 t ∧ Aside (LsI X7 Y0 wr X7.heap.size #[.slice A2 t c2, .slice none 0 0] A2 c2 (nrL cs.ri us 0 t)))
  case atStart => exact ⟨0, none, 0, Nat.zero_le _, by omega, rfl, HI0.out⟩
  case round =>
   obtain ⟨t, A2, c2, ht, hgg, rfl, hA⟩ := hrel
   have HA := Lib.hid hA.out
   clear hA
   have KR := Lib.hid (KT.out.on HA.out.bl)
   have q3 := cr 0 KR.out.1.1.2
   have q4 := cr 1 KR.out.1.1.2
   by_cases hlt : t < cs.ri.length
   ·have htz : (t : Int) < (cs.ri.length : Int) := by omega
    have hM := HM.out
    have hK1 := HG.out.1.2.r0 t (by omega)
    have HN := Lib.hid (fun W => narrow_any (sAt cs.ri t).1 (sAt cs.ri t).2 (prA us (t + 0)) (prB us (t + 0)) hK1.1 hK1.2.1 (by have := HM.out.2.2.2.1 t (by omega); omega) (prA_in KR.out.1.2.1.b (t + 0)) (prB_in KR.out.1.2.1.b (t + 0)) W)
    have HPA : Hid (Calls Try.prog 63 #[.slice B us.length d, .int .i64 ((t : Int))] wr fun e w' => e = .returned (.tuple #[.int .u16 (prA us (t + 0)), .int .u16 (prB us (t + 0))]) ∧ Below wr.heap.size wr w') := Lib.hid (by
     have := pair_any B d us (t + 0) (by omega) KR.out.1.2.1.m wr KR.out.1.2.1.rd
     first
      | exact this
      | (rw [Int.natCast_add] at this; exact this))
    skip
    have ht100 : t < 100 := by omega
    clear hK1 hM
    go_upto_region 20 with (go_at_call 63; refine HPA.out.mono ?_; rintro e wp ⟨rfl, hb⟩; have HB := Lib.hid (HA.out.on hb); clear hb)
    clear q3 q4 HPA HA
    refine wp_region_R (fun j => j != 11 && j != 13) ?_
    have HC2 := Lib.hid (HB.out.on (Below.refl _ wp).drew)
    generalize wp.drew = X8 at *
    have KS := Lib.hid (KT.out.on HC2.out.bl)
    obtain ⟨b0, o0, hA0, -, hc0⟩ := KS.out.1.2.2.1.2.r0 (by omega)
    have z0 := (hc0 t hlt).c0
    have z1 := (hc0 t hlt).c1
    have s0 := cr 0 HC2.out.bk
    have q3 := cr 0 KS.out.1.1.2
    rw [hA0] at q3
    have hnz : (0 : Int) ≤ (t : Int) := by omega
    clear hA0 hc0 HB
    refine bF 0 rfl ?_
    refine bT s0 1 rfl ?_
    refine bF 2 rfl ?_
    refine bT q3 3 rfl ?_
    refine bF 4 rfl ?_
    refine bF 5 rfl ?_
    refine bP z0 z1 6 rfl ?_
    refine bF 7 rfl ?_
    refine bF 8 rfl ?_
    clear s0 q3 z0 z1
    refine bR 9 rfl fun K hK => ?_
    go_simp
    refine (HN.out _).mono ?_
    rintro e X9 ⟨rfl, hb⟩
    dsimp only
    refine hK.out _ _ (fun _ => hb) ?_
    have HD := Lib.hid (HC2.out.on hb)
    clear hK hb HC2 HN
    refine bR 10 rfl fun K hK => ?_
    go_simp
    refine hK.out _ _ (fun _ => (Below.refl _ _).alloc (Nat.le_refl _) _) ?_
    clear hK
    have cn := blk_new X9 (g := X9.heap.size) #[.int .i64 (nrA (sAt cs.ri t).1 (sAt cs.ri t).2 (prA us (t + 0))), .int .i64 (nrB (sAt cs.ri t).1 (sAt cs.ri t).2 (prA us (t + 0)) (prB us (t + 0)))] 40 rfl
    have HE := Lib.hid (HD.out.on ((Below.refl _ X9).alloc (Nat.le_refl _) (.cells #[.int .i64 (nrA (sAt cs.ri t).1 (sAt cs.ri t).2 (prA us (t + 0))), .int .i64 (nrB (sAt cs.ri t).1 (sAt cs.ri t).2 (prA us (t + 0)) (prB us (t + 0)))] 40)))
    have hown := HE.out.ow
    rw [nrL_length] at hown
    refine bR 11 rfl fun K hK => ?_
    refine wp_append_span (.tmp 167) (.tmp 176) rfl Y0.heap.size (.slice A2 t c2) (nrL cs.ri us 0 t) (nrA (sAt cs.ri t).1 (sAt cs.ri t).2 (prA us (t + 0)), nrB (sAt cs.ri t).1 (sAt cs.ri t).2 (prA us (t + 0)) (prB us (t + 0))) rfl hown (by rw [nrL_length]; have := HM.out; omega) X9.heap.size rfl (cr 0 cn) (cr 1 cn) HE.out.lt ?_
    intro v' XA ho hg
    obtain ⟨A', c', rfl⟩ := ho.slice (n := t + 1) (by rw [List.length_append, nrL_length]; rfl)
    refine hK.out _ _ (fun h => by cases h) ?_
    have HF := Lib.hid (HE.out.push (nrL_length _ _ _ _) (by rw [nrL_length]; exact hg) ho 0)
    have hk3 := HE.out.app (by rw [nrL_length]; exact hg)
    have eb := cr 0 hk3
    have fb := bf 0 hk3
    clear hK cn hown hg ho hk3 HE HD
    go_frame
    refine bF 12 rfl ?_
    refine bR 13 rfl fun K hK => ?_
    go_simp
    refine hK.out _ _ (fun h => by cases h) ?_
    clear hK eb fb
    refine bD ?_
    have HF2 : Hid (LsI X7 Y0 (XA.setCell ⟨X7.heap.size, 0, none⟩ (.slice A' (t + 1) c')) X7.heap.size #[.slice A' (t + 1) c', .slice none 0 0] A' c' (nrL cs.ri us 0 (t + 1))) := Lib.hid (by rw [nrL_succ]; exact HF.out)
    clear HF
    (try dsimp only [Act.put])
    generalize XA.setCell ⟨X7.heap.size, 0, none⟩ (.slice A' (t + 1) c') = XB at *
    go_wp2
    go_roundg (cs.ri.length - (t + 1))
    case measure => omega
    case rel => exact ⟨t + 1, A', c', by omega, by omega, by go_num, HF2.out⟩
   ·have htz : ¬ (t : Int) < (cs.ri.length : Int) := by omega
    obtain rfl : t = cs.ri.length := by omega
    go_upto_region 22 with fail
    obtain ⟨A2', c2', e2, rd2, fr2⟩ := HA.out.ow.rd
    rw [nrL_length] at e2
    simp only [Value.slice.injEq, true_and] at e2
    obtain ⟨rfl, rfl⟩ := e2
    have HI1 : Hid (LsI X7 wr wr X7.heap.size #[.slice A2 cs.ri.length c2, .slice none 0 0] none 0 []) := Lib.hid ⟨HA.out.bl, fun _ _ _ => rfl, HA.out.bk, OwnS.nil _ _, Nat.le_refl _, Nat.lt_of_lt_of_le HA.out.gl HA.out.lt⟩
    have HR0 := hd2 rd2 (fr2.mono HI0.out.gl)
    clear rd2 fr2 KR HA q3 q4 HI0
    generalize wr = Y1 at *
    go_loopg [24, 25, 26] cs.bo.length (fun gg i a b wr => ∃ (t : Nat) (A3 : Option Addr) (c3 : Nat), t ≤ cs.bo.length ∧ cs.bo.length - t ≤ gg ∧ i = .int .i64 t ∧ Aside (LsI X7 Y1 wr X7.heap.size #[.slice A2 cs.ri.length c2, .slice A3 t c3] A3 c3 (nrL cs.bo us cs.ri.length t)))
    case atStart => exact ⟨0, none, 0, Nat.zero_le _, by omega, rfl, HI1.out⟩
    case round =>
     obtain ⟨t, A3, c3, ht, hgg, rfl, hA⟩ := hrel
     have HA := Lib.hid hA.out
     clear hA
     have KR := Lib.hid (KT.out.on HA.out.bl)
     have q3 := cr 0 KR.out.1.1.2
     have q4 := cr 1 KR.out.1.1.2
     by_cases hlt : t < cs.bo.length
     ·have htz : (t : Int) < (cs.bo.length : Int) := by omega
      have hM := HM.out
      have hK1 := HG.out.1.2.r1 t (by omega)
      have HN := Lib.hid (fun W => narrow_any (sAt cs.bo t).1 (sAt cs.bo t).2 (prA us (t + cs.ri.length)) (prB us (t + cs.ri.length)) hK1.1 hK1.2.1 (by have := HM.out.2.2.2.2 t (by omega); omega) (prA_in KR.out.1.2.1.b (t + cs.ri.length)) (prB_in KR.out.1.2.1.b (t + cs.ri.length)) W)
      have HPA : Hid (Calls Try.prog 63 #[.slice B us.length d, .int .i64 ((t : Int) + (cs.ri.length : Int))] wr fun e w' => e = .returned (.tuple #[.int .u16 (prA us (t + cs.ri.length)), .int .u16 (prB us (t + cs.ri.length))]) ∧ Below wr.heap.size wr w') := Lib.hid (by
       have := pair_any B d us (t + cs.ri.length) (by omega) KR.out.1.2.1.m wr KR.out.1.2.1.rd
       first
        | exact this
        | (rw [Int.natCast_add] at this; exact this))
      have hw1 : IntKind.i64.wrap ((t : Int) + (cs.ri.length : Int)) = (t : Int) + (cs.ri.length : Int) := by rw [IntKind.wrap_i64]; omega
      have ht100 : t < 100 := by omega
      clear hK1 hM
      go_upto_region 25 with (go_at_call 63; refine HPA.out.mono ?_; rintro e wp ⟨rfl, hb⟩; have HB := Lib.hid (HA.out.on hb); clear hb)
      clear q3 q4 HPA HA
      refine wp_region_R (fun j => j != 11 && j != 13) ?_
      have HC2 := Lib.hid (HB.out.on (Below.refl _ wp).drew)
      generalize wp.drew = X8 at *
      have KS := Lib.hid (KT.out.on HC2.out.bl)
      obtain ⟨b0, o0, hA0, -, hc0⟩ := KS.out.1.2.2.1.2.r1 (by omega)
      have z0 := (hc0 t hlt).c0
      have z1 := (hc0 t hlt).c1
      have s0 := cr 1 HC2.out.bk
      have q3 := cr 1 KS.out.1.1.2
      rw [hA0] at q3
      have hnz : (0 : Int) ≤ (t : Int) := by omega
      clear hA0 hc0 HB
      refine bF 0 rfl ?_
      refine bT s0 1 rfl ?_
      refine bF 2 rfl ?_
      refine bT q3 3 rfl ?_
      refine bF 4 rfl ?_
      refine bF 5 rfl ?_
      refine bP z0 z1 6 rfl ?_
      refine bF 7 rfl ?_
      refine bF 8 rfl ?_
      clear s0 q3 z0 z1
      refine bR 9 rfl fun K hK => ?_
      go_simp
      refine (HN.out _).mono ?_
      rintro e X9 ⟨rfl, hb⟩
      dsimp only
      refine hK.out _ _ (fun _ => hb) ?_
      have HD := Lib.hid (HC2.out.on hb)
      clear hK hb HC2 HN
      refine bR 10 rfl fun K hK => ?_
      go_simp
      refine hK.out _ _ (fun _ => (Below.refl _ _).alloc (Nat.le_refl _) _) ?_
      clear hK
      have cn := blk_new X9 (g := X9.heap.size) #[.int .i64 (nrA (sAt cs.bo t).1 (sAt cs.bo t).2 (prA us (t + cs.ri.length))), .int .i64 (nrB (sAt cs.bo t).1 (sAt cs.bo t).2 (prA us (t + cs.ri.length)) (prB us (t + cs.ri.length)))] 40 rfl
      have HE := Lib.hid (HD.out.on ((Below.refl _ X9).alloc (Nat.le_refl _) (.cells #[.int .i64 (nrA (sAt cs.bo t).1 (sAt cs.bo t).2 (prA us (t + cs.ri.length))), .int .i64 (nrB (sAt cs.bo t).1 (sAt cs.bo t).2 (prA us (t + cs.ri.length)) (prB us (t + cs.ri.length)))] 40)))
      have hown := HE.out.ow
      rw [nrL_length] at hown
      refine bR 11 rfl fun K hK => ?_
      refine wp_append_span (.tmp 197) (.tmp 206) rfl Y1.heap.size (.slice A3 t c3) (nrL cs.bo us cs.ri.length t) (nrA (sAt cs.bo t).1 (sAt cs.bo t).2 (prA us (t + cs.ri.length)), nrB (sAt cs.bo t).1 (sAt cs.bo t).2 (prA us (t + cs.ri.length)) (prB us (t + cs.ri.length))) rfl hown (by rw [nrL_length]; have := HM.out; omega) X9.heap.size rfl (cr 0 cn) (cr 1 cn) HE.out.lt ?_
      intro v' XA ho hg
      obtain ⟨A', c', rfl⟩ := ho.slice (n := t + 1) (by rw [List.length_append, nrL_length]; rfl)
      refine hK.out _ _ (fun h => by cases h) ?_
      have HF := Lib.hid (HE.out.push (nrL_length _ _ _ _) (by rw [nrL_length]; exact hg) ho 1)
      have hk3 := HE.out.app (by rw [nrL_length]; exact hg)
      have eb := cr 1 hk3
      have fb := bf 1 hk3
      clear hK cn hown hg ho hk3 HE HD
      go_frame
      refine bF 12 rfl ?_
      refine bR 13 rfl fun K hK => ?_
      go_simp
      refine hK.out _ _ (fun h => by cases h) ?_
      clear hK eb fb
      refine bD ?_
      have HF2 : Hid (LsI X7 Y1 (XA.setCell ⟨X7.heap.size, 0 + 1, none⟩ (.slice A' (t + 1) c')) X7.heap.size #[.slice A2 cs.ri.length c2, .slice A' (t + 1) c'] A' c' (nrL cs.bo us cs.ri.length (t + 1))) := Lib.hid (by rw [nrL_succ]; exact HF.out)
      clear HF
      (try dsimp only [Act.put])
      generalize XA.setCell ⟨X7.heap.size, 0 + 1, none⟩ (.slice A' (t + 1) c') = XB at *
      go_wp2
      go_roundg (cs.bo.length - (t + 1))
      case measure => omega
      case rel => exact ⟨t + 1, A', c', by omega, by omega, by go_num, HF2.out⟩
     ·have htz : ¬ (t : Int) < (cs.bo.length : Int) := by omega
      obtain rfl : t = cs.bo.length := by omega
      go_upto_region 26 with fail
      obtain ⟨A3', c3', e3, rd3, -⟩ := HA.out.ow.rd
      rw [nrL_length] at e3
      simp only [Value.slice.injEq, true_and] at e3
      obtain ⟨rfl, rfl⟩ := e3
      have hrd2 := HA.out.reads HR0.out.1 HR0.out.2
      have hM := HM.out
      have hcs2 : Csd wr ⟨A2, A3, c2, c3, nrL cs.ri us 0 cs.ri.length, nrL cs.bo us cs.ri.length cs.bo.length⟩ := ⟨hrd2, rd3, by rw [nrL_length]; omega, by rw [nrL_length]; omega⟩
      have hin := nrL_inside HG.out.1.2 us A2 A3 c2 c3
      have hen := ends_inside HG.out.1.1 HG.out.1.2 hin hxl
      obtain ⟨lo2, hi2, hlh2⟩ : ∃ lo2 hi2 : Int, endsF ws ⟨A2, A3, c2, c3, nrL cs.ri us 0 cs.ri.length, nrL cs.bo us cs.ri.length cs.bo.length⟩ x = (lo2, hi2) := ⟨_, _, rfl⟩
      rw [HC.out.2.2.2.2, hlh2] at hen
      have HN2 : Hid (Calls Try.prog 54 #[.agg #[.slice A1 ws.length c1], .agg #[.slice A2 cs.ri.length c2, .slice A3 cs.bo.length c3], .int .i64 id] wr fun e w' => ∃ s2 t2 : Wt, Below wr.heap.size wr w' ∧ e = .returned (.tuple #[.agg #[.int .i64 lo2, .int .i64 hi2, .slice s2.A0 s2.ri.length s2.c0, .slice s2.A1 s2.bo.length s2.c1, .slice s2.A2 s2.lk.length s2.c2, .slice s2.A3 s2.lo.length s2.c3, .slice t2.A0 t2.ri.length t2.c0, .slice t2.A1 t2.bo.length t2.c1, .slice t2.A2 t2.lk.length t2.c2, .slice t2.A3 t2.lo.length t2.c3], .int .i64 0])) := Lib.hid (by
       have h := Ends_any A1 c1 ws ⟨A2, A3, c2, c3, nrL cs.ri us 0 cs.ri.length, nrL cs.bo us cs.ri.length cs.bo.length⟩ id wr KR.out.1.2.2.1.1 hcs2
       dsimp only [Cs.v] at h
       rw [nrL_length, nrL_length] at h
       refine h.mono (fun e w' h => ?_)
       obtain ⟨hb, ⟨h0, -⟩ | ⟨-, x', s2, t2, e1, e2, -⟩⟩ := h
       ·exact absurd (ask_inside HC.out.2.1 hin) h0
       ·rw [HC.out.2.2.1] at e1
        cases e1
        rw [hlh2] at e2
        exact ⟨s2, t2, hb, e2⟩)
      have hen1 : lo ≤ lo2 := hen.1
      have hen2 : hi2 ≤ hi := hen.2
      have q0 := cr 0 KR.out.1.1.1.2
      have v0 := cr 0 HA.out.bk
      have v1 := cr 1 HA.out.bk
      clear hrd2 hM hcs2 hin hen hlh2 rd3 q3 q4
      go_upto_region 27 with (go_at_call 54; refine HN2.out.mono ?_; rintro e wz ⟨s2, t2, hb, rfl⟩; have KV := Lib.hid (KR.out.on hb); clear hb)
      clear q0 v0 v1 HN2 HA KR
      have hbx := (Below.refl _ wz).alloc (Nat.le_refl _) (.cells #[.int .i64 lo2, .int .i64 hi2, .slice s2.A0 s2.ri.length s2.c0, .slice s2.A1 s2.bo.length s2.c1, .slice s2.A2 s2.lk.length s2.c2, .slice s2.A3 s2.lo.length s2.c3, .slice t2.A0 t2.ri.length t2.c0, .slice t2.A1 t2.bo.length t2.c1, .slice t2.A2 t2.lk.length t2.c2, .slice t2.A3 t2.lo.length t2.c3] 91)
      have KX := Lib.hid ((KV.out.on hbx).and (stays_blk (blk_new wz #[.int .i64 lo2, .int .i64 hi2, .slice s2.A0 s2.ri.length s2.c0, .slice s2.A1 s2.bo.length s2.c1, .slice s2.A2 s2.lk.length s2.c2, .slice s2.A3 s2.lo.length s2.c3, .slice t2.A0 t2.ri.length t2.c0, .slice t2.A1 t2.bo.length t2.c1, .slice t2.A2 t2.lk.length t2.c2, .slice t2.A3 t2.lo.length t2.c3] 91 rfl)))
      clear hbx KV
      generalize wz.alloc (.cells #[.int .i64 lo2, .int .i64 hi2, .slice s2.A0 s2.ri.length s2.c0, .slice s2.A1 s2.bo.length s2.c1, .slice s2.A2 s2.lk.length s2.c2, .slice s2.A3 s2.lo.length s2.c3, .slice t2.A0 t2.ri.length t2.c0, .slice t2.A1 t2.bo.length t2.c1, .slice t2.A2 t2.lk.length t2.c2, .slice t2.A3 t2.lo.length t2.c3] 91) = Z0 at *
      generalize wz.heap.size = gz at *
      go_wp2_with (go_at_call 20; refine (sanity_any _).mono ?_; rintro e wa ⟨rfl, hb⟩; have KY := Lib.hid (KX.out.on hb); have u0 := cr 0 KY.out.1.1.2.2.2; have u1 := cr 1 KY.out.1.1.2.2.2; have v0 := cr 0 KY.out.1.2; have v1 := cr 1 KY.out.1.2; clear hb)
      go_ret
      exact ⟨rfl, KY.out.1.1.1.1.1⟩
end Go.Proofs.Ytdadoelajhemjaa
