/- Walk: the law CarrierRests. -/
import Derived.Test.YtdadoelajhemjaaL2
import Derived.Test.YtdadoelajhemjaaD4
import Derived.Test.YtdadoelajhemjaaG4
namespace Go.Proofs.Ytdadoelajhemjaa
open Go.RowKit Go.Shelf

theorem restE_le (ws : List Car) (cs : Cs) (id : Int) (h : (outs ws).length ≤ 1000) : (restE ws cs id).length ≤ 1000 := by
  unfold restE
  by_cases h0 : askE ws cs id = 0
  · rw [if_pos h0]
    cases idxO ws id with
    | none => exact Nat.zero_le _
    | some x => exact Nat.le_trans (restTo_le _ _ _ _) h
  · rw [if_neg h0]; exact Nat.zero_le _

set_option maxRecDepth 100000 in
set_option maxHeartbeats 8000000 in
theorem CarrierRests_row (w : World) (A1 : Option Addr) (c1 : Nat) (ws : List Car) (r0 : WkIn w A1 ws) (cs : Cs) (r1 : CsIn w cs) (id : Int) (_ : (Lit.int .i64 id).wf = true) :
    Calls Try.prog 5 #[.agg #[.slice A1 ws.length c1], cs.v, .int .i64 id] w fun e w' => e = .returned (.bool true) ∧ Below w.heap.size w w' := by
  show Calls _ _ #[.agg #[.slice A1 ws.length c1], .agg #[.slice cs.A0 cs.ri.length cs.c0, .slice cs.A1 cs.bo.length cs.c1], .int .i64 id] _ _
  have hb : Below w.heap.size w ((w.alloc (.cells #[.slice A1 ws.length c1] 24)).alloc (.cells #[.slice cs.A0 cs.ri.length cs.c0, .slice cs.A1 cs.bo.length cs.c1] 51)) := (((Below.refl _ w).alloc (Nat.le_refl _) _).alloc (by simp) _)
  have K := Lib.hid ((((stays_bl hb).and (stays_blk (g := w.heap.size) (blk_alloc (blk_new w #[.slice A1 ws.length c1] 24 rfl) _))).and (stays_blk (g := w.heap.size + 1) (blk_new (w.alloc (.cells #[.slice A1 ws.length c1] 24)) #[.slice cs.A0 cs.ri.length cs.c0, .slice cs.A1 cs.bo.length cs.c1] 51 (by simp)))).and (show Stays (fun _ => True) _ from ⟨trivial, fun _ _ _ _ => trivial⟩))
  replace K := Lib.hid (K.out.push (stays_wkIn (r0.ext hb)))
  replace K := Lib.hid (K.out.push (stays_csIn (r1.ext hb)))
  clear hb
  cases hf : fewB ws with
  | false =>
    have F0 := Lib.hid hf
    clear hf
    go_enter Try.func5, Try.ntmps5
    go_upto_region 1 with fail
    generalize (w.alloc (.cells #[.slice A1 ws.length c1] 24)).alloc (.cells #[.slice cs.A0 cs.ri.length cs.c0, .slice cs.A1 cs.bo.length cs.c1] 51) = W0 at *
    have q1 := cell_row (i := 0) (K.out.1.1.1.2)
    go_wp2_with (first
      | (go_at_call 20; have _t := K2; clear _t; refine (sanity_any _).mono ?_; rintro e w7 ⟨rfl, hb⟩; have K6 := Lib.hid (K2.out.on hb); clear hb)
      | (go_at_call 18; have _t := K; clear _t; refine (few_any A1 c1 ws _ K.out.1.2.2.1).mono ?_; rw [F0.out]; rintro e w3 ⟨rfl, hb⟩; have K2 := Lib.hid (K.out.on hb); have q4 := cell_row (i := 0) (K2.out.1.1.2); have q5 := cell_row (i := 1) (K2.out.1.1.2); clear hb))
    go_ret
    exact ⟨rfl, K6.out.1.1.1.1⟩
  | true =>
  have F0 := Lib.hid hf
  cases hs : casedB cs with
  | false =>
    have F1 := Lib.hid hs
    clear hs
    go_enter Try.func5, Try.ntmps5
    go_upto_region 1 with fail
    generalize (w.alloc (.cells #[.slice A1 ws.length c1] 24)).alloc (.cells #[.slice cs.A0 cs.ri.length cs.c0, .slice cs.A1 cs.bo.length cs.c1] 51) = W0 at *
    have q1 := cell_row (i := 0) (K.out.1.1.1.2)
    go_wp2_with (first
      | (go_at_call 20; have _t := K6; clear _t; refine (sanity_any _).mono ?_; rintro e w9 ⟨rfl, hb⟩; have K8 := Lib.hid (K6.out.on hb); clear hb)
      | (go_at_call 30; have _t := K2; clear _t; refine (cased_any cs _ K2.out.1.2.1).mono ?_; rw [F1.out]; rintro e w7 ⟨rfl, hb⟩; have K6 := Lib.hid (K2.out.on hb); clear hb)
      | (go_at_call 18; have _t := K; clear _t; refine (few_any A1 c1 ws _ K.out.1.2.2.1).mono ?_; rw [F0.out]; rintro e w3 ⟨rfl, hb⟩; have K2 := Lib.hid (K.out.on hb); have q4 := cell_row (i := 0) (K2.out.1.1.2); have q5 := cell_row (i := 1) (K2.out.1.1.2); clear hb))
    go_ret
    exact ⟨rfl, K8.out.1.1.1.1⟩
  | true =>
  have F1 := Lib.hid hs
  have hbw : Below w.heap.size w _ := K.out.1.1.1.1
  have hk := few_wk r0 hf
  have hcs := casedB_ok r1 hs
  clear hf hs
  replace K := Lib.hid (K.out.push (stays_wk (hk.ext hbw)))
  replace K := Lib.hid (K.out.push (stays_csd (hcs.ext hbw)))
  have hm1 := restE_le ws cs id (by have := hk.n2; omega)
  clear hbw hk hcs
  have hF := fun W hk hc => Rests_any A1 c1 ws cs id W hk hc
  have rF := fun W hk hc => rRests_any A1 c1 ws cs id W hk hc
  generalize restE ws cs id = L1 at *
  generalize askE ws cs id = E at *
  have HC := Lib.hid (And.intro hF rF)
  clear hF rF
  go_enter Try.func5, Try.ntmps5
  go_upto_region 1 with fail
  generalize (w.alloc (.cells #[.slice A1 ws.length c1] 24)).alloc (.cells #[.slice cs.A0 cs.ri.length cs.c0, .slice cs.A1 cs.bo.length cs.c1] 51) = W0 at *
  have q1 := cell_row (i := 0) (K.out.1.1.1.2)
  go_upto_region 3 with (first
    | (go_at_call 30; have _t := K2; clear _t; refine (cased_any cs _ K2.out.1.2.2.2.1).mono ?_; rw [F1.out]; rintro e w7 ⟨rfl, hb⟩; have K6 := Lib.hid (K2.out.on hb); clear hb)
    | (go_at_call 18; have _t := K; clear _t; refine (few_any A1 c1 ws _ K.out.1.2.2.2.2.1).mono ?_; rw [F0.out]; rintro e w3 ⟨rfl, hb⟩; have K2 := Lib.hid (K.out.on hb); have q4 := cell_row (i := 0) (K2.out.1.1.2); have q5 := cell_row (i := 1) (K2.out.1.1.2); clear hb))
  clear q1 q4 q5
  clear K K2
  have q8 := cell_row (i := 0) (K6.out.1.1.1.2)
  have q9 := cell_row (i := 0) (K6.out.1.1.2)
  have q10 := cell_row (i := 1) (K6.out.1.1.2)
  go_upto_region 4 with (go_at_call 31; have _t := K6; clear _t; refine (HC.out.1 _ K6.out.1.2.2.1 K6.out.1.2.1).mono ?_; rintro e w12 ⟨A4, c4, rfl, hr, -, hb⟩; have K11 := Lib.hid ((K6.out.on hb).push (stays_rd hr)); clear hr; clear hb)
  clear q8 q9 q10
  clear K6
  have q13 := cell_row (i := 0) (K11.out.1.1.1.2)
  have q14 := cell_row (i := 0) (K11.out.1.1.2)
  have q15 := cell_row (i := 1) (K11.out.1.1.2)
  go_upto_region 5 with (go_at_call 32; have _t := K11; clear _t; refine (HC.out.2 _ K11.out.1.2.2.2.1 K11.out.1.2.2.1).mono ?_; rintro e w17 ⟨A7, c7, rfl, hr, hb⟩; have K16 := Lib.hid ((K11.out.on hb).push (stays_rd hr)); clear hr; clear hb)
  clear q13 q14 q15
  clear K11
  have K18 := Lib.hid ((K16.out.on ((Below.refl _ w17).alloc (Nat.le_refl _) (.cells #[.slice A7 L1.length c7, .int .i64 E] 45))).push (stays_blk (blk_new w17 #[.slice A7 L1.length c7, .int .i64 E] 45 rfl)))
  generalize w17.alloc (.cells #[.slice A7 L1.length c7, .int .i64 E] 45) = w19 at *
  generalize w17.heap.size = g9 at *
  clear K16
  go_wp2_with (first
    | (go_at_call 29; have _t := K20; clear _t; refine (same_yes A4 A7 c4 c7 L1 _ K20.out.1.2.2.2.1 K20.out.1.2.2.1 hm1).mono ?_; rintro e w25 ⟨rfl, hb⟩; have K24 := Lib.hid (K20.out.on hb); have z26 := cell_row (i := 0) (K24.out.1.2.1); have z27 := cell_row (i := 1) (K24.out.1.2.1); clear hb)
    | (go_at_call 20; have _t := K18; clear _t; refine (sanity_any _).mono ?_; rintro e w21 ⟨rfl, hb⟩; have K20 := Lib.hid (K18.out.on hb); have z22 := cell_row (i := 0) (K20.out.1.2.1); have z23 := cell_row (i := 1) (K20.out.1.2.1); clear hb))
  go_ret
  exact ⟨rfl, K24.out.1.1.1.1⟩
end Go.Proofs.Ytdadoelajhemjaa
