/- Walk: the law CarrierWishes. -/
import Derived.Test.YtdadoelajhemjaaL2
import Derived.Test.YtdadoelajhemjaaP7
import Derived.Test.YtdadoelajhemjaaE7
namespace Go.Proofs.Ytdadoelajhemjaa
open Go.RowKit Go.Shelf

set_option maxRecDepth 100000 in
set_option maxHeartbeats 8000000 in
theorem CarrierWishes_row (w : World) (A1 : Option Addr) (c1 : Nat) (ws : List Car) (r0 : WkIn w A1 ws) (s : Wt) (r1 : WtIn w s) (id : Int) (_ : (Lit.int .i64 id).wf = true) (want : Int) (_ : (Lit.int .i64 want).wf = true) :
    Calls Try.prog 6 #[.agg #[.slice A1 ws.length c1], s.v, .int .i64 id, .int .i64 want] w fun e w' => e = .returned (.bool true) ∧ Below w.heap.size w w' := by
  show Calls _ _ #[.agg #[.slice A1 ws.length c1], .agg #[.slice s.A0 s.ri.length s.c0, .slice s.A1 s.bo.length s.c1, .slice s.A2 s.lk.length s.c2, .slice s.A3 s.lo.length s.c3], .int .i64 id, .int .i64 want] _ _
  have hb : Below w.heap.size w ((w.alloc (.cells #[.slice A1 ws.length c1] 24)).alloc (.cells #[.slice s.A0 s.ri.length s.c0, .slice s.A1 s.bo.length s.c1, .slice s.A2 s.lk.length s.c2, .slice s.A3 s.lo.length s.c3] 27)) := (((Below.refl _ w).alloc (Nat.le_refl _) _).alloc (by simp) _)
  have K := Lib.hid ((((stays_bl hb).and (stays_blk (g := w.heap.size) (blk_alloc (blk_new w #[.slice A1 ws.length c1] 24 rfl) _))).and (stays_blk (g := w.heap.size + 1) (blk_new (w.alloc (.cells #[.slice A1 ws.length c1] 24)) #[.slice s.A0 s.ri.length s.c0, .slice s.A1 s.bo.length s.c1, .slice s.A2 s.lk.length s.c2, .slice s.A3 s.lo.length s.c3] 27 (by simp)))).and (show Stays (fun _ => True) _ from ⟨trivial, fun _ _ _ _ => trivial⟩))
  replace K := Lib.hid (K.out.push (stays_wkIn (r0.ext hb)))
  replace K := Lib.hid (K.out.push (stays_wtIn (r1.ext hb)))
  clear hb
  cases hf : fewB ws with
  | false =>
    have F0 := Lib.hid hf
    clear hf
    go_enter Try.func6, Try.ntmps6
    go_upto_region 1 with fail
    generalize (w.alloc (.cells #[.slice A1 ws.length c1] 24)).alloc (.cells #[.slice s.A0 s.ri.length s.c0, .slice s.A1 s.bo.length s.c1, .slice s.A2 s.lk.length s.c2, .slice s.A3 s.lo.length s.c3] 27) = W0 at *
    have q1 := cell_row (i := 0) (K.out.1.1.1.2)
    go_wp2_with (first
      | (go_at_call 20; have _t := K2; clear _t; refine (sanity_any _).mono ?_; rintro e w9 ⟨rfl, hb⟩; have K8 := Lib.hid (K2.out.on hb); clear hb)
      | (go_at_call 18; have _t := K; clear _t; refine (few_any A1 c1 ws _ K.out.1.2.2.1).mono ?_; rw [F0.out]; rintro e w3 ⟨rfl, hb⟩; have K2 := Lib.hid (K.out.on hb); have q4 := cell_row (i := 0) (K2.out.1.1.2); have q5 := cell_row (i := 1) (K2.out.1.1.2); have q6 := cell_row (i := 2) (K2.out.1.1.2); have q7 := cell_row (i := 3) (K2.out.1.1.2); clear hb))
    go_ret
    exact ⟨rfl, K8.out.1.1.1.1⟩
  | true =>
  have F0 := Lib.hid hf
  cases hs : wetB s with
  | false =>
    have F1 := Lib.hid hs
    clear hs
    go_enter Try.func6, Try.ntmps6
    go_upto_region 1 with fail
    generalize (w.alloc (.cells #[.slice A1 ws.length c1] 24)).alloc (.cells #[.slice s.A0 s.ri.length s.c0, .slice s.A1 s.bo.length s.c1, .slice s.A2 s.lk.length s.c2, .slice s.A3 s.lo.length s.c3] 27) = W0 at *
    have q1 := cell_row (i := 0) (K.out.1.1.1.2)
    go_wp2_with (first
      | (go_at_call 20; have _t := K8; clear _t; refine (sanity_any _).mono ?_; rintro e w11 ⟨rfl, hb⟩; have K10 := Lib.hid (K8.out.on hb); clear hb)
      | (go_at_call 19; have _t := K2; clear _t; refine (wet_any s _ K2.out.1.2.1).mono ?_; rw [F1.out]; rintro e w9 ⟨rfl, hb⟩; have K8 := Lib.hid (K2.out.on hb); clear hb)
      | (go_at_call 18; have _t := K; clear _t; refine (few_any A1 c1 ws _ K.out.1.2.2.1).mono ?_; rw [F0.out]; rintro e w3 ⟨rfl, hb⟩; have K2 := Lib.hid (K.out.on hb); have q4 := cell_row (i := 0) (K2.out.1.1.2); have q5 := cell_row (i := 1) (K2.out.1.1.2); have q6 := cell_row (i := 2) (K2.out.1.1.2); have q7 := cell_row (i := 3) (K2.out.1.1.2); clear hb))
    go_ret
    exact ⟨rfl, K10.out.1.1.1.1⟩
  | true =>
  have F1 := Lib.hid hs
  have hbw : Below w.heap.size w _ := K.out.1.1.1.1
  have hk := few_wk r0 hf
  have hws := wetB_ok r1 hs
  clear hf hs
  replace K := Lib.hid (K.out.push (stays_wk (hk.ext hbw)))
  replace K := Lib.hid (K.out.push (stays_wet (hws.ext hbw)))
  clear hbw hk hws
  have HC := Lib.hid (And.intro (fun W hk hs => Open_any A1 c1 ws s id want W hk hs) (And.intro (fun W hk hs => rOpen_any A1 c1 ws s id want W hk hs) (And.intro (fun W hk hs => Send_any A1 c1 ws s id want W hk hs) (fun W hk hs => rSend_any A1 c1 ws s id want W hk hs))))
  go_enter Try.func6, Try.ntmps6
  go_upto_region 1 with fail
  generalize (w.alloc (.cells #[.slice A1 ws.length c1] 24)).alloc (.cells #[.slice s.A0 s.ri.length s.c0, .slice s.A1 s.bo.length s.c1, .slice s.A2 s.lk.length s.c2, .slice s.A3 s.lo.length s.c3] 27) = W0 at *
  have q1 := cell_row (i := 0) (K.out.1.1.1.2)
  go_upto_region 3 with (first
    | (go_at_call 19; have _t := K2; clear _t; refine (wet_any s _ K2.out.1.2.2.2.1).mono ?_; rw [F1.out]; rintro e w9 ⟨rfl, hb⟩; have K8 := Lib.hid (K2.out.on hb); clear hb)
    | (go_at_call 18; have _t := K; clear _t; refine (few_any A1 c1 ws _ K.out.1.2.2.2.2.1).mono ?_; rw [F0.out]; rintro e w3 ⟨rfl, hb⟩; have K2 := Lib.hid (K.out.on hb); have q4 := cell_row (i := 0) (K2.out.1.1.2); have q5 := cell_row (i := 1) (K2.out.1.1.2); have q6 := cell_row (i := 2) (K2.out.1.1.2); have q7 := cell_row (i := 3) (K2.out.1.1.2); clear hb))
  clear q1 q4 q5 q6 q7
  clear K K2
  have q10 := cell_row (i := 0) (K8.out.1.1.1.2)
  have q11 := cell_row (i := 0) (K8.out.1.1.2)
  have q12 := cell_row (i := 1) (K8.out.1.1.2)
  have q13 := cell_row (i := 2) (K8.out.1.1.2)
  have q14 := cell_row (i := 3) (K8.out.1.1.2)
  go_upto_region 4 with (go_at_call 33; have _t := K8; clear _t; refine (HC.out.1 _ K8.out.1.2.2.1 K8.out.1.2.1).mono ?_; rintro e w16 ⟨hr, hb⟩; have K15 := Lib.hid (K8.out.on hb); obtain ⟨a1, e1, rfl⟩ := open_shape hr; have HR := Lib.hid hr; clear hr; clear hb)
  clear q10 q11 q12 q13 q14
  clear K8
  have q17 := cell_row (i := 0) (K15.out.1.1.1.2)
  have q18 := cell_row (i := 0) (K15.out.1.1.2)
  have q19 := cell_row (i := 1) (K15.out.1.1.2)
  have q20 := cell_row (i := 2) (K15.out.1.1.2)
  have q21 := cell_row (i := 3) (K15.out.1.1.2)
  go_upto_region 5 with (go_at_call 34; have _t := K15; clear _t; refine (HC.out.2.1 _ K15.out.1.2.2.1 K15.out.1.2.1).mono ?_; rintro e w23 ⟨hr, hb⟩; have K22 := Lib.hid (K15.out.on hb); obtain rfl := open_same HR.out hr; clear hr HR; clear hb)
  clear q17 q18 q19 q20 q21
  clear K15
  have q24 := cell_row (i := 0) (K22.out.1.1.1.2)
  have q25 := cell_row (i := 0) (K22.out.1.1.2)
  have q26 := cell_row (i := 1) (K22.out.1.1.2)
  have q27 := cell_row (i := 2) (K22.out.1.1.2)
  have q28 := cell_row (i := 3) (K22.out.1.1.2)
  go_upto_region 6 with (go_at_call 35; have _t := K22; clear _t; refine (HC.out.2.2.1 _ K22.out.1.2.2.1 K22.out.1.2.1).mono ?_; rintro e w30 ⟨hr, hb⟩; have K29 := Lib.hid (K22.out.on hb); obtain ⟨a2, e2, rfl⟩ := send_shape hr; have HR := Lib.hid hr; clear hr; clear hb)
  clear q24 q25 q26 q27 q28
  clear K22
  have q31 := cell_row (i := 0) (K29.out.1.1.1.2)
  have q32 := cell_row (i := 0) (K29.out.1.1.2)
  have q33 := cell_row (i := 1) (K29.out.1.1.2)
  have q34 := cell_row (i := 2) (K29.out.1.1.2)
  have q35 := cell_row (i := 3) (K29.out.1.1.2)
  go_upto_region 7 with (go_at_call 36; have _t := K29; clear _t; refine (HC.out.2.2.2 _ K29.out.1.2.2.1 K29.out.1.2.1).mono ?_; rintro e w37 ⟨hr, hb⟩; have K36 := Lib.hid (K29.out.on hb); obtain rfl := send_same HR.out hr; clear hr HR; clear hb)
  clear q31 q32 q33 q34 q35
  clear K29
  go_wp2_with (go_at_call 20; have _t := K36; clear _t; refine (sanity_any _).mono ?_; rintro e w39 ⟨rfl, hb⟩; have K38 := Lib.hid (K36.out.on hb); clear hb)
  go_ret
  exact ⟨rfl, K38.out.1.1.1.1⟩
end Go.Proofs.Ytdadoelajhemjaa
