/- Walk: the law CarrierSigns. -/
import Derived.Test.YtdadoelajhemjaaL2
import Derived.Test.YtdadoelajhemjaaE4
namespace Go.Proofs.Ytdadoelajhemjaa
open Go.RowKit Go.Shelf

theorem sgL_le {ws : List Car} {id : Int} (f : List Car → Nat → List Int) (h : ∀ x, (f ws x).length ≤ 1000) : (sgL ws id f).length ≤ 1000 := by
  unfold sgL
  by_cases h0 : sigE ws id = 0
  · rw [if_pos h0]
    cases idxO ws id with
    | none => exact Nat.zero_le _
    | some x => exact h x
  · rw [if_neg h0]; exact Nat.zero_le _

set_option maxRecDepth 100000 in
set_option maxHeartbeats 8000000 in
theorem CarrierSigns_row (w : World) (A1 : Option Addr) (c1 : Nat) (ws : List Car) (r0 : WkIn w A1 ws) (id : Int) (_ : (Lit.int .i64 id).wf = true) :
    Calls Try.prog 9 #[.agg #[.slice A1 ws.length c1], .int .i64 id] w fun e w' => e = .returned (.bool true) ∧ Below w.heap.size w w' := by
  show Calls _ _ #[.agg #[.slice A1 ws.length c1], .int .i64 id] _ _
  have hb : Below w.heap.size w (w.alloc (.cells #[.slice A1 ws.length c1] 24)) := ((Below.refl _ w).alloc (Nat.le_refl _) _)
  have K := Lib.hid (((stays_bl hb).and (stays_blk (g := w.heap.size) (blk_new w #[.slice A1 ws.length c1] 24 rfl))).and (show Stays (fun _ => True) _ from ⟨trivial, fun _ _ _ _ => trivial⟩))
  replace K := Lib.hid (K.out.push (stays_wkIn (r0.ext hb)))
  clear hb
  cases hf : fewB ws with
  | false =>
    have F0 := Lib.hid hf
    clear hf
    go_enter Try.func9, Try.ntmps9
    go_upto_region 1 with fail
    generalize w.alloc (.cells #[.slice A1 ws.length c1] 24) = W0 at *
    have q1 := cell_row (i := 0) (K.out.1.1.2)
    go_wp2_with (first
      | (go_at_call 20; have _t := K2; clear _t; refine (sanity_any _).mono ?_; rintro e w5 ⟨rfl, hb⟩; have K4 := Lib.hid (K2.out.on hb); clear hb)
      | (go_at_call 18; have _t := K; clear _t; refine (few_any A1 c1 ws _ K.out.1.2.1).mono ?_; rw [F0.out]; rintro e w3 ⟨rfl, hb⟩; have K2 := Lib.hid (K.out.on hb); clear hb))
    go_ret
    exact ⟨rfl, K4.out.1.1.1⟩
  | true =>
  have F0 := Lib.hid hf
  have hbw : Below w.heap.size w _ := K.out.1.1.1
  have hk := few_wk r0 hf
  clear hf
  replace K := Lib.hid (K.out.push (stays_wk (hk.ext hbw)))
  have hn1 := hk.n1
  have hn2 := hk.n2
  have hm1 : (sgL ws id rivS).length ≤ 1000 := sgL_le _ fun x => by rw [show (rivS ws x).length = _ from rivTo_length (Nat.le_refl _)]; have := headsTo_le ws ws.length; omega
  have hm2 : (sgL ws id hatS).length ≤ 1000 := sgL_le _ fun x => by rw [show (hatS ws x).length = _ from hatTo_length ws x _]; omega
  have hm3 : (sgL ws id reaS).length ≤ 1000 := sgL_le _ fun x => by rw [show (reaS ws x).length = _ from reaTo_length ws x _]; omega
  clear hbw hk hn1 hn2
  have hF := fun W hk => Signs_any A1 c1 ws id W hk
  have rF := fun W hk => rSignsI_any A1 c1 ws id W hk
  generalize sgL ws id rivS = L1 at *
  generalize sgL ws id hatS = L2 at *
  generalize sgL ws id reaS = L3 at *
  generalize sigE ws id = E at *
  have HC := Lib.hid (And.intro hF rF)
  clear hF rF
  go_enter Try.func9, Try.ntmps9
  go_upto_region 1 with fail
  generalize w.alloc (.cells #[.slice A1 ws.length c1] 24) = W0 at *
  have q1 := cell_row (i := 0) (K.out.1.1.2)
  go_upto_region 3 with (go_at_call 18; have _t := K; clear _t; refine (few_any A1 c1 ws _ K.out.1.2.2.1).mono ?_; rw [F0.out]; rintro e w3 ⟨rfl, hb⟩; have K2 := Lib.hid (K.out.on hb); clear hb)
  clear q1
  clear K
  have q4 := cell_row (i := 0) (K2.out.1.1.2)
  go_upto_region 4 with (go_at_call 37; have _t := K2; clear _t; refine (HC.out.1 _ K2.out.1.2.1).mono ?_; rintro e w6 ⟨⟨A4, c4, A5, c5, A6, c6, rfl, r1, r2, r3⟩, hb⟩; have K5 := Lib.hid ((((K2.out.on hb).push (stays_rd r1)).push (stays_rd r2)).push (stays_rd r3)); clear r1 r2 r3; clear hb)
  clear q4
  clear K2
  have q7 := cell_row (i := 0) (K5.out.1.1.2)
  go_upto_region 5 with (go_at_call 43; have _t := K5; clear _t; refine (HC.out.2 _ K5.out.1.2.2.2.2.1).mono ?_; rintro e w9 ⟨⟨A7, c7, A8, c8, A9, c9, rfl, r1, r2, r3⟩, hb⟩; have K8 := Lib.hid ((((K5.out.on hb).push (stays_rd r1)).push (stays_rd r2)).push (stays_rd r3)); clear r1 r2 r3; clear hb)
  clear q7
  clear K5
  have K10 := Lib.hid ((K8.out.on ((Below.refl _ w9).alloc (Nat.le_refl _) (.cells #[.slice A7 L1.length c7, .slice A8 L2.length c8, .slice A9 L3.length c9, .int .i64 E] 69))).push (stays_blk (blk_new w9 #[.slice A7 L1.length c7, .slice A8 L2.length c8, .slice A9 L3.length c9, .int .i64 E] 69 rfl)))
  generalize w9.alloc (.cells #[.slice A7 L1.length c7, .slice A8 L2.length c8, .slice A9 L3.length c9, .int .i64 E] 69) = w11 at *
  generalize w9.heap.size = g9 at *
  clear K8
  go_wp2_with (first
    | (go_at_call 29; have _t := K24; clear _t; refine (same_yes A6 A9 c6 c9 L3 _ K24.out.1.2.2.2.2.2.1 K24.out.1.2.2.1 hm3).mono ?_; rintro e w31 ⟨rfl, hb⟩; have K30 := Lib.hid (K24.out.on hb); have z32 := cell_row (i := 0) (K30.out.1.2.1); have z33 := cell_row (i := 1) (K30.out.1.2.1); have z34 := cell_row (i := 2) (K30.out.1.2.1); have z35 := cell_row (i := 3) (K30.out.1.2.1); clear hb)
    | (go_at_call 29; have _t := K18; clear _t; refine (same_yes A5 A8 c5 c8 L2 _ K18.out.1.2.2.2.2.2.2.1 K18.out.1.2.2.2.1 hm2).mono ?_; rintro e w25 ⟨rfl, hb⟩; have K24 := Lib.hid (K18.out.on hb); have z26 := cell_row (i := 0) (K24.out.1.2.1); have z27 := cell_row (i := 1) (K24.out.1.2.1); have z28 := cell_row (i := 2) (K24.out.1.2.1); have z29 := cell_row (i := 3) (K24.out.1.2.1); clear hb)
    | (go_at_call 29; have _t := K12; clear _t; refine (same_yes A4 A7 c4 c7 L1 _ K12.out.1.2.2.2.2.2.2.2.1 K12.out.1.2.2.2.2.1 hm1).mono ?_; rintro e w19 ⟨rfl, hb⟩; have K18 := Lib.hid (K12.out.on hb); have z20 := cell_row (i := 0) (K18.out.1.2.1); have z21 := cell_row (i := 1) (K18.out.1.2.1); have z22 := cell_row (i := 2) (K18.out.1.2.1); have z23 := cell_row (i := 3) (K18.out.1.2.1); clear hb)
    | (go_at_call 20; have _t := K10; clear _t; refine (sanity_any _).mono ?_; rintro e w13 ⟨rfl, hb⟩; have K12 := Lib.hid (K10.out.on hb); have z14 := cell_row (i := 0) (K12.out.1.2.1); have z15 := cell_row (i := 1) (K12.out.1.2.1); have z16 := cell_row (i := 2) (K12.out.1.2.1); have z17 := cell_row (i := 3) (K12.out.1.2.1); clear hb))
  go_ret
  exact ⟨rfl, K30.out.1.1.1⟩
end Go.Proofs.Ytdadoelajhemjaa
