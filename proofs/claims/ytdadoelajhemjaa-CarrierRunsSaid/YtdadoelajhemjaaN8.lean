/- Walk: the law CarrierRuns. -/
import Derived.Test.YtdadoelajhemjaaN2
import Derived.Test.YtdadoelajhemjaaN4
import Derived.Test.YtdadoelajhemjaaN7
namespace Go.Proofs.Ytdadoelajhemjaa
open Go.RowKit Go.Shelf

set_option maxRecDepth 100000 in
set_option maxHeartbeats 8000000 in
theorem runs_few (w : World) (A1 : Option Addr) (c1 : Nat) (ws : List Car) (r0 : WkIn w A1 ws) (B : Option Addr) (d : Nat) (l : List Rn) (r1 : RnsIn w B l) (n1 n2 : Int) (hf : fewB ws = false) : Calls Try.prog 10 #[.agg #[.slice A1 ws.length c1], .slice B l.length d, .int .u8 n1, .int .u16 n2] w fun e w' => e = .returned (.bool true) ∧ Below w.heap.size w w' := by
 have hb : Below w.heap.size w (w.alloc (.cells #[.slice A1 ws.length c1] 24)) := (Below.refl _ w).alloc (Nat.le_refl _) _
 have K := Lib.hid (((stays_bl hb).and (stays_blk (blk_new w #[.slice A1 ws.length c1] 24 rfl))).and ((stays_wkIn (r0.ext hb)).and (stays_rnsIn (r1.ext hb))))
 clear hb
 have F0 := Lib.hid hf
 clear hf
 go_enter Try.func10, Try.ntmps10
 go_upto_region 1 with fail
 generalize (w.alloc (.cells #[.slice A1 ws.length c1] 24)) = W0 at *
 have q1 := cr 0 (K.out.1.1.2)
 go_wp2_with (first
  | (go_at_call 20; have _t := K2; clear _t; refine (sanity_any _).mono ?_; rintro e w7 ⟨rfl, hb⟩; have K6 := Lib.hid (K2.out.on hb); clear hb)
  | (go_at_call 18; refine (few_any A1 c1 ws _ K.out.1.2.1).mono ?_; rw [F0.out]; rintro e w3 ⟨rfl, hb⟩; have K2 := Lib.hid (K.out.on hb); clear hb))
 go_ret
 exact ⟨rfl, K6.out.1.1.1⟩
set_option maxRecDepth 100000 in
set_option maxHeartbeats 8000000 in
theorem runs_runs (w : World) (A1 : Option Addr) (c1 : Nat) (ws : List Car) (r0 : WkIn w A1 ws) (B : Option Addr) (d : Nat) (l : List Rn) (r1 : RnsIn w B l) (n1 n2 : Int) (hf : fewB ws = true) (hs : runsB l = false) : Calls Try.prog 10 #[.agg #[.slice A1 ws.length c1], .slice B l.length d, .int .u8 n1, .int .u16 n2] w fun e w' => e = .returned (.bool true) ∧ Below w.heap.size w w' := by
 have hb : Below w.heap.size w (w.alloc (.cells #[.slice A1 ws.length c1] 24)) := (Below.refl _ w).alloc (Nat.le_refl _) _
 have K := Lib.hid (((stays_bl hb).and (stays_blk (blk_new w #[.slice A1 ws.length c1] 24 rfl))).and ((stays_wkIn (r0.ext hb)).and (stays_rnsIn (r1.ext hb))))
 clear hb
 have F0 := Lib.hid hf
 have F1 := Lib.hid hs
 clear hf hs
 go_enter Try.func10, Try.ntmps10
 go_upto_region 1 with fail
 generalize (w.alloc (.cells #[.slice A1 ws.length c1] 24)) = W0 at *
 have q1 := cr 0 (K.out.1.1.2)
 go_wp2_with (first
  | (go_at_call 20; have _t := K6; clear _t; refine (sanity_any _).mono ?_; rintro e w9 ⟨rfl, hb⟩; have K8 := Lib.hid (K6.out.on hb); clear hb)
  | (go_at_call 44; have _t := K2; clear _t; refine (runs_any B d l _ K2.out.1.2.2).mono ?_; rw [F1.out]; rintro e w7 ⟨rfl, hb⟩; have K6 := Lib.hid (K2.out.on hb); clear hb)
  | (go_at_call 18; refine (few_any A1 c1 ws _ K.out.1.2.1).mono ?_; rw [F0.out]; rintro e w3 ⟨rfl, hb⟩; have K2 := Lib.hid (K.out.on hb); clear hb))
 go_ret
 exact ⟨rfl, K8.out.1.1.1⟩
set_option maxRecDepth 100000 in
set_option maxHeartbeats 8000000 in
theorem runs_many (w : World) (A1 : Option Addr) (c1 : Nat) (ws : List Car) (r0 : WkIn w A1 ws) (B : Option Addr) (d : Nat) (l : List Rn) (r1 : RnsIn w B l) (n1 n2 : Int) (hf : fewB ws = true) (hs : runsB l = true) (h6 : 6 < l.length) : Calls Try.prog 10 #[.agg #[.slice A1 ws.length c1], .slice B l.length d, .int .u8 n1, .int .u16 n2] w fun e w' => e = .returned (.bool true) ∧ Below w.heap.size w w' := by
 have hb : Below w.heap.size w (w.alloc (.cells #[.slice A1 ws.length c1] 24)) := (Below.refl _ w).alloc (Nat.le_refl _) _
 have K := Lib.hid (((stays_bl hb).and (stays_blk (blk_new w #[.slice A1 ws.length c1] 24 rfl))).and ((stays_wkIn (r0.ext hb)).and (stays_rnsIn (r1.ext hb))))
 clear hb
 have F0 := Lib.hid hf
 have F1 := Lib.hid hs
 have h6z : (6 : Int) < (l.length : Int) := by omega
 clear hf hs
 go_enter Try.func10, Try.ntmps10
 go_upto_region 1 with fail
 generalize (w.alloc (.cells #[.slice A1 ws.length c1] 24)) = W0 at *
 have q1 := cr 0 (K.out.1.1.2)
 go_wp2_with (first
  | (go_at_call 20; have _t := K6; clear _t; refine (sanity_any _).mono ?_; rintro e w9 ⟨rfl, hb⟩; have K8 := Lib.hid (K6.out.on hb); clear hb)
  | (go_at_call 44; have _t := K2; clear _t; refine (runs_any B d l _ K2.out.1.2.2).mono ?_; rw [F1.out]; rintro e w7 ⟨rfl, hb⟩; have K6 := Lib.hid (K2.out.on hb); clear hb)
  | (go_at_call 18; refine (few_any A1 c1 ws _ K.out.1.2.1).mono ?_; rw [F0.out]; rintro e w3 ⟨rfl, hb⟩; have K2 := Lib.hid (K.out.on hb); clear hb))
 go_ret
 exact ⟨rfl, K8.out.1.1.1⟩
set_option maxRecDepth 100000 in
set_option maxHeartbeats 8000000 in
theorem runs_bad (w : World) (A1 : Option Addr) (c1 : Nat) (ws : List Car) (r0 : WkIn w A1 ws) (B : Option Addr) (d : Nat) (l : List Rn) (r1 : RnsIn w B l) (n1 n2 : Int) (hf : fewB ws = true) (hs : runsB l = true) (h6 : l.length ≤ 6) (he : drkE ws l ≠ 0) : Calls Try.prog 10 #[.agg #[.slice A1 ws.length c1], .slice B l.length d, .int .u8 n1, .int .u16 n2] w fun e w' => e = .returned (.bool true) ∧ Below w.heap.size w w' := by
 have hb : Below w.heap.size w (w.alloc (.cells #[.slice A1 ws.length c1] 24)) := (Below.refl _ w).alloc (Nat.le_refl _) _
 have K := Lib.hid (((stays_bl hb).and (stays_blk (blk_new w #[.slice A1 ws.length c1] 24 rfl))).and ((stays_wkIn (r0.ext hb)).and (stays_rnsIn (r1.ext hb))))
 clear hb
 have F0 := Lib.hid hf
 have F1 := Lib.hid hs
 have h6z : ¬ (6 : Int) < (l.length : Int) := by omega
 have hk := few_wk r0 hf
 have hr := runsB_ok r1 hs
 have hbw : Below w.heap.size w _ := K.out.1.1.1
 replace K := Lib.hid (K.out.and ((stays_wk (hk.ext hbw)).and (stays_rdr (hr.1.ext hbw))))
 have hF := fun W hk hc => Drunk_any A1 c1 ws B d l W hk hc (by omega)
 have hez : (drkE ws l != 0) = true := by simpa using he
 generalize drkL ws l = L1 at *
 generalize drkE ws l = E at *
 have HC := Lib.hid hF
 clear hF he hf hs hk hr hbw
 go_enter Try.func10, Try.ntmps10
 go_upto_region 1 with fail
 generalize (w.alloc (.cells #[.slice A1 ws.length c1] 24)) = W0 at *
 have q1 := cr 0 (K.out.1.1.1.2)
 go_wp2_with (first
  | (go_at_call 20; have _t := K8; clear _t; refine (sanity_any _).mono ?_; rintro e w9 ⟨rfl, hb⟩; have K9 := Lib.hid (K8.out.on hb); clear hb)
  | (go_at_call 45; have _t := K6; clear _t; refine (HC.out _ K6.out.1.2.1 K6.out.1.2.2).mono ?_; rintro e w12 ⟨A4, c4, rfl, -, -, hb⟩; have K8 := Lib.hid (K6.out.on hb); clear hb)
  | (go_at_call 44; have _t := K2; clear _t; refine (runs_any B d l _ K2.out.1.1.2.2).mono ?_; rw [F1.out]; rintro e w7 ⟨rfl, hb⟩; have K6 := Lib.hid (K2.out.on hb); have q2 := cr 0 (K6.out.1.1.1.2); clear hb)
  | (go_at_call 18; refine (few_any A1 c1 ws _ K.out.1.1.2.1).mono ?_; rw [F0.out]; rintro e w3 ⟨rfl, hb⟩; have K2 := Lib.hid (K.out.on hb); clear hb))
 go_ret
 exact ⟨rfl, K9.out.1.1.1.1⟩
set_option maxRecDepth 100000 in
set_option maxHeartbeats 8000000 in
theorem runs_main (w : World) (A1 : Option Addr) (c1 : Nat) (ws : List Car) (r0 : WkIn w A1 ws) (B : Option Addr) (d : Nat) (l : List Rn) (r1 : RnsIn w B l) (n1 n2 : Int) (hd : l.length ≤ d) (hn : B = none → d = 0) (h1 : 0 ≤ n1 ∧ n1 ≤ 255) (h2 : 0 ≤ n2 ∧ n2 ≤ 65535) (hf : fewB ws = true) (hs : runsB l = true) (h6 : l.length ≤ 6) (he : drkE ws l = 0) : Calls Try.prog 10 #[.agg #[.slice A1 ws.length c1], .slice B l.length d, .int .u8 n1, .int .u16 n2] w fun e w' => e = .returned (.bool true) ∧ Below w.heap.size w w' := by
 have hb : Below w.heap.size w (w.alloc (.cells #[.slice A1 ws.length c1] 24)) := (Below.refl _ w).alloc (Nat.le_refl _) _
 have K := Lib.hid (((stays_bl hb).and (stays_blk (blk_new w #[.slice A1 ws.length c1] 24 rfl))).and ((stays_wkIn (r0.ext hb)).and (stays_rnsIn (r1.ext hb))))
 clear hb
 have F0 := Lib.hid hf
 have F1 := Lib.hid hs
 have h6z : ¬ (6 : Int) < (l.length : Int) := by omega
 have hk := few_wk r0 hf
 have hr := runsB_ok r1 hs
 have hbw : Below w.heap.size w _ := K.out.1.1.1
 replace K := Lib.hid (K.out.and ((stays_wk (hk.ext hbw)).and (stays_rdr (hr.1.ext hbw))))
 have hF := fun W hk hc => Drunk_any A1 c1 ws B d l W hk hc (by omega)
 have HE := Lib.hid he
 have hLl := drkL_length he
 rw [he, hLl] at hF
 have HC := Lib.hid hF
 clear hF he hf hs hk hr hbw
 go_enter Try.func10, Try.ntmps10
 go_upto_region 1 with fail
 generalize (w.alloc (.cells #[.slice A1 ws.length c1] 24)) = W0 at *
 have q1 := cr 0 (K.out.1.1.1.2)
 go_upto_region 6 with (first
  | (go_at_call 45; have _t := K6; clear _t; refine (HC.out _ K6.out.1.2.1 K6.out.1.2.2).mono ?_; rintro e w12 ⟨A4, c4, rfl, hra, -, hb⟩; have K8 := Lib.hid ((K6.out.on hb).and (stays_rd hra)); clear hb hra)
  | (go_at_call 44; have _t := K2; clear _t; refine (runs_any B d l _ K2.out.1.1.2.2).mono ?_; rw [F1.out]; rintro e w7 ⟨rfl, hb⟩; have K6 := Lib.hid (K2.out.on hb); have q2 := cr 0 (K6.out.1.1.1.2); clear hb)
  | (go_at_call 18; refine (few_any A1 c1 ws _ K.out.1.1.2.1).mono ?_; rw [F0.out]; rintro e w3 ⟨rfl, hb⟩; have K2 := Lib.hid (K.out.on hb); clear hb))
 clear q1 q2 K K2 K6 HC
 go_upto_region 7 with fail
 obtain ⟨k, hk, hkl⟩ : ∃ k : Nat, n1 % ((l.length : Int) + 1) = (k : Int) ∧ k ≤ l.length := by
  have a := Int.emod_nonneg n1 (show (l.length : Int) + 1 ≠ 0 by omega)
  have b := Int.emod_lt_of_pos n1 (show (0 : Int) < (l.length : Int) + 1 by omega)
  exact ⟨(n1 % ((l.length : Int) + 1)).toNat, by omega, by omega⟩
 rw [hk]
 have hcut := drk_cut HE.out k
 have HCUT := hd5 hcut.1 (drkL_length hcut.1) hcut.2.1 (drkL_length hcut.2.1) hcut.2.2
 clear hcut
 have hkd : (k : Int) ≤ (d : Int) := by omega
 have hk0 : (0 : Int) ≤ (k : Int) := by omega
 clear hk
 refine wp_region_R (fun _ => true) ?_
 have KD := Lib.hid (K8.out.on (Below.refl _ _).drew)
 generalize w12.drew = X0 at *
 have p0 := cr 0 KD.out.1.1.1.1.2
 refine bT p0 0 rfl ?_
 refine bF 2 rfl ?_
 refine bF 3 rfl ?_
 refine bF 4 rfl ?_
 refine bR 1 rfl fun K hK => ?_
 clear p0
 go_simp
 refine hK.out _ _ (fun _ => (Below.refl _ _).alloc (Nat.le_refl _) _) ?_
 clear hK
 have hb1 : Below X0.heap.size X0 (X0.alloc (.cells #[] 76)) := (Below.refl _ _).alloc (Nat.le_refl _) _
 have KE := Lib.hid (KD.out.on hb1)
 have HB := Lib.hid (blk_new X0 #[] 76 rfl)
 have HZ := Lib.hid hb1.size
 clear hb1
 generalize X0.alloc (.cells #[] 76) = X1 at *
 generalize X0.heap.size = g0 at *
 refine bR 5 rfl fun K hK => ?_
 refine wp_app_first (.tmp 54) (.tmp 57) rfl g0 g0 (Nat.le_refl _) HB.out HZ.out rfl B d (l.take k) (by rw [List.length_take, Nat.min_eq_left hkl]; rfl) (KE.out.1.1.2.2.take k) hn (by rw [List.length_take]; omega) ?_
 intro v1 X2 hown hb2
 refine hK.out _ _ (fun _ => hb2) ?_
 have KF := Lib.hid (KE.out.on hb2)
 clear hK hb2
 obtain ⟨A5, c5, rfl, hr5⟩ := hown.rd (rdr_wet (KF.out.1.1.2.2.take k))
 dsimp only [Act.put]
 simp only [List.setIfInBounds_toArray, List.set_cons_zero, List.set_cons_succ]
 refine bR 6 rfl fun K hK => ?_
 go_simp
 have hd5 := Drunk_any A1 c1 ws A5 c5 (l.take k) X2 KF.out.1.1.2.1 hr5 (by rw [List.length_take]; omega)
 rw [List.length_take, Nat.min_eq_left hkl, HCUT.out.1, HCUT.out.2.1] at hd5
 refine hd5.mono ?_
 clear hd5 hr5 hown
 rintro e X3 ⟨A6, c6, rfl, hra, -, hb⟩
 dsimp only
 refine hK.out _ _ (fun _ => hb) ?_
 have KG := Lib.hid ((KF.out.on hb).and (stays_rd hra))
 clear hK hb hra
 refine bF 7 rfl ?_
 refine bF 8 rfl ?_
 refine bF 9 rfl ?_
 refine bF 10 rfl ?_
 refine bF 11 rfl ?_
 refine bD ?_
 clear KE KF HB HZ KD K8
 go_upto_region 8 with fail
 refine wp_region_R (fun _ => true) ?_
 have KD := Lib.hid (KG.out.on (Below.refl _ _).drew)
 generalize X3.drew = X4 at *
 have p0 := cr 0 KD.out.1.1.1.1.1.2
 have hkl2 : (k : Int) ≤ (l.length : Int) := by omega
 refine bT p0 0 rfl ?_
 refine bF 2 rfl ?_
 refine bF 3 rfl ?_
 refine bF 4 rfl ?_
 refine bR 1 rfl fun K hK => ?_
 clear p0
 go_simp
 refine hK.out _ _ (fun _ => (Below.refl _ _).alloc (Nat.le_refl _) _) ?_
 clear hK
 have hb1 : Below X4.heap.size X4 (X4.alloc (.cells #[] 76)) := (Below.refl _ _).alloc (Nat.le_refl _) _
 have KE := Lib.hid (KD.out.on hb1)
 have HB := Lib.hid (blk_new X4 #[] 76 rfl)
 have HZ := Lib.hid hb1.size
 clear hb1
 generalize X4.alloc (.cells #[] 76) = X5 at *
 generalize X4.heap.size = g4 at *
 have hrs := rdr_rest KE.out.1.1.1.2.2 (k := k) hd
 have hrn := rest_none (k := k) hn
 generalize (if d = k then B else Option.map (fun x => x.add (k * 5)) B) = BD at *
 refine bR 5 rfl fun K hK => ?_
 refine wp_app_first (.tmp 64) (.tmp 67) rfl g4 g4 (Nat.le_refl _) HB.out HZ.out rfl BD (d - k) (l.drop k) (by rw [List.length_drop]; rfl) hrs hrn (by rw [List.length_drop]; omega) ?_
 intro v1 X6 hown hb2
 refine hK.out _ _ (fun _ => hb2) ?_
 have KF := Lib.hid (KE.out.on hb2)
 have hws := rdr_wet (hrs.ext hb2)
 clear hK hb2
 obtain ⟨A7, c7, rfl, hr7⟩ := hown.rd hws
 dsimp only [Act.put]
 simp only [List.setIfInBounds_toArray, List.set_cons_zero, List.set_cons_succ]
 clear hrs hrn hws
 refine bR 6 rfl fun K hK => ?_
 go_simp
 have hd7 := Drunk_any A1 c1 ws A7 c7 (l.drop k) X6 KF.out.1.1.1.2.1 hr7 (by rw [List.length_drop]; omega)
 rw [List.length_drop, HCUT.out.2.2.1, HCUT.out.2.2.2.1] at hd7
 refine hd7.mono ?_
 clear hd7 hr7 hown
 rintro e X7 ⟨A8, c8, rfl, hra, -, hb⟩
 dsimp only
 refine hK.out _ _ (fun _ => hb) ?_
 have KG2 := Lib.hid ((KF.out.on hb).and (stays_rd hra))
 clear hK hb hra
 refine bF 7 rfl ?_
 refine bF 8 rfl ?_
 refine bF 9 rfl ?_
 refine bF 10 rfl ?_
 refine bF 11 rfl ?_
 refine bD ?_
 clear KE KF HB HZ KD KG
 go_upto_region 12 with fail
 have HSUM := Lib.hid HCUT.out.2.2.2.2
 have hbd : Hid (∀ x, x < (outs ws).length → 0 ≤ nth (drkL ws l) x ∧ nth (drkL ws l) x ≤ 1099511627776 * 6) := by
  refine Lib.hid (fun x hx => ?_)
  obtain ⟨g, _, hr⟩ := drk_zero HE.out
  have := drkTo_max (l := l) g hx (t := l.length) (fun j hj => hr _ (rAt_mem hj))
  rw [drkL_eq HE.out, nth_map_range _ hx, ← drkTo_all]
  omega
 have HMID := Lib.hid (fun m a b c => drk_mid (m := m) HE.out h6 (k := k) a b c)
 have LEN := hd3 hLl HCUT.out.2.1 HCUT.out.2.2.2.1
 have hn14 := KG2.out.1.1.1.1.2.1
 have hn90 : (outs ws).length ≤ 1000 := hn14.n2
 clear hn14 HCUT hLl
 generalize hL : drkL ws l = L at *
 generalize drkL ws (l.take k) = LA at *
 generalize drkL ws (l.drop k) = LB at *
 generalize hN : (outs ws).length = N at *
 go_loopg [16] N (fun gg i wr => ∃ x : Nat, x ≤ N ∧ N - x ≤ gg ∧ i = .int .i64 x ∧ Aside (Below X7.heap.size X7 wr))
 case atStart => exact ⟨0, Nat.zero_le _, by omega, rfl, Below.refl _ _⟩
 case round =>
  obtain ⟨x, hx, hxg, rfl, hB⟩ := hrel
  have KR := Lib.hid (KG2.out.on hB.out)
  have HB := Lib.hid hB.out
  clear hB
  by_cases hxl : x < N
  ·have hxz : (x : Int) < (N : Int) := by omega
   have KD := Lib.hid (KR.out.on (Below.refl _ _).drew)
   obtain ⟨b0, o0, rfl, -, hc0⟩ := KD.out.1.1.1.2 (by rw [LEN.out.1]; omega)
   obtain ⟨b1, o1, rfl, -, hc1⟩ := KD.out.1.1.2 (by rw [LEN.out.2.1]; omega)
   obtain ⟨b2, o2, rfl, -, hc2⟩ := KD.out.1.2 (by rw [LEN.out.2.2]; omega)
   have z0 := hc1 x (by rw [LEN.out.2.1]; omega)
   have z1 := hc2 x (by rw [LEN.out.2.2]; omega)
   have z2 := hc0 x (by rw [LEN.out.1]; omega)
   have hw : IntKind.i64.wrap (nth LA x + nth LB x) = nth L x := by
    rw [HSUM.out x hxl]
    have := hbd.out x hxl
    rw [IntKind.wrap_i64]; omega
   have HW := Lib.hid hw
   clear hw hc0 hc1 hc2
   go_upto_region 14 with fail
   have HBX := Lib.hid HB.out.drew
   refine wp_region_R (fun _ => true) ?_
   generalize wr.drew = X at *
   refine bF 0 rfl ?_
   refine bF 1 rfl ?_
   refine bF 2 rfl ?_
   refine bT z0 3 rfl ?_
   refine bF 4 rfl ?_
   refine bF 5 rfl ?_
   refine bF 6 rfl ?_
   refine bT z1 7 rfl ?_
   refine bF 8 rfl ?_
   refine bF 9 rfl ?_
   refine bF 10 rfl ?_
   refine bF 11 rfl ?_
   refine bT z2 12 rfl ?_
   refine bF 13 rfl ?_
   refine bD ?_
   clear z0 z1 z2
   rw [HW.out]
   go_wp2
   go_roundg (N - (x + 1))
   case measure => omega
   case rel => exact ⟨x + 1, by omega, by omega, by go_num, HBX.out⟩
  ·have hxz : ¬ (x : Int) < (N : Int) := by omega
   clear HSUM hbd
   go_upto_region 16 with fail
   by_cases hkn : k = l.length
   ·have hkz : (k : Int) = (l.length : Int) := by omega
    go_wp2_with (go_at_call 20; refine (sanity_any _).mono ?_; rintro e wa ⟨rfl, hb⟩; have KS := Lib.hid (KR.out.on hb); clear hb)
    go_ret
    exact ⟨rfl, KS.out.1.1.1.1.1.1.1⟩
   have hkz : ¬ (k : Int) = (l.length : Int) := by omega
   have hklz : (k : Int) < (l.length : Int) := by omega
   have hkl1 : k < l.length := by omega
   obtain ⟨b, off, rfl, hc⟩ := KR.out.1.1.1.1.2.2 (by omega)
   have hr := hc k hkl1
   have hrm := run_zero ((drk_zero HE.out).2.2 _ (rAt_mem hkl1))
   have HM := Lib.hid (fun m => HMID.out m)
   clear HMID
   have HQ : Hid (∀ m, cutL l k m = l.take k ++ [⟨m, (rAt l k).s⟩, ⟨(rAt l k).m - m, (rAt l k).s⟩] ++ l.drop (k + 1)) := Lib.hid (fun _ => rfl)
   have HRN := Lib.hid hr
   have HLEN := Lib.hid (fun m => cutL_length hkl1 m)
   generalize cutL l k = CL at *
   generalize rAt l k = r at *
   have z0 := hr.c0
   clear hr hc hkn
   by_cases hm2 : r.m < 2
   ·go_wp2_with (go_at_call 20; refine (sanity_any _).mono ?_; rintro e wa ⟨rfl, hb⟩; have KS := Lib.hid (KR.out.on hb); clear hb)
    go_ret
    exact ⟨rfl, KS.out.1.1.1.1.1.1.1⟩
   have hw1 : IntKind.i64.wrap (r.m - 1) = r.m - 1 := by rw [IntKind.wrap_i64]; omega
   have hm0 : ¬ r.m - 1 = 0 := by omega
   go_upto_region 18 with fail
   go_upto_region 19 with fail
   obtain ⟨m, hm, hm1, hm3⟩ : ∃ m, wrap64 (1 + n2 % (r.m - 1)) = m ∧ 1 ≤ m ∧ m < r.m := by
    have a := Int.emod_nonneg n2 (show r.m - 1 ≠ 0 by omega)
    have b := Int.emod_lt_of_pos n2 (show 0 < r.m - 1 by omega)
    have e : wrap64 (1 + n2 % (r.m - 1)) = 1 + n2 % (r.m - 1) := by
     generalize n2 % (r.m - 1) = q at *
     unfold wrap64
     omega
    exact ⟨_, rfl, by omega, by omega⟩
   rw [hm]
   have hw2 : IntKind.i64.wrap (r.m - m) = r.m - m := by rw [IntKind.wrap_i64]; omega
   have q1 := HRN.out.c1
   have q2 := HRN.out.c2
   have q3 := HRN.out.c3
   have q4 := HRN.out.c4
   clear hm hw1 hm0
   go_upto_region 20 with fail
   clear z0 q1 q2 q3 q4
   have hbx := (Below.refl _ wr).alloc (Nat.le_refl _) (.cells #[.int .i64 m, .slice r.s.A0 r.s.ri.length r.s.c0, .slice r.s.A1 r.s.bo.length r.s.c1, .slice r.s.A2 r.s.lk.length r.s.c2, .slice r.s.A3 r.s.lo.length r.s.c3] 76)
   have KA := Lib.hid (((KR.out.on hbx).and (stays_blk (blk_new wr #[.int .i64 m, .slice r.s.A0 r.s.ri.length r.s.c0, .slice r.s.A1 r.s.bo.length r.s.c1, .slice r.s.A2 r.s.lk.length r.s.c2, .slice r.s.A3 r.s.lo.length r.s.c3] 76 rfl))).and (stays_run (HRN.out.ext hbx)))
   clear hbx
   generalize wr.alloc (.cells #[.int .i64 m, .slice r.s.A0 r.s.ri.length r.s.c0, .slice r.s.A1 r.s.bo.length r.s.c1, .slice r.s.A2 r.s.lk.length r.s.c2, .slice r.s.A3 r.s.lo.length r.s.c3] 76) = X8 at *
   generalize wr.heap.size = g1 at *
   refine wp_region_R (fun j => j != 14) ?_
   have KD := Lib.hid (KA.out.on (Below.refl _ _).drew)
   generalize X8.drew = X9 at *
   have z0 := KD.out.1.2.c0
   have q1 := KD.out.1.2.c1
   have q2 := KD.out.1.2.c2
   have q3 := KD.out.1.2.c3
   have q4 := KD.out.1.2.c4
   refine bF 0 rfl ?_
   refine bF 1 rfl ?_
   refine bF 2 rfl ?_
   refine bF 3 rfl ?_
   refine bT z0 4 rfl ?_
   refine bF 5 rfl ?_
   refine bF 6 rfl ?_
   refine bF 7 rfl ?_
   refine bF 8 rfl ?_
   refine bF 9 rfl ?_
   refine bF 10 rfl ?_
   refine bW q1 q2 q3 q4 11 rfl ?_
   refine bF 12 rfl ?_
   clear z0 q1 q2 q3 q4
   refine bR 13 rfl fun K hK => ?_
   go_simp
   refine hK.out _ _ (fun _ => (Below.refl _ _).alloc (Nat.le_refl _) _) ?_
   clear hK
   have hbx := (Below.refl _ X9).alloc (Nat.le_refl _) (.cells #[.int .i64 0, .slice none 0 0, .slice none 0 0, .slice none 0 0, .slice none 0 0] 76)
   have hbk := blk_new X9 #[.int .i64 0, .slice none 0 0, .slice none 0 0, .slice none 0 0, .slice none 0 0] 76 rfl
   refine bR 14 rfl fun K hK => ?_
   refine wp_store_mid 76 (.tmp 19) (.tmp 154) rfl X9.heap.size 0 #[.int .i64 (r.m - m), .slice r.s.A0 r.s.ri.length r.s.c0, .slice r.s.A1 r.s.bo.length r.s.c1, .slice r.s.A2 r.s.lk.length r.s.c2, .slice r.s.A3 r.s.lo.length r.s.c3] rfl rfl (show World.there _ _ 0 5 from blk_there hbk) (by kernel_rfl) (by simp [Value.oneCell']) ?_
   refine hK.out _ _ (fun h => by cases h) ?_
   clear hK
   refine bD ?_
   have hbx2 := setCells_below (W0 := X9) (Nat.le_refl _) #[.int .i64 (r.m - m), .slice r.s.A0 r.s.ri.length r.s.c0, .slice r.s.A1 r.s.bo.length r.s.c1, .slice r.s.A2 r.s.lk.length r.s.c2, .slice r.s.A3 r.s.lo.length r.s.c3].toList 0 _ hbx
   have hbk2 := setCells_blk hbk #[.int .i64 (r.m - m), .slice r.s.A0 r.s.ri.length r.s.c0, .slice r.s.A1 r.s.bo.length r.s.c1, .slice r.s.A2 r.s.lk.length r.s.c2, .slice r.s.A3 r.s.lo.length r.s.c3].toList rfl
   have hbx3 := hbx2
   have KB := Lib.hid ((KD.out.on (hbx2)).and (stays_blk hbk2))
   have HSZ : Hid (g1 < X9.heap.size) := Lib.hid (lt_of_cell' (cr 0 KD.out.1.1.2))
   dsimp only [Act.put]
   generalize (X9.alloc (Obj.cells #[.int .i64 0, .slice none 0 0, .slice none 0 0, .slice none 0 0, .slice none 0 0] 76)).setCells X9.heap.size 0 #[.int .i64 (r.m - m), .slice r.s.A0 r.s.ri.length r.s.c0, .slice r.s.A1 r.s.bo.length r.s.c1, .slice r.s.A2 r.s.lk.length r.s.c2, .slice r.s.A3 r.s.lo.length r.s.c3].toList = Y0 at *
   generalize X9.heap.size = g2 at *
   clear hbx hbk hbx2 hbx3 hbk2 KD KA
   have hwk1 : IntKind.i64.wrap ((k : Int) + 1) = (k : Int) + 1 := by rw [IntKind.wrap_i64]; omega
   go_upto_region 21 with fail
   refine wp_region_R (fun j => j != 8 && j != 13) ?_
   have KC := Lib.hid (KB.out.on (Below.refl _ _).drew)
   generalize Y0.drew = Y1 at *
   have hk1l : ((k : Int) + 1) ≤ (l.length : Int) := by omega
   have hk10 : (0 : Int) ≤ ((k : Int) + 1) := by omega
   refine bF 1 rfl ?_
   refine bF 2 rfl ?_
   refine bF 3 rfl ?_
   refine bN 9 rfl ?_
   refine bN 10 rfl ?_
   refine bN 11 rfl ?_
   refine bN 12 rfl ?_
   have u1 := KC.out.1.1.1.2
   have u2 := KC.out.1.2
   refine bU (v := .agg #[.int .i64 m, .slice r.s.A0 r.s.ri.length r.s.c0, .slice r.s.A1 r.s.bo.length r.s.c1, .slice r.s.A2 r.s.lk.length r.s.c2, .slice r.s.A3 r.s.lo.length r.s.c3]) u1 5 rfl ?_ (by intro w hB; have a0 := cr 0 hB; have a1 := cr 1 hB; have a2 := cr 2 hB; have a3 := cr 3 hB; have a4 := cr 4 hB; go_simp)
   refine bU (v := .agg #[.int .i64 (r.m - m), .slice r.s.A0 r.s.ri.length r.s.c0, .slice r.s.A1 r.s.bo.length r.s.c1, .slice r.s.A2 r.s.lk.length r.s.c2, .slice r.s.A3 r.s.lo.length r.s.c3]) u2 6 rfl ?_ (by intro w hB; have a0 := cr 0 hB; have a1 := cr 1 hB; have a2 := cr 2 hB; have a3 := cr 3 hB; have a4 := cr 4 hB; go_simp)
   clear u1 u2
   have hrs2 : RdR Y1 (if d = k + 1 then some ⟨b, off, none⟩ else some ⟨b, off + (k + 1) * 5, none⟩) (l.drop (k + 1)) := by
    have := rdr_rest KC.out.1.1.1.1.1.1.1.2.2 (k := k + 1) hd
    simpa [add_eq] using this
   have hbn : (if d = k + 1 then (some ⟨b, off, none⟩ : Option Addr) else some ⟨b, off + (k + 1) * 5, none⟩) = none → d - (k + 1) = 0 := by
    intro h
    split at h <;> cases h
   generalize (if d = k + 1 then (some ⟨b, off, none⟩ : Option Addr) else some ⟨b, off + (k + 1) * 5, none⟩) = BD2 at *
   have KC2 := Lib.hid (KC.out.and (stays_rdr hrs2))
   clear KC hrs2 KB KR KG2 HRN
   refine bA (rs := [0, 7]) (AllR.cons rfl (fun K hK => ?_) (AllR.cons rfl (fun K hK => ?_) AllR.nil))
   ·go_simp
    refine hK.out _ _ (fun _ => (Below.refl _ _).alloc (Nat.le_refl _) _) ?_
    clear hK
    have b1 : Below Y1.heap.size Y1 (Y1.alloc (.cells #[] 76)) := (Below.refl _ _).alloc (Nat.le_refl _) _
    have k1 := blk_new Y1 #[] 76 rfl
    generalize Y1.alloc (.cells #[] 76) = W1 at *
    refine bA (rs := [4, 7]) (AllR.cons rfl (fun K hK => ?_) (AllR.cons rfl (fun K hK => ?_) AllR.nil))
    ·refine wp_app_first (.tmp 155) (.tmp 158) rfl Y1.heap.size Y1.heap.size (Nat.le_refl _) k1 b1.size rfl (some ⟨b, off, none⟩) d (l.take k) (by rw [List.length_take, Nat.min_eq_left hkl]; rfl) ((KC2.out.on b1).1.1.1.1.1.1.1.1.2.2.take k) (fun e => by cases e) (by rw [List.length_take]; omega) ?_
     intro v4 X2 hown hb
     refine hK.out _ _ (fun _ => hb) ?_
     clear hK
     dsimp only [Act.put]
     simp only [List.setIfInBounds_toArray, List.set_cons_zero, List.set_cons_succ]
     refine bR 7 rfl fun K hK => ?_
     go_simp
     refine hK.out _ _ (fun _ => (Below.refl _ _).alloc (Nat.le_refl _) _) ?_
     clear hK
     have b3 := (Below.refl _ X2).alloc (Nat.le_refl _) (.cells #[.int .i64 m, .slice r.s.A0 r.s.ri.length r.s.c0, .slice r.s.A1 r.s.bo.length r.s.c1, .slice r.s.A2 r.s.lk.length r.s.c2, .slice r.s.A3 r.s.lo.length r.s.c3, .int .i64 (r.m - m), .slice r.s.A0 r.s.ri.length r.s.c0, .slice r.s.A1 r.s.bo.length r.s.c1, .slice r.s.A2 r.s.lk.length r.s.c2, .slice r.s.A3 r.s.lo.length r.s.c3] 76)
     have h7 := blk_new X2 #[.int .i64 m, .slice r.s.A0 r.s.ri.length r.s.c0, .slice r.s.A1 r.s.bo.length r.s.c1, .slice r.s.A2 r.s.lk.length r.s.c2, .slice r.s.A3 r.s.lo.length r.s.c3, .int .i64 (r.m - m), .slice r.s.A0 r.s.ri.length r.s.c0, .slice r.s.A1 r.s.bo.length r.s.c1, .slice r.s.A2 r.s.lk.length r.s.c2, .slice r.s.A3 r.s.lo.length r.s.c3] 76 rfl
     have hO := hown.later b3
     have hX := (b1.trans (hb.mono b1.size)).trans (b3.mono (Nat.le_trans b1.size hb.size))
     clear b1 k1 hown hb b3
     generalize X2.alloc (.cells #[.int .i64 m, .slice r.s.A0 r.s.ri.length r.s.c0, .slice r.s.A1 r.s.bo.length r.s.c1, .slice r.s.A2 r.s.lk.length r.s.c2, .slice r.s.A3 r.s.lo.length r.s.c3, .int .i64 (r.m - m), .slice r.s.A0 r.s.ri.length r.s.c0, .slice r.s.A1 r.s.bo.length r.s.c1, .slice r.s.A2 r.s.lk.length r.s.c2, .slice r.s.A3 r.s.lo.length r.s.c3] 76) = X3 at *
     generalize X2.heap.size = g7 at *
     have HO := Lib.hid hO
     have H7 := Lib.hid h7
     have HX := Lib.hid hX
     have hle := hX.size
     clear hO h7 hX
     refine bR 8 rfl fun K hK => ?_
     refine wp_app_more (.tmp 159) (.tmp 162) rfl Y1.heap.size hle v4 (l.take k) rfl HO.out (some ⟨g7, 0, none⟩) 2 [⟨m, r.s⟩, ⟨r.m - m, r.s⟩] rfl (rdr_two (show Blk _ _ (cellR ⟨m, r.s⟩ ++ cellR ⟨r.m - m, r.s⟩).toArray 76 from H7.out) (KC2.out.on HX.out).1.1.1.2.wt) (fun e => by cases e) (by rw [List.length_take]; simp; omega) ?_
     intro v8 X4 hown hb
     refine hK.out _ _ (fun h => by cases h) ?_
     clear hK
     have HX4 := Lib.hid (HX.out.trans hb)
     have HO8 := Lib.hid hown
     have hle4 := HX4.out.size
     clear hown hb
     dsimp only [Act.put]
     simp only [List.setIfInBounds_toArray, List.set_cons_zero, List.set_cons_succ]
     refine bR 13 rfl fun K hK => ?_
     refine wp_app_more (.tmp 163) (.tmp 167) rfl Y1.heap.size hle4 v8 _ rfl HO8.out BD2 (d - (k + 1)) (l.drop (k + 1)) (by rw [List.length_drop]; rfl) (KC2.out.on HX4.out).1.2 hbn (by rw [List.length_append, List.length_take, List.length_drop]; simp; omega) ?_
     intro v9 X5 hown2 hb2
     refine hK.out _ _ (fun h => by cases h) ?_
     clear hK
     rw [← HQ.out m] at hown2
     have KE := Lib.hid (KC2.out.on (HX4.out.trans hb2))
     have hw5 : ∀ i, i < (CL m).length → Wet X5 (rAt (CL m) i).s := fun i hi => by
      have hmem := rAt_mem hi
      generalize rAt (CL m) i = ru at hmem ⊢
      rw [HQ.out m] at hmem
      simp only [List.mem_append, List.mem_cons, List.not_mem_nil, or_false] at hmem
      have hl := wet_all (rdr_wet KE.out.1.1.1.1.1.1.1.1.2.2)
      rcases hmem with (h | rfl | rfl) | h
      ·exact hl _ (List.mem_of_mem_take h)
      ·exact KE.out.1.1.1.2.wt
      ·exact KE.out.1.1.1.2.wt
      ·exact hl _ (List.mem_of_mem_drop h)
     obtain ⟨A9, c9, rfl, hr9⟩ := hown2.rd hw5
     have HR9 := Lib.hid hr9
     clear hown2 hb2 hw5 hr9
     rw [HLEN.out m]
     dsimp only [Act.put]
     simp only [List.setIfInBounds_toArray, List.set_cons_zero, List.set_cons_succ]
     refine bF 14 rfl ?_
     refine bD ?_
     have hcm := HM.out m hkl1 hm1 hm3
     have hd9 := Drunk_any A1 c1 ws A9 c9 (CL m) X5 KE.out.1.1.1.1.1.1.1.1.2.1 HR9.out (by rw [HLEN.out m]; omega)
     rw [HLEN.out m, hcm.1, hcm.2, LEN.out.1] at hd9
     have HD9 := Lib.hid hd9
     clear hd9 hcm
     have p0 := cr 0 KE.out.1.1.1.1.1.1.1.1.1.1.2
     go_upto_region 23 with (go_at_call 45; refine HD9.out.mono ?_; rintro e X6 ⟨A10, c10, rfl, hra, -, hb⟩; have KF := Lib.hid ((KE.out.on hb).and (stays_rd hra)); clear hra hb)
     clear p0
     go_wp2_with (first
      | (go_at_call 29; have _t := KS; clear _t; have hs := same_yes A10 A4 c10 c4 L _ KS.out.1.2 KS.out.1.1.1.1.1.1.1.1.2 (by rw [LEN.out.1]; exact hn90); rw [LEN.out.1] at hs; refine hs.mono ?_; rintro e wb ⟨rfl, hb⟩; have KT := Lib.hid (KS.out.on hb); clear hb)
      | (go_at_call 20; refine (sanity_any _).mono ?_; rintro e wa ⟨rfl, hb⟩; have KS := Lib.hid (KF.out.on hb); clear hb))
     go_ret
     exact ⟨rfl, KT.out.1.1.1.1.1.1.1.1.1.1.1.1⟩
    ·go_simp
     refine hK.out _ _ (fun _ => (Below.refl _ _).alloc (Nat.le_refl _) _) ?_
     clear hK
     have b3 := (Below.refl _ W1).alloc (Nat.le_refl _) (.cells #[.int .i64 m, .slice r.s.A0 r.s.ri.length r.s.c0, .slice r.s.A1 r.s.bo.length r.s.c1, .slice r.s.A2 r.s.lk.length r.s.c2, .slice r.s.A3 r.s.lo.length r.s.c3, .int .i64 (r.m - m), .slice r.s.A0 r.s.ri.length r.s.c0, .slice r.s.A1 r.s.bo.length r.s.c1, .slice r.s.A2 r.s.lk.length r.s.c2, .slice r.s.A3 r.s.lo.length r.s.c3] 76)
     have h7' := blk_new W1 #[.int .i64 m, .slice r.s.A0 r.s.ri.length r.s.c0, .slice r.s.A1 r.s.bo.length r.s.c1, .slice r.s.A2 r.s.lk.length r.s.c2, .slice r.s.A3 r.s.lo.length r.s.c3, .int .i64 (r.m - m), .slice r.s.A0 r.s.ri.length r.s.c0, .slice r.s.A1 r.s.bo.length r.s.c1, .slice r.s.A2 r.s.lk.length r.s.c2, .slice r.s.A3 r.s.lo.length r.s.c3] 76 rfl
     have k2 := blk_on k1 b3
     have b2 := b1.trans (b3.mono b1.size)
     clear b1 k1 b3
     generalize W1.alloc (.cells #[.int .i64 m, .slice r.s.A0 r.s.ri.length r.s.c0, .slice r.s.A1 r.s.bo.length r.s.c1, .slice r.s.A2 r.s.lk.length r.s.c2, .slice r.s.A3 r.s.lo.length r.s.c3, .int .i64 (r.m - m), .slice r.s.A0 r.s.ri.length r.s.c0, .slice r.s.A1 r.s.bo.length r.s.c1, .slice r.s.A2 r.s.lk.length r.s.c2, .slice r.s.A3 r.s.lo.length r.s.c3] 76) = W2 at *
     generalize W1.heap.size = g7 at *
     refine bR 4 rfl fun K hK => ?_
     refine wp_app_first (.tmp 155) (.tmp 158) rfl Y1.heap.size Y1.heap.size (Nat.le_refl _) k2 b2.size rfl (some ⟨b, off, none⟩) d (l.take k) (by rw [List.length_take, Nat.min_eq_left hkl]; rfl) ((KC2.out.on b2).1.1.1.1.1.1.1.1.2.2.take k) (fun e => by cases e) (by rw [List.length_take]; omega) ?_
     intro v4 X2 hown hb
     refine hK.out _ _ (fun _ => hb) ?_
     clear hK
     dsimp only [Act.put]
     simp only [List.setIfInBounds_toArray, List.set_cons_zero, List.set_cons_succ]
     have h7 := blk_on h7' hb
     have hO := hown
     have hX := b2.trans (hb.mono b2.size)
     clear b2 k2 hown hb h7'
     have HO := Lib.hid hO
     have H7 := Lib.hid h7
     have HX := Lib.hid hX
     have hle := hX.size
     clear hO h7 hX
     refine bR 8 rfl fun K hK => ?_
     refine wp_app_more (.tmp 159) (.tmp 162) rfl Y1.heap.size hle v4 (l.take k) rfl HO.out (some ⟨g7, 0, none⟩) 2 [⟨m, r.s⟩, ⟨r.m - m, r.s⟩] rfl (rdr_two (show Blk _ _ (cellR ⟨m, r.s⟩ ++ cellR ⟨r.m - m, r.s⟩).toArray 76 from H7.out) (KC2.out.on HX.out).1.1.1.2.wt) (fun e => by cases e) (by rw [List.length_take]; simp; omega) ?_
     intro v8 X4 hown hb
     refine hK.out _ _ (fun h => by cases h) ?_
     clear hK
     have HX4 := Lib.hid (HX.out.trans hb)
     have HO8 := Lib.hid hown
     have hle4 := HX4.out.size
     clear hown hb
     dsimp only [Act.put]
     simp only [List.setIfInBounds_toArray, List.set_cons_zero, List.set_cons_succ]
     refine bR 13 rfl fun K hK => ?_
     refine wp_app_more (.tmp 163) (.tmp 167) rfl Y1.heap.size hle4 v8 _ rfl HO8.out BD2 (d - (k + 1)) (l.drop (k + 1)) (by rw [List.length_drop]; rfl) (KC2.out.on HX4.out).1.2 hbn (by rw [List.length_append, List.length_take, List.length_drop]; simp; omega) ?_
     intro v9 X5 hown2 hb2
     refine hK.out _ _ (fun h => by cases h) ?_
     clear hK
     rw [← HQ.out m] at hown2
     have KE := Lib.hid (KC2.out.on (HX4.out.trans hb2))
     have hw5 : ∀ i, i < (CL m).length → Wet X5 (rAt (CL m) i).s := fun i hi => by
      have hmem := rAt_mem hi
      generalize rAt (CL m) i = ru at hmem ⊢
      rw [HQ.out m] at hmem
      simp only [List.mem_append, List.mem_cons, List.not_mem_nil, or_false] at hmem
      have hl := wet_all (rdr_wet KE.out.1.1.1.1.1.1.1.1.2.2)
      rcases hmem with (h | rfl | rfl) | h
      ·exact hl _ (List.mem_of_mem_take h)
      ·exact KE.out.1.1.1.2.wt
      ·exact KE.out.1.1.1.2.wt
      ·exact hl _ (List.mem_of_mem_drop h)
     obtain ⟨A9, c9, rfl, hr9⟩ := hown2.rd hw5
     have HR9 := Lib.hid hr9
     clear hown2 hb2 hw5 hr9
     rw [HLEN.out m]
     dsimp only [Act.put]
     simp only [List.setIfInBounds_toArray, List.set_cons_zero, List.set_cons_succ]
     refine bF 14 rfl ?_
     refine bD ?_
     have hcm := HM.out m hkl1 hm1 hm3
     have hd9 := Drunk_any A1 c1 ws A9 c9 (CL m) X5 KE.out.1.1.1.1.1.1.1.1.2.1 HR9.out (by rw [HLEN.out m]; omega)
     rw [HLEN.out m, hcm.1, hcm.2, LEN.out.1] at hd9
     have HD9 := Lib.hid hd9
     clear hd9 hcm
     have p0 := cr 0 KE.out.1.1.1.1.1.1.1.1.1.1.2
     go_upto_region 23 with (go_at_call 45; refine HD9.out.mono ?_; rintro e X6 ⟨A10, c10, rfl, hra, -, hb⟩; have KF := Lib.hid ((KE.out.on hb).and (stays_rd hra)); clear hra hb)
     clear p0
     go_wp2_with (first
      | (go_at_call 29; have _t := KS; clear _t; have hs := same_yes A10 A4 c10 c4 L _ KS.out.1.2 KS.out.1.1.1.1.1.1.1.1.2 (by rw [LEN.out.1]; exact hn90); rw [LEN.out.1] at hs; refine hs.mono ?_; rintro e wb ⟨rfl, hb⟩; have KT := Lib.hid (KS.out.on hb); clear hb)
      | (go_at_call 20; refine (sanity_any _).mono ?_; rintro e wa ⟨rfl, hb⟩; have KS := Lib.hid (KF.out.on hb); clear hb))
     go_ret
     exact ⟨rfl, KT.out.1.1.1.1.1.1.1.1.1.1.1.1⟩
   ·go_simp
    refine hK.out _ _ (fun _ => (Below.refl _ _).alloc (Nat.le_refl _) _) ?_
    clear hK
    have b1 := (Below.refl _ Y1).alloc (Nat.le_refl _) (.cells #[.int .i64 m, .slice r.s.A0 r.s.ri.length r.s.c0, .slice r.s.A1 r.s.bo.length r.s.c1, .slice r.s.A2 r.s.lk.length r.s.c2, .slice r.s.A3 r.s.lo.length r.s.c3, .int .i64 (r.m - m), .slice r.s.A0 r.s.ri.length r.s.c0, .slice r.s.A1 r.s.bo.length r.s.c1, .slice r.s.A2 r.s.lk.length r.s.c2, .slice r.s.A3 r.s.lo.length r.s.c3] 76)
    have k7 := blk_new Y1 #[.int .i64 m, .slice r.s.A0 r.s.ri.length r.s.c0, .slice r.s.A1 r.s.bo.length r.s.c1, .slice r.s.A2 r.s.lk.length r.s.c2, .slice r.s.A3 r.s.lo.length r.s.c3, .int .i64 (r.m - m), .slice r.s.A0 r.s.ri.length r.s.c0, .slice r.s.A1 r.s.bo.length r.s.c1, .slice r.s.A2 r.s.lk.length r.s.c2, .slice r.s.A3 r.s.lo.length r.s.c3] 76 rfl
    generalize Y1.alloc (.cells #[.int .i64 m, .slice r.s.A0 r.s.ri.length r.s.c0, .slice r.s.A1 r.s.bo.length r.s.c1, .slice r.s.A2 r.s.lk.length r.s.c2, .slice r.s.A3 r.s.lo.length r.s.c3, .int .i64 (r.m - m), .slice r.s.A0 r.s.ri.length r.s.c0, .slice r.s.A1 r.s.bo.length r.s.c1, .slice r.s.A2 r.s.lk.length r.s.c2, .slice r.s.A3 r.s.lo.length r.s.c3] 76) = W1 at *
    obtain ⟨g7, hg7⟩ : ∃ g7, Y1.heap.size = g7 := ⟨_, rfl⟩
    rw [hg7] at k7
    refine bR 0 rfl fun K hK => ?_
    go_simp
    refine hK.out _ _ (fun _ => (Below.refl _ _).alloc (Nat.le_refl _) _) ?_
    clear hK
    have b3 : Below W1.heap.size W1 (W1.alloc (.cells #[] 76)) := (Below.refl _ _).alloc (Nat.le_refl _) _
    have k2 := blk_new W1 #[] 76 rfl
    have h7' := blk_on k7 b3
    have b2 := b1.trans (b3.mono b1.size)
    have hg0 := b1.size
    clear b1 k7 b3
    generalize W1.alloc (.cells #[] 76) = W2 at *
    refine bR 4 rfl fun K hK => ?_
    refine wp_app_first (.tmp 155) (.tmp 158) rfl Y1.heap.size W1.heap.size hg0 k2 b2.size rfl (some ⟨b, off, none⟩) d (l.take k) (by rw [List.length_take, Nat.min_eq_left hkl]; rfl) ((KC2.out.on b2).1.1.1.1.1.1.1.1.2.2.take k) (fun e => by cases e) (by rw [List.length_take]; omega) ?_
    intro v4 X2 hown hb
    refine hK.out _ _ (fun _ => hb) ?_
    clear hK
    dsimp only [Act.put]
    simp only [List.setIfInBounds_toArray, List.set_cons_zero, List.set_cons_succ]
    have h7 := blk_on h7' hb
    have hO := hown
    have hX := b2.trans (hb.mono b2.size)
    clear b2 k2 hown hb h7'
    have HO := Lib.hid hO
    have H7 := Lib.hid h7
    have HX := Lib.hid hX
    have hle := hX.size
    clear hO h7 hX
    refine bR 8 rfl fun K hK => ?_
    refine wp_app_more (.tmp 159) (.tmp 162) rfl Y1.heap.size hle v4 (l.take k) rfl HO.out (some ⟨g7, 0, none⟩) 2 [⟨m, r.s⟩, ⟨r.m - m, r.s⟩] rfl (rdr_two (show Blk _ _ (cellR ⟨m, r.s⟩ ++ cellR ⟨r.m - m, r.s⟩).toArray 76 from H7.out) (KC2.out.on HX.out).1.1.1.2.wt) (fun e => by cases e) (by rw [List.length_take]; simp; omega) ?_
    intro v8 X4 hown hb
    refine hK.out _ _ (fun h => by cases h) ?_
    clear hK
    have HX4 := Lib.hid (HX.out.trans hb)
    have HO8 := Lib.hid hown
    have hle4 := HX4.out.size
    clear hown hb
    dsimp only [Act.put]
    simp only [List.setIfInBounds_toArray, List.set_cons_zero, List.set_cons_succ]
    refine bR 13 rfl fun K hK => ?_
    refine wp_app_more (.tmp 163) (.tmp 167) rfl Y1.heap.size hle4 v8 _ rfl HO8.out BD2 (d - (k + 1)) (l.drop (k + 1)) (by rw [List.length_drop]; rfl) (KC2.out.on HX4.out).1.2 hbn (by rw [List.length_append, List.length_take, List.length_drop]; simp; omega) ?_
    intro v9 X5 hown2 hb2
    refine hK.out _ _ (fun h => by cases h) ?_
    clear hK
    rw [← HQ.out m] at hown2
    have KE := Lib.hid (KC2.out.on (HX4.out.trans hb2))
    have hw5 : ∀ i, i < (CL m).length → Wet X5 (rAt (CL m) i).s := fun i hi => by
     have hmem := rAt_mem hi
     generalize rAt (CL m) i = ru at hmem ⊢
     rw [HQ.out m] at hmem
     simp only [List.mem_append, List.mem_cons, List.not_mem_nil, or_false] at hmem
     have hl := wet_all (rdr_wet KE.out.1.1.1.1.1.1.1.1.2.2)
     rcases hmem with (h | rfl | rfl) | h
     ·exact hl _ (List.mem_of_mem_take h)
     ·exact KE.out.1.1.1.2.wt
     ·exact KE.out.1.1.1.2.wt
     ·exact hl _ (List.mem_of_mem_drop h)
    obtain ⟨A9, c9, rfl, hr9⟩ := hown2.rd hw5
    have HR9 := Lib.hid hr9
    clear hown2 hb2 hw5 hr9
    rw [HLEN.out m]
    dsimp only [Act.put]
    simp only [List.setIfInBounds_toArray, List.set_cons_zero, List.set_cons_succ]
    refine bF 14 rfl ?_
    refine bD ?_
    have hcm := HM.out m hkl1 hm1 hm3
    have hd9 := Drunk_any A1 c1 ws A9 c9 (CL m) X5 KE.out.1.1.1.1.1.1.1.1.2.1 HR9.out (by rw [HLEN.out m]; omega)
    rw [HLEN.out m, hcm.1, hcm.2, LEN.out.1] at hd9
    have HD9 := Lib.hid hd9
    clear hd9 hcm
    have p0 := cr 0 KE.out.1.1.1.1.1.1.1.1.1.1.2
    go_upto_region 23 with (go_at_call 45; refine HD9.out.mono ?_; rintro e X6 ⟨A10, c10, rfl, hra, -, hb⟩; have KF := Lib.hid ((KE.out.on hb).and (stays_rd hra)); clear hra hb)
    clear p0
    go_wp2_with (first
     | (go_at_call 29; have _t := KS; clear _t; have hs := same_yes A10 A4 c10 c4 L _ KS.out.1.2 KS.out.1.1.1.1.1.1.1.1.2 (by rw [LEN.out.1]; exact hn90); rw [LEN.out.1] at hs; refine hs.mono ?_; rintro e wb ⟨rfl, hb⟩; have KT := Lib.hid (KS.out.on hb); clear hb)
     | (go_at_call 20; refine (sanity_any _).mono ?_; rintro e wa ⟨rfl, hb⟩; have KS := Lib.hid (KF.out.on hb); clear hb))
    go_ret
    exact ⟨rfl, KT.out.1.1.1.1.1.1.1.1.1.1.1.1⟩
end Go.Proofs.Ytdadoelajhemjaa
