/- Walks: the specification's CheckEnds. -/
import Derived.Test.YtdadoelajhemjaaG3
import Derived.Test.YtdadoelajhemjaaC8
import Derived.Test.YtdadoelajhemjaaH4
namespace Go.Proofs.Ytdadoelajhemjaa
open Go.RowKit Go.Shelf

set_option maxRecDepth 100000 in
set_option maxHeartbeats 3200000 in
theorem rCheckEnds_any (A : Option Addr) (c : Nat) (ws : List Car) (cs : Cs) (id : Int) (f : Sp) (s t : Wt) (w : World) (hW : Wk w A ws) (hc : Csd w cs) (hs : Wet w s) (ht : Wet w t) :
  Calls Try.prog 61 #[.agg #[.slice A ws.length c], cs.v, .int .i64 id, supV f s t] w fun e w' => e = .returned (.int .i64 (chkE ws cs id f s t)) ∧ Below w.heap.size w w' := by
 obtain ⟨A0, A1, c0, c1, ri, bo⟩ := cs
 obtain ⟨lo, hi⟩ := f
 show Calls _ _ #[.agg #[.slice A ws.length c], .agg #[.slice A0 ri.length c0, .slice A1 bo.length c1], .int .i64 id, .agg #[.int .i64 lo, .int .i64 hi, .slice s.A0 s.ri.length s.c0, .slice s.A1 s.bo.length s.c1, .slice s.A2 s.lk.length s.c2, .slice s.A3 s.lo.length s.c3, .slice t.A0 t.ri.length t.c0, .slice t.A1 t.bo.length t.c1, .slice t.A2 t.lk.length t.c2, .slice t.A3 t.lo.length t.c3]] _ _
 have hb : Below w.heap.size w (((w.alloc (.cells #[.slice A ws.length c] 24)).alloc (.cells #[.slice A0 ri.length c0, .slice A1 bo.length c1] 51)).alloc (.cells #[.int .i64 lo, .int .i64 hi, .slice s.A0 s.ri.length s.c0, .slice s.A1 s.bo.length s.c1, .slice s.A2 s.lk.length s.c2, .slice s.A3 s.lo.length s.c3, .slice t.A0 t.ri.length t.c0, .slice t.A1 t.bo.length t.c1, .slice t.A2 t.lk.length t.c2, .slice t.A3 t.lo.length t.c3] 91)) := (((Below.refl _ w).alloc (Nat.le_refl _) _).alloc (by simp) _).alloc (by simp; omega) _
 have KQ := Lib.hid ((((((stays_bl hb).and (stays_blk (g := w.heap.size) (W := (((w.alloc (.cells #[.slice A ws.length c] 24)).alloc (.cells #[.slice A0 ri.length c0, .slice A1 bo.length c1] 51)).alloc (.cells #[.int .i64 lo, .int .i64 hi, .slice s.A0 s.ri.length s.c0, .slice s.A1 s.bo.length s.c1, .slice s.A2 s.lk.length s.c2, .slice s.A3 s.lo.length s.c3, .slice t.A0 t.ri.length t.c0, .slice t.A1 t.bo.length t.c1, .slice t.A2 t.lk.length t.c2, .slice t.A3 t.lo.length t.c3] 91))) (blk_alloc (blk_alloc (blk_new w #[.slice A ws.length c] 24 rfl) _) _))).and (stays_blk (g := w.heap.size + 1) (W := (((w.alloc (.cells #[.slice A ws.length c] 24)).alloc (.cells #[.slice A0 ri.length c0, .slice A1 bo.length c1] 51)).alloc (.cells #[.int .i64 lo, .int .i64 hi, .slice s.A0 s.ri.length s.c0, .slice s.A1 s.bo.length s.c1, .slice s.A2 s.lk.length s.c2, .slice s.A3 s.lo.length s.c3, .slice t.A0 t.ri.length t.c0, .slice t.A1 t.bo.length t.c1, .slice t.A2 t.lk.length t.c2, .slice t.A3 t.lo.length t.c3] 91))) (blk_alloc (blk_new _ #[.slice A0 ri.length c0, .slice A1 bo.length c1] 51 (by simp)) _))).and (stays_blk (g := w.heap.size + 1 + 1) (W := (((w.alloc (.cells #[.slice A ws.length c] 24)).alloc (.cells #[.slice A0 ri.length c0, .slice A1 bo.length c1] 51)).alloc (.cells #[.int .i64 lo, .int .i64 hi, .slice s.A0 s.ri.length s.c0, .slice s.A1 s.bo.length s.c1, .slice s.A2 s.lk.length s.c2, .slice s.A3 s.lo.length s.c3, .slice t.A0 t.ri.length t.c0, .slice t.A1 t.bo.length t.c1, .slice t.A2 t.lk.length t.c2, .slice t.A3 t.lo.length t.c3] 91))) (blk_new ((w.alloc (.cells #[.slice A ws.length c] 24)).alloc (.cells #[.slice A0 ri.length c0, .slice A1 bo.length c1] 51)) #[.int .i64 lo, .int .i64 hi, .slice s.A0 s.ri.length s.c0, .slice s.A1 s.bo.length s.c1, .slice s.A2 s.lk.length s.c2, .slice s.A3 s.lo.length s.c3, .slice t.A0 t.ri.length t.c0, .slice t.A1 t.bo.length t.c1, .slice t.A2 t.lk.length t.c2, .slice t.A3 t.lo.length t.c3] 91 (by simp)))).and ((stays_wk (hW.ext hb)).and ((stays_csd (hc.ext hb)).and ((stays_wet (hs.ext hb)).and (stays_wet (ht.ext hb)))))))
 clear hb hW hc hs ht
 have HC := Lib.hid (fun W hW hs => rCasedAt_any A c ws ⟨A0, A1, c0, c1, ri, bo⟩ id W hW hs)
 obtain ⟨R, hR⟩ : ∃ R, chkE ws ⟨A0, A1, c0, c1, ri, bo⟩ id (lo, hi) s t = R := ⟨_, rfl⟩
 rw [hR]
 have HR := Lib.hid ((show (if askE ws ⟨A0, A1, c0, c1, ri, bo⟩ id = 0 then (match idxO ws id with | some x => if (decide (endsF ws ⟨A0, A1, c0, c1, ri, bo⟩ x = (lo, hi)) && ((decide (waterE ws s = 0) && fitsB ⟨A0, A1, c0, c1, ri, bo⟩ s && decide (flowF ws s x = lo)) && (decide (waterE ws t = 0) && fitsB ⟨A0, A1, c0, c1, ri, bo⟩ t && decide (flowF ws t x = hi)))) = true then 0 else 8 | none => 0) else askE ws ⟨A0, A1, c0, c1, ri, bo⟩ id) = R from hR))
 have hd2 : casI ws ⟨A0, A1, c0, c1, ri, bo⟩ id = if askE ws ⟨A0, A1, c0, c1, ri, bo⟩ id = 0 then idxI (idxO ws id) else 0 := rfl
 clear hR
 go_enter Try.func61, Try.ntmps61
 go_upto_region 1 with fail
 generalize (((w.alloc (.cells #[.slice A ws.length c] 24)).alloc (.cells #[.slice A0 ri.length c0, .slice A1 bo.length c1] 51)).alloc (.cells #[.int .i64 lo, .int .i64 hi, .slice s.A0 s.ri.length s.c0, .slice s.A1 s.bo.length s.c1, .slice s.A2 s.lk.length s.c2, .slice s.A3 s.lo.length s.c3, .slice t.A0 t.ri.length t.c0, .slice t.A1 t.bo.length t.c1, .slice t.A2 t.lk.length t.c2, .slice t.A3 t.lo.length t.c3] 91)) = W0 at *
 have p0 := cr 0 KQ.out.1.1.1.1.2
 have p1 := cr 0 KQ.out.1.1.1.2
 have p2 := cr 1 KQ.out.1.1.1.2
 by_cases h0 : askE ws ⟨A0, A1, c0, c1, ri, bo⟩ id = 0
 rotate_left
 ·rw [if_neg h0] at hd2 HR
  rw [hd2] at HC
  generalize askE ws ⟨A0, A1, c0, c1, ri, bo⟩ id = E at *
  have hz : (E != 0) = true := by simpa using h0
  obtain rfl := HR.out
  clear h0 hd2 HR
  go_wp2_with (go_at_call 89; refine (HC.out _ KQ.out.1.2.1 KQ.out.1.2.2.1).mono ?_; rintro e w1 ⟨rfl, hb⟩; have K1 := Lib.hid (KQ.out.on hb); clear hb)
  go_wp2
  go_ret
  exact ⟨rfl, K1.out.1.1.1.1.1⟩
 obtain ⟨g, k, x, hx, hxl, -⟩ := ask_zero h0
 rw [if_pos h0, hx] at hd2 HR
 dsimp only at HR
 rw [hd2, h0, show idxI (some x) = (x : Int) from rfl] at HC
 have HX := hd3 g k hxl
 have hxz : (x : Int) < ((outs ws).length : Int) := by omega
 clear hd2 h0 hx g k hxl
 go_upto_region 4 with (go_at_call 89; refine (HC.out _ KQ.out.1.2.1 KQ.out.1.2.2.1).mono ?_; rintro e w1 ⟨rfl, hb⟩; have K1 := Lib.hid (KQ.out.on hb); clear hb)
 clear p0 p1 p2
 refine wp_region_R (fun _ => true) ?_
 have K2 := Lib.hid (K1.out.on ((Below.refl w1.heap.size w1).drew))
 generalize w1.drew = X0 at *
 have p0 := cr 0 K2.out.1.1.1.1.2
 have p1 := cr 0 K2.out.1.1.1.2
 have p2 := cr 1 K2.out.1.1.1.2
 have x0 := cr 0 K2.out.1.1.2
 have x1 := cr 1 K2.out.1.1.2
 have a0 := cr 2 K2.out.1.1.2
 have a1 := cr 3 K2.out.1.1.2
 have a2 := cr 4 K2.out.1.1.2
 have a3 := cr 5 K2.out.1.1.2
 have b0 := cr 6 K2.out.1.1.2
 have b1 := cr 7 K2.out.1.1.2
 have b2 := cr 8 K2.out.1.1.2
 have b3 := cr 9 K2.out.1.1.2
 refine bT p0 0 rfl ?_
 refine bF 1 rfl ?_
 refine bW a0 a1 a2 a3 2 rfl ?_
 refine bR 3 rfl fun K hK => ?_
 clear p0 p1 p2 x0 x1 a0 a1 a2 a3 b0 b1 b2 b3
 go_simp
 refine (rWater_any A c ws s X0 K2.out.1.2.1 K2.out.1.2.2.2.1).mono ?_
 rintro e X1 ⟨rfl, hb⟩
 dsimp only
 refine hK.out _ _ (fun _ => hb) ?_
 have K3 := Lib.hid (K2.out.on hb)
 clear hK hb
 by_cases hs0 : waterE ws s = 0
 rotate_left
 ·have hz : (waterE ws s != 0) = true := by simpa using hs0
  obtain rfl : 8 = R := by rw [← HR.out, decide_eq_false hs0, Bool.false_and, Bool.false_and, Bool.false_and, Bool.and_false]; rfl
  clear hs0 HR
  refine bF 4 rfl ?_
  refine bF 5 rfl ?_
  refine bS 6 rfl ?_
  refine bS 7 rfl ?_
  refine bS 8 rfl ?_
  refine bS 9 rfl ?_
  refine bS 10 rfl ?_
  refine bF 11 rfl ?_
  refine bF 12 rfl ?_
  refine bS 13 rfl ?_
  refine bS 14 rfl ?_
  refine bS 15 rfl ?_
  refine bS 16 rfl ?_
  refine bS 17 rfl ?_
  refine bS 18 rfl ?_
  refine bS 19 rfl ?_
  refine bS 20 rfl ?_
  refine bF 21 rfl ?_
  refine bD ?_
  go_wp2
  go_ret
  exact ⟨rfl, K3.out.1.1.1.1.1⟩
 rw [hs0]
 rw [decide_eq_true hs0, Bool.true_and] at HR
 have p0 := cr 0 K3.out.1.1.1.1.2
 have p1 := cr 0 K3.out.1.1.1.2
 have p2 := cr 1 K3.out.1.1.1.2
 have x0 := cr 0 K3.out.1.1.2
 have x1 := cr 1 K3.out.1.1.2
 have a0 := cr 2 K3.out.1.1.2
 have a1 := cr 3 K3.out.1.1.2
 have a2 := cr 4 K3.out.1.1.2
 have a3 := cr 5 K3.out.1.1.2
 have b0 := cr 6 K3.out.1.1.2
 have b1 := cr 7 K3.out.1.1.2
 have b2 := cr 8 K3.out.1.1.2
 have b3 := cr 9 K3.out.1.1.2
 refine bF 4 rfl ?_
 refine bF 5 rfl ?_
 refine bT p0 6 rfl ?_
 refine bF 7 rfl ?_
 refine bW b0 b1 b2 b3 8 rfl ?_
 refine bR 9 rfl fun K hK => ?_
 clear p0 p1 p2 x0 x1 a0 a1 a2 a3 b0 b1 b2 b3
 go_simp
 refine (rWater_any A c ws t X1 K3.out.1.2.1 K3.out.1.2.2.2.2).mono ?_
 rintro e X2 ⟨rfl, hb⟩
 dsimp only
 refine hK.out _ _ (fun _ => hb) ?_
 have K4 := Lib.hid (K3.out.on hb)
 clear hK hb
 by_cases ht0 : waterE ws t = 0
 rotate_left
 ·have hz : (waterE ws t != 0) = true := by simpa using ht0
  obtain rfl : 8 = R := by rw [← HR.out, decide_eq_false ht0, Bool.false_and, Bool.false_and, Bool.and_false, Bool.and_false]; rfl
  clear hs0 ht0 HR
  refine bF 10 rfl ?_
  refine bF 11 rfl ?_
  refine bF 12 rfl ?_
  refine bS 13 rfl ?_
  refine bS 14 rfl ?_
  refine bS 15 rfl ?_
  refine bS 16 rfl ?_
  refine bS 17 rfl ?_
  refine bS 18 rfl ?_
  refine bS 19 rfl ?_
  refine bS 20 rfl ?_
  refine bF 21 rfl ?_
  refine bD ?_
  go_wp2
  go_ret
  exact ⟨rfl, K4.out.1.1.1.1.1⟩
 rw [ht0]
 rw [decide_eq_true ht0, Bool.true_and] at HR
 have ok := ok_of_water hs0
 have ok2 := ok_of_water ht0
 have k := HX.out.2.1
 have HO := hd2 ok ok2
 have HL : Hid (s.ri.length = ri.length ∧ s.bo.length = bo.length ∧ t.ri.length = ri.length ∧ t.bo.length = bo.length) := Lib.hid ⟨ok.l0.trans k.l0.symm, ok.l1.trans k.l1.symm, ok2.l0.trans k.l0.symm, ok2.l1.trans k.l1.symm⟩
 have hfs := field_sup
 have hU := rEnds_any A c ws ⟨A0, A1, c0, c1, ri, bo⟩ x HX.out.2.2 X2 K4.out.1.2.1 HX.out.1 K4.out.1.2.2.1 HX.out.2.1
 obtain ⟨el, eh, hlh⟩ : ∃ lo hi : Int, endsF ws ⟨A0, A1, c0, c1, ri, bo⟩ x = (lo, hi) := ⟨_, _, rfl⟩
 rw [hlh] at hU HR
 have HU := Lib.hid hU
 clear hU hs0 ht0 ok ok2 k hlh
 have p0 := cr 0 K4.out.1.1.1.1.2
 have p1 := cr 0 K4.out.1.1.1.2
 have p2 := cr 1 K4.out.1.1.1.2
 have x0 := cr 0 K4.out.1.1.2
 have x1 := cr 1 K4.out.1.1.2
 have a0 := cr 2 K4.out.1.1.2
 have a1 := cr 3 K4.out.1.1.2
 have a2 := cr 4 K4.out.1.1.2
 have a3 := cr 5 K4.out.1.1.2
 have b0 := cr 6 K4.out.1.1.2
 have b1 := cr 7 K4.out.1.1.2
 have b2 := cr 8 K4.out.1.1.2
 have b3 := cr 9 K4.out.1.1.2
 refine bF 10 rfl ?_
 refine bF 11 rfl ?_
 refine bF 12 rfl ?_
 refine bF 13 rfl ?_
 refine bP x0 x1 14 rfl ?_
 refine bT p0 15 rfl ?_
 refine bP p1 p2 16 rfl ?_
 refine bF 17 rfl ?_
 refine bR 18 rfl fun K hK => ?_
 clear p0 p1 p2 x0 x1 a0 a1 a2 a3 b0 b1 b2 b3
 go_simp
 refine (HU.out).mono ?_
 rintro e X3 ⟨s', t', rfl, -, -, -, -, -, -, hb⟩
 dsimp only
 refine hK.out _ _ (fun _ => hb) ?_
 have K5 := Lib.hid (K4.out.on hb)
 clear hK hb
 by_cases hE : (el, eh) = (lo, hi)
 rotate_left
 ·obtain rfl : 8 = R := by rw [← HR.out, decide_eq_false hE, Bool.false_and]; rfl
  rcases sp_split hE with h1 | ⟨rfl, h2⟩
  ·have h1' : ¬ lo = el := fun e => h1 e.symm
   clear HR HU hE
   refine bF 19 rfl ?_
   refine bF 20 rfl ?_
   refine bF 21 rfl ?_
   refine bD ?_
   go_wp2
   go_ret
   exact ⟨rfl, K5.out.1.1.1.1.1⟩
  ·have h2' : ¬ hi = eh := fun e => h2 e.symm
   clear HR HU hE
   refine bF 19 rfl ?_
   refine bF 20 rfl ?_
   refine bF 21 rfl ?_
   refine bD ?_
   go_wp2
   go_ret
   exact ⟨rfl, K5.out.1.1.1.1.1⟩
 rw [decide_eq_true hE, Bool.true_and] at HR
 have e1 := (Prod.mk.inj hE).1.symm
 have e2 := (Prod.mk.inj hE).2.symm
 clear hE HU
 subst e1 e2
 refine bF 19 rfl ?_
 refine bF 20 rfl ?_
 refine bF 21 rfl ?_
 refine bD ?_
 clear hfs
 have p0 := cr 0 K5.out.1.1.1.1.2
 have p1 := cr 0 K5.out.1.1.1.2
 have p2 := cr 1 K5.out.1.1.1.2
 have x0 := cr 0 K5.out.1.1.2
 have x1 := cr 1 K5.out.1.1.2
 have a0 := cr 2 K5.out.1.1.2
 have a1 := cr 3 K5.out.1.1.2
 have a2 := cr 4 K5.out.1.1.2
 have a3 := cr 5 K5.out.1.1.2
 have b0 := cr 6 K5.out.1.1.2
 have b1 := cr 7 K5.out.1.1.2
 have b2 := cr 8 K5.out.1.1.2
 have b3 := cr 9 K5.out.1.1.2
 go_upto_region 8 with first
  | (have _t := K6; clear _t; go_at_call 107; refine (rFits0_any ⟨A0, A1, c0, c1, ri, bo⟩ t _ K6.out.1.2.2.1 K6.out.1.2.2.2.2 HL.out.2.2.1 HL.out.2.2.2).mono ?_; rintro e X5 ⟨rfl, hb⟩; have K7 := Lib.hid (K6.out.on hb); clear hb)
  | (go_at_call 107; refine (rFits0_any ⟨A0, A1, c0, c1, ri, bo⟩ s _ K5.out.1.2.2.1 K5.out.1.2.2.2.1 HL.out.1 HL.out.2.1).mono ?_; rintro e X4 ⟨rfl, hb⟩; have K6 := Lib.hid (K5.out.on hb); clear hb p0 p1 p2 x0 x1 a0 a1 a2 a3 b0 b1 b2 b3; have p1 := cr 0 K6.out.1.1.1.2; have p2 := cr 1 K6.out.1.1.1.2; have b0 := cr 6 K6.out.1.1.2; have b1 := cr 7 K6.out.1.1.2; have b2 := cr 8 K6.out.1.1.2; have b3 := cr 9 K6.out.1.1.2)
 clear p1 p2 b0 b1 b2 b3
 refine wp_region_R (fun _ => true) ?_
 have K8 := Lib.hid (K7.out.on ((Below.refl X5.heap.size X5).drew))
 generalize X5.drew = X6 at *
 generalize fitsB ⟨A0, A1, c0, c1, ri, bo⟩ s = f1 at *
 generalize fitsB ⟨A0, A1, c0, c1, ri, bo⟩ t = f2 at *
 cases f1
 ·obtain rfl : 8 = R := by rw [← HR.out, Bool.false_and, Bool.false_and]; rfl
  clear HR
  refine bF 0 rfl ?_
  refine bF 1 rfl ?_
  refine bF 2 rfl ?_
  refine bS 3 rfl ?_
  refine bS 4 rfl ?_
  refine bF 5 rfl ?_
  refine bF 6 rfl ?_
  refine bS 7 rfl ?_
  refine bS 8 rfl ?_
  refine bS 9 rfl ?_
  refine bS 10 rfl ?_
  refine bS 11 rfl ?_
  refine bS 12 rfl ?_
  refine bS 13 rfl ?_
  refine bS 14 rfl ?_
  refine bS 15 rfl ?_
  refine bS 16 rfl ?_
  refine bS 17 rfl ?_
  refine bS 18 rfl ?_
  refine bF 19 rfl ?_
  refine bF 20 rfl ?_
  refine bS 21 rfl ?_
  refine bS 22 rfl ?_
  refine bS 23 rfl ?_
  refine bS 24 rfl ?_
  refine bS 25 rfl ?_
  refine bS 26 rfl ?_
  refine bS 27 rfl ?_
  refine bS 28 rfl ?_
  refine bS 29 rfl ?_
  refine bS 30 rfl ?_
  refine bS 31 rfl ?_
  refine bS 32 rfl ?_
  refine bF 33 rfl ?_
  refine bD ?_
  go_wp2
  go_ret
  exact ⟨rfl, K8.out.1.1.1.1.1⟩
 cases f2
 ·obtain rfl : 8 = R := by rw [← HR.out, Bool.false_and, Bool.and_false]; rfl
  clear HR
  refine bF 0 rfl ?_
  refine bF 1 rfl ?_
  refine bF 2 rfl ?_
  refine bF 3 rfl ?_
  refine bF 4 rfl ?_
  refine bF 5 rfl ?_
  refine bF 6 rfl ?_
  refine bS 7 rfl ?_
  refine bS 8 rfl ?_
  refine bS 9 rfl ?_
  refine bS 10 rfl ?_
  refine bS 11 rfl ?_
  refine bS 12 rfl ?_
  refine bS 13 rfl ?_
  refine bS 14 rfl ?_
  refine bS 15 rfl ?_
  refine bS 16 rfl ?_
  refine bS 17 rfl ?_
  refine bS 18 rfl ?_
  refine bF 19 rfl ?_
  refine bF 20 rfl ?_
  refine bS 21 rfl ?_
  refine bS 22 rfl ?_
  refine bS 23 rfl ?_
  refine bS 24 rfl ?_
  refine bS 25 rfl ?_
  refine bS 26 rfl ?_
  refine bS 27 rfl ?_
  refine bS 28 rfl ?_
  refine bS 29 rfl ?_
  refine bS 30 rfl ?_
  refine bS 31 rfl ?_
  refine bS 32 rfl ?_
  refine bF 33 rfl ?_
  refine bD ?_
  go_wp2
  go_ret
  exact ⟨rfl, K8.out.1.1.1.1.1⟩
 rw [Bool.true_and, Bool.true_and] at HR
 have qf := field_fl
 have p0 := cr 0 K8.out.1.1.1.1.2
 have p1 := cr 0 K8.out.1.1.1.2
 have p2 := cr 1 K8.out.1.1.1.2
 have x0 := cr 0 K8.out.1.1.2
 have x1 := cr 1 K8.out.1.1.2
 have a0 := cr 2 K8.out.1.1.2
 have a1 := cr 3 K8.out.1.1.2
 have a2 := cr 4 K8.out.1.1.2
 have a3 := cr 5 K8.out.1.1.2
 have b0 := cr 6 K8.out.1.1.2
 have b1 := cr 7 K8.out.1.1.2
 have b2 := cr 8 K8.out.1.1.2
 have b3 := cr 9 K8.out.1.1.2
 refine bF 0 rfl ?_
 refine bF 1 rfl ?_
 refine bF 2 rfl ?_
 refine bF 3 rfl ?_
 refine bF 4 rfl ?_
 refine bF 5 rfl ?_
 refine bF 6 rfl ?_
 refine bT p0 7 rfl ?_
 refine bF 8 rfl ?_
 refine bW a0 a1 a2 a3 9 rfl ?_
 refine bF 12 rfl ?_
 refine bF 15 rfl ?_
 refine bF 16 rfl ?_
 refine bT x0 17 rfl ?_
 refine bR 10 rfl fun K hK => ?_
 clear p0 p1 p2 x0 x1 a0 a1 a2 a3 b0 b1 b2 b3
 go_simp
 refine (rFlow_any A c ws s X6 K8.out.1.2.1 K8.out.1.2.2.2.1 HX.out.1 HO.out.1).mono ?_
 rintro e X7 ⟨A5, c5, A6, c6, rfl, r5, -, -, -, hb⟩
 dsimp only
 refine hK.out _ _ (fun _ => hb) ?_
 have K9 := Lib.hid (K8.out.on hb)
 clear hK hb
 obtain ⟨b5, o5, rfl, -, hc5⟩ := r5 (by rw [FLto_length]; omega)
 have z1 := hc5 x (by rw [FLto_length]; exact HX.out.2.2)
 rw [FLto_at HX.out.2.2] at z1
 clear hc5 r5
 generalize LOto ws s (outs ws).length = LS at *
 generalize flowF ws s x = fl at *
 by_cases q1 : fl = lo
 rotate_left
 ·have hz1 : (fl != lo) = true := by simpa using q1
  obtain rfl : 8 = R := by rw [← HR.out, decide_eq_false q1, Bool.false_and]; rfl
  clear HR q1
  refine bF 11 rfl ?_
  refine bF 13 rfl ?_
  refine bT z1 14 rfl ?_
  refine bF 18 rfl ?_
  refine bF 19 rfl ?_
  refine bF 20 rfl ?_
  refine bS 21 rfl ?_
  refine bS 22 rfl ?_
  refine bS 23 rfl ?_
  refine bS 24 rfl ?_
  refine bS 25 rfl ?_
  refine bS 26 rfl ?_
  refine bS 27 rfl ?_
  refine bS 28 rfl ?_
  refine bS 29 rfl ?_
  refine bS 30 rfl ?_
  refine bS 31 rfl ?_
  refine bS 32 rfl ?_
  refine bF 33 rfl ?_
  refine bD ?_
  clear z1
  go_wp2
  go_ret
  exact ⟨rfl, K9.out.1.1.1.1.1⟩
 have hz1 : (fl != lo) = false := by simpa using q1
 rw [decide_eq_true q1, Bool.true_and] at HR
 clear q1
 refine bF 11 rfl ?_
 refine bF 13 rfl ?_
 refine bT z1 14 rfl ?_
 refine bF 18 rfl ?_
 refine bF 19 rfl ?_
 refine bF 20 rfl ?_
 clear z1
 have p0 := cr 0 K9.out.1.1.1.1.2
 have p1 := cr 0 K9.out.1.1.1.2
 have p2 := cr 1 K9.out.1.1.1.2
 have x0 := cr 0 K9.out.1.1.2
 have x1 := cr 1 K9.out.1.1.2
 have a0 := cr 2 K9.out.1.1.2
 have a1 := cr 3 K9.out.1.1.2
 have a2 := cr 4 K9.out.1.1.2
 have a3 := cr 5 K9.out.1.1.2
 have b0 := cr 6 K9.out.1.1.2
 have b1 := cr 7 K9.out.1.1.2
 have b2 := cr 8 K9.out.1.1.2
 have b3 := cr 9 K9.out.1.1.2
 refine bT p0 21 rfl ?_
 refine bF 22 rfl ?_
 refine bW b0 b1 b2 b3 23 rfl ?_
 refine bF 26 rfl ?_
 refine bF 29 rfl ?_
 refine bF 30 rfl ?_
 refine bT x1 31 rfl ?_
 refine bR 24 rfl fun K hK => ?_
 clear p0 p1 p2 x0 x1 a0 a1 a2 a3 b0 b1 b2 b3
 go_simp
 refine (rFlow_any A c ws t X7 K9.out.1.2.1 K9.out.1.2.2.2.2 HX.out.1 HO.out.2).mono ?_
 rintro e X8 ⟨A7, c7, A8, c8, rfl, r7, -, -, -, hb⟩
 dsimp only
 refine hK.out _ _ (fun _ => hb) ?_
 have KA := Lib.hid (K9.out.on hb)
 clear hK hb
 obtain ⟨b7, o7, rfl, -, hc7⟩ := r7 (by rw [FLto_length]; omega)
 have z1 := hc7 x (by rw [FLto_length]; exact HX.out.2.2)
 rw [FLto_at HX.out.2.2] at z1
 clear hc7 r7
 generalize LOto ws t (outs ws).length = LT at *
 generalize flowF ws t x = fl2 at *
 by_cases q2 : fl2 = hi
 ·have hz2 : (fl2 != hi) = false := by simpa using q2
  obtain rfl : 0 = R := by rw [← HR.out, decide_eq_true q2]; rfl
  clear HR q2
  refine bF 25 rfl ?_
  refine bF 27 rfl ?_
  refine bT z1 28 rfl ?_
  refine bF 32 rfl ?_
  refine bF 33 rfl ?_
  refine bD ?_
  clear z1
  go_wp2
  go_ret
  exact ⟨rfl, KA.out.1.1.1.1.1⟩
 ·have hz2 : (fl2 != hi) = true := by simpa using q2
  obtain rfl : 8 = R := by rw [← HR.out, decide_eq_false q2]; rfl
  clear HR q2
  refine bF 25 rfl ?_
  refine bF 27 rfl ?_
  refine bT z1 28 rfl ?_
  refine bF 32 rfl ?_
  refine bF 33 rfl ?_
  refine bD ?_
  clear z1
  go_wp2
  go_ret
  exact ⟨rfl, KA.out.1.1.1.1.1⟩
end Go.Proofs.Ytdadoelajhemjaa
