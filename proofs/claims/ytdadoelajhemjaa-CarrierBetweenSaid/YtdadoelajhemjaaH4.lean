/- Walks: CheckEnds. -/
import Derived.Test.YtdadoelajhemjaaH3
import Derived.Test.YtdadoelajhemjaaM12
namespace Go.Proofs.Ytdadoelajhemjaa
open Go.RowKit Go.Shelf

/-- What CheckEnds returns. -/
def chkE (ws : List Car) (cs : Cs) (id : Int) (f : Sp) (s t : Wt) : Int := if askE ws cs id = 0 then (match idxO ws id with | some x => if (decide (endsF ws cs x = f) && (hasB ws cs x s f.1 && hasB ws cs x t f.2)) = true then 0 else 8 | none => 0) else askE ws cs id
theorem sp_split {el eh lo hi : Int} (h : ¬ (el, eh) = (lo, hi)) : el ≠ lo ∨ (lo = el ∧ eh ≠ hi) := by
 by_cases h1 : el = lo
 ·exact .inr ⟨h1.symm, fun h2 => h (by rw [h1, h2])⟩
 ·exact .inl h1
set_option maxRecDepth 100000 in
set_option maxHeartbeats 1600000 in
theorem CheckEnds_any (A : Option Addr) (c : Nat) (ws : List Car) (cs : Cs) (id : Int) (f : Sp) (s t : Wt) (w : World) (hW : Wk w A ws) (hc : Csd w cs) (hs : Wet w s) (ht : Wet w t) :
  Calls Try.prog 60 #[.agg #[.slice A ws.length c], cs.v, .int .i64 id, supV f s t] w fun e w' => e = .returned (.int .i64 (chkE ws cs id f s t)) ∧ Below w.heap.size w w' := by
 obtain ⟨A0, A1, c0, c1, ri, bo⟩ := cs
 obtain ⟨lo, hi⟩ := f
 show Calls _ _ #[.agg #[.slice A ws.length c], .agg #[.slice A0 ri.length c0, .slice A1 bo.length c1], .int .i64 id, .agg #[.int .i64 lo, .int .i64 hi, .slice s.A0 s.ri.length s.c0, .slice s.A1 s.bo.length s.c1, .slice s.A2 s.lk.length s.c2, .slice s.A3 s.lo.length s.c3, .slice t.A0 t.ri.length t.c0, .slice t.A1 t.bo.length t.c1, .slice t.A2 t.lk.length t.c2, .slice t.A3 t.lo.length t.c3]] _ _
 have hb : Below w.heap.size w (((w.alloc (.cells #[.slice A ws.length c] 24)).alloc (.cells #[.slice A0 ri.length c0, .slice A1 bo.length c1] 51)).alloc (.cells #[.int .i64 lo, .int .i64 hi, .slice s.A0 s.ri.length s.c0, .slice s.A1 s.bo.length s.c1, .slice s.A2 s.lk.length s.c2, .slice s.A3 s.lo.length s.c3, .slice t.A0 t.ri.length t.c0, .slice t.A1 t.bo.length t.c1, .slice t.A2 t.lk.length t.c2, .slice t.A3 t.lo.length t.c3] 91)) := (((Below.refl _ w).alloc (Nat.le_refl _) _).alloc (by simp) _).alloc (by simp; omega) _
 have KQ := Lib.hid ((((((stays_bl hb).and (stays_blk (g := w.heap.size) (W := (((w.alloc (.cells #[.slice A ws.length c] 24)).alloc (.cells #[.slice A0 ri.length c0, .slice A1 bo.length c1] 51)).alloc (.cells #[.int .i64 lo, .int .i64 hi, .slice s.A0 s.ri.length s.c0, .slice s.A1 s.bo.length s.c1, .slice s.A2 s.lk.length s.c2, .slice s.A3 s.lo.length s.c3, .slice t.A0 t.ri.length t.c0, .slice t.A1 t.bo.length t.c1, .slice t.A2 t.lk.length t.c2, .slice t.A3 t.lo.length t.c3] 91))) (blk_alloc (blk_alloc (blk_new w #[.slice A ws.length c] 24 rfl) _) _))).and (stays_blk (g := w.heap.size + 1) (W := (((w.alloc (.cells #[.slice A ws.length c] 24)).alloc (.cells #[.slice A0 ri.length c0, .slice A1 bo.length c1] 51)).alloc (.cells #[.int .i64 lo, .int .i64 hi, .slice s.A0 s.ri.length s.c0, .slice s.A1 s.bo.length s.c1, .slice s.A2 s.lk.length s.c2, .slice s.A3 s.lo.length s.c3, .slice t.A0 t.ri.length t.c0, .slice t.A1 t.bo.length t.c1, .slice t.A2 t.lk.length t.c2, .slice t.A3 t.lo.length t.c3] 91))) (blk_alloc (blk_new _ #[.slice A0 ri.length c0, .slice A1 bo.length c1] 51 (by simp)) _))).and (stays_blk (g := w.heap.size + 1 + 1) (W := (((w.alloc (.cells #[.slice A ws.length c] 24)).alloc (.cells #[.slice A0 ri.length c0, .slice A1 bo.length c1] 51)).alloc (.cells #[.int .i64 lo, .int .i64 hi, .slice s.A0 s.ri.length s.c0, .slice s.A1 s.bo.length s.c1, .slice s.A2 s.lk.length s.c2, .slice s.A3 s.lo.length s.c3, .slice t.A0 t.ri.length t.c0, .slice t.A1 t.bo.length t.c1, .slice t.A2 t.lk.length t.c2, .slice t.A3 t.lo.length t.c3] 91))) (blk_new ((w.alloc (.cells #[.slice A ws.length c] 24)).alloc (.cells #[.slice A0 ri.length c0, .slice A1 bo.length c1] 51)) #[.int .i64 lo, .int .i64 hi, .slice s.A0 s.ri.length s.c0, .slice s.A1 s.bo.length s.c1, .slice s.A2 s.lk.length s.c2, .slice s.A3 s.lo.length s.c3, .slice t.A0 t.ri.length t.c0, .slice t.A1 t.bo.length t.c1, .slice t.A2 t.lk.length t.c2, .slice t.A3 t.lo.length t.c3] 91 (by simp)))).and ((stays_wk (hW.ext hb)).and ((stays_csd (hc.ext hb)).and ((stays_wet (hs.ext hb)).and (stays_wet (ht.ext hb)))))))
 clear hb hW hc hs ht
 have HC := Lib.hid (fun W hW hs => asked_any A c ws ⟨A0, A1, c0, c1, ri, bo⟩ id W hW hs)
 obtain ⟨R, hR⟩ : ∃ R, chkE ws ⟨A0, A1, c0, c1, ri, bo⟩ id (lo, hi) s t = R := ⟨_, rfl⟩
 rw [hR]
 have HR := Lib.hid ((show (if askE ws ⟨A0, A1, c0, c1, ri, bo⟩ id = 0 then (match idxO ws id with | some x => if (decide (endsF ws ⟨A0, A1, c0, c1, ri, bo⟩ x = (lo, hi)) && (hasB ws ⟨A0, A1, c0, c1, ri, bo⟩ x s lo && hasB ws ⟨A0, A1, c0, c1, ri, bo⟩ x t hi)) = true then 0 else 8 | none => 0) else askE ws ⟨A0, A1, c0, c1, ri, bo⟩ id) = R from hR))
 clear hR
 go_enter Try.func60, Try.ntmps60
 go_upto_region 1 with fail
 generalize (((w.alloc (.cells #[.slice A ws.length c] 24)).alloc (.cells #[.slice A0 ri.length c0, .slice A1 bo.length c1] 51)).alloc (.cells #[.int .i64 lo, .int .i64 hi, .slice s.A0 s.ri.length s.c0, .slice s.A1 s.bo.length s.c1, .slice s.A2 s.lk.length s.c2, .slice s.A3 s.lo.length s.c3, .slice t.A0 t.ri.length t.c0, .slice t.A1 t.bo.length t.c1, .slice t.A2 t.lk.length t.c2, .slice t.A3 t.lo.length t.c3] 91)) = W0 at *
 have p0 := cr 0 KQ.out.1.1.1.1.2
 have p1 := cr 0 KQ.out.1.1.1.2
 have p2 := cr 1 KQ.out.1.1.1.2
 by_cases h0 : askE ws ⟨A0, A1, c0, c1, ri, bo⟩ id = 0
 rotate_left
 ·rw [if_neg h0] at HR
  generalize askE ws ⟨A0, A1, c0, c1, ri, bo⟩ id = E at *
  generalize askP ws ⟨A0, A1, c0, c1, ri, bo⟩ id = P at *
  have hz : (E != 0) = true := by simpa using h0
  obtain rfl := HR.out
  clear h0 HR
  go_wp2_with (go_at_call 85; refine (HC.out _ KQ.out.1.2.1 KQ.out.1.2.2.1).mono ?_; rintro e w1 ⟨rfl, hb⟩; unfold plV; have K1 := Lib.hid (KQ.out.on hb); clear hb)
  go_ret
  exact ⟨rfl, K1.out.1.1.1.1.1.trans (((Below.refl _ w1).alloc (Nat.le_refl _) _).mono K1.out.1.1.1.1.1.size)⟩
 obtain ⟨g, k, x, hx, hxl, hP⟩ := ask_zero h0
 rw [if_pos h0, hx] at HR
 dsimp only at HR
 rw [h0, hP] at HC
 have HX := hd3 g k hxl
 clear h0 hx hP g k hxl
 go_upto_region 4 with (go_at_call 85; refine (HC.out _ KQ.out.1.2.1 KQ.out.1.2.2.1).mono ?_; rintro e w1 ⟨rfl, hb⟩; unfold plV pl; dsimp only; have K1 := Lib.hid (KQ.out.on hb); clear hb)
 clear p0 p1 p2
 have K3 := Lib.hid ((K1.out.on ((Below.refl _ w1).alloc (Nat.le_refl _) (.cells #[.int .i64 (x : Int), .int .i64 (caAt ws x : Int), .int .i64 (atAt ws x : Int)] 131))).and (stays_blk (blk_new w1 #[.int .i64 (x : Int), .int .i64 (caAt ws x : Int), .int .i64 (atAt ws x : Int)] 131 rfl)))
 generalize w1.alloc (.cells #[.int .i64 (x : Int), .int .i64 (caAt ws x : Int), .int .i64 (atAt ws x : Int)] 131) = w3 at *
 have K4 := Lib.hid (K3.out.on ((Below.refl w3.heap.size w3).drew))
 have hU := supply_any A c ws ⟨A0, A1, c0, c1, ri, bo⟩ x HX.out.2.2 w3.drew K4.out.1.1.2.1 HX.out.1 K4.out.1.1.2.2.1 HX.out.2.1
 obtain ⟨el, eh, hlh⟩ : ∃ lo hi : Int, endsF ws ⟨A0, A1, c0, c1, ri, bo⟩ x = (lo, hi) := ⟨_, _, rfl⟩
 rw [hlh] at hU HR
 have HU := Lib.hid hU
 clear hU K1 K3 hlh
 refine wp_region_R (fun _ => true) ?_
 generalize w3.drew = X0 at *
 have hfs := field_sup
 have p0 := cr 0 K4.out.1.1.1.1.1.2
 have p1 := cr 0 K4.out.1.1.1.1.2
 have p2 := cr 1 K4.out.1.1.1.1.2
 have x0 := cr 0 K4.out.1.1.1.2
 have x1 := cr 1 K4.out.1.1.1.2
 have z0 := cr 0 K4.out.1.2
 have z1 := cr 1 K4.out.1.2
 have z2 := cr 2 K4.out.1.2
 refine bT p0 0 rfl ?_
 refine bP p1 p2 1 rfl ?_
 refine bV z0 z1 z2 2 rfl ?_
 refine bF 5 rfl ?_
 refine bP x0 x1 6 rfl ?_
 refine bR 3 rfl fun K hK => ?_
 clear p0 p1 p2 x0 x1 z0 z1 z2
 go_simp
 refine HU.out.mono ?_
 rintro e X1 ⟨s', t', rfl, -, -, -, -, -, -, hb⟩
 dsimp only
 refine hK.out _ _ (fun _ => hb) ?_
 have K5 := Lib.hid (K4.out.on hb)
 clear hK hb HU
 by_cases hE : (el, eh) = (lo, hi)
 rotate_left
 ·obtain rfl : 8 = R := by rw [← HR.out, decide_eq_false hE, Bool.false_and]; rfl
  rcases sp_split hE with h1 | ⟨rfl, h2⟩ <;>
  ·clear HR hE
   refine bF 4 rfl ?_
   refine bF 7 rfl ?_
   refine bD ?_
   go_wp2
   go_ret
   exact ⟨rfl, K5.out.1.1.1.1.1.1⟩
 rw [decide_eq_true hE, Bool.true_and] at HR
 have e1 := (Prod.mk.inj hE).1.symm
 have e2 := (Prod.mk.inj hE).2.symm
 clear hE
 subst e1 e2
 refine bF 4 rfl ?_
 refine bF 7 rfl ?_
 refine bD ?_
 clear hfs
 go_upto_region 7 with fail
 have hm := fun X hb => has_any A c ws ⟨A0, A1, c0, c1, ri, bo⟩ x HX.out.2.2 HX.out.1 HX.out.2.1 s lo w.heap.size (w.heap.size + 1) w1.heap.size X (K5.out.on hb).1.1.1.1.1.2 (K5.out.on hb).1.1.1.1.2 (K5.out.on hb).1.2 (K5.out.on hb).1.1.2.1 (K5.out.on hb).1.1.2.2.1 (K5.out.on hb).1.1.2.2.2.1
 have hm2 := fun X hb => has_any A c ws ⟨A0, A1, c0, c1, ri, bo⟩ x HX.out.2.2 HX.out.1 HX.out.2.1 t hi w.heap.size (w.heap.size + 1) w1.heap.size X (K5.out.on hb).1.1.1.1.1.2 (K5.out.on hb).1.1.1.1.2 (K5.out.on hb).1.2 (K5.out.on hb).1.1.2.1 (K5.out.on hb).1.1.2.2.1 (K5.out.on hb).1.1.2.2.2.2
 generalize hasB ws ⟨A0, A1, c0, c1, ri, bo⟩ x s lo = b1 at *
 generalize hasB ws ⟨A0, A1, c0, c1, ri, bo⟩ x t hi = b2 at *
 have HM := hd2 hm hm2
 have x0 := cr 0 K5.out.1.1.1.2
 have x2 := cr 2 K5.out.1.1.1.2
 have x3 := cr 3 K5.out.1.1.1.2
 have x4 := cr 4 K5.out.1.1.1.2
 have x5 := cr 5 K5.out.1.1.1.2
 clear hm hm2
 cases b1
 ·obtain rfl : 8 = R := by rw [← HR.out, Bool.false_and]; rfl
  clear HR
  go_wp2_with (go_at_call 115; refine (HM.out.1 _ (Below.refl _ _)).mono ?_; rintro e w8 ⟨rfl, hb⟩; have K6 := Lib.hid (K5.out.on hb); clear hb)
  go_ret
  exact ⟨rfl, K6.out.1.1.1.1.1.1⟩
 obtain rfl : (if b2 = true then 0 else 8) = R := by rw [← HR.out, Bool.true_and]
 clear HR
 cases b2 <;>
 ·go_wp2_with first
   | (have _t := HB6; clear _t; go_at_call 115; refine (HM.out.2 _ HB6.out).mono ?_; rintro e w9 ⟨rfl, hb⟩; have K7 := Lib.hid (K6.out.on hb); clear hb)
   | (go_at_call 115; refine (HM.out.1 _ (Below.refl _ _)).mono ?_; rintro e w8 ⟨rfl, hb⟩; have K6 := Lib.hid (K5.out.on hb); have HB6 := Lib.hid hb; clear hb x0 x2 x3 x4 x5; have y0 := cr 1 K6.out.1.1.1.2; have y2 := cr 6 K6.out.1.1.1.2; have y3 := cr 7 K6.out.1.1.1.2; have y4 := cr 8 K6.out.1.1.1.2; have y5 := cr 9 K6.out.1.1.1.2)
  go_ret
  exact ⟨rfl, K7.out.1.1.1.1.1.1⟩
end Go.Proofs.Ytdadoelajhemjaa
