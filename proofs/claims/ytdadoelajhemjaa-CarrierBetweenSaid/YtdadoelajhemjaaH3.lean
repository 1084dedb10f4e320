/- Walks: the closure of CheckEnds. -/
import Derived.Test.YtdadoelajhemjaaD2
import Derived.Test.YtdadoelajhemjaaQ2
namespace Go.Proofs.Ytdadoelajhemjaa
open Go.RowKit Go.Shelf

/-- Water fits a case, and gives an outlet a flow. -/
def hasB (ws : List Car) (cs : Cs) (x : Nat) (s : Wt) (n : Int) : Bool := decide (waterE ws s = 0) && fitsB cs s && decide (flowF ws s x = n)
set_option maxRecDepth 100000 in
set_option maxHeartbeats 1600000 in
theorem has_any (A : Option Addr) (c : Nat) (ws : List Car) (cs : Cs) (x : Nat) (hx : x < (outs ws).length) (g : Good ws) (k : CsOk ws cs) (s : Wt) (n : Int) (g0 g1 g2 : Nat) (w : World)
  (b0 : Blk w g0 #[.slice A ws.length c] 24) (b1 : Blk w g1 #[.slice cs.A0 cs.ri.length cs.c0, .slice cs.A1 cs.bo.length cs.c1] 51) (b2 : Blk w g2 #[.int .i64 (x : Int), .int .i64 (caAt ws x : Int), .int .i64 (atAt ws x : Int)] 131) (hW : Wk w A ws) (hc : Csd w cs) (hs : Wet w s) :
  Calls Try.prog 115 #[s.v, .int .i64 n, .pointer (some ⟨g0, 0, none⟩), .pointer (some ⟨g1, 0, none⟩), .pointer (some ⟨g2, 0, none⟩)] w fun e w' => e = .returned (.bool (hasB ws cs x s n)) ∧ Below w.heap.size w w' := by
 obtain ⟨A0, A1, c0, c1, ri, bo⟩ := cs
 dsimp only at b1
 have hb : Below w.heap.size w (w.alloc (.cells #[.slice s.A0 s.ri.length s.c0, .slice s.A1 s.bo.length s.c1, .slice s.A2 s.lk.length s.c2, .slice s.A3 s.lo.length s.c3] 27)).drew := ((Below.refl _ w).alloc (Nat.le_refl _) _).drew
 have KQ := Lib.hid (((((stays_bl hb).and (stays_blk (g := w.heap.size) (W := (w.alloc (.cells #[.slice s.A0 s.ri.length s.c0, .slice s.A1 s.bo.length s.c1, .slice s.A2 s.lk.length s.c2, .slice s.A3 s.lo.length s.c3] 27)).drew) (blk_new w #[.slice s.A0 s.ri.length s.c0, .slice s.A1 s.bo.length s.c1, .slice s.A2 s.lk.length s.c2, .slice s.A3 s.lo.length s.c3] 27 rfl))).and ((stays_blk (blk_on (W' := (w.alloc (.cells #[.slice s.A0 s.ri.length s.c0, .slice s.A1 s.bo.length s.c1, .slice s.A2 s.lk.length s.c2, .slice s.A3 s.lo.length s.c3] 27)).drew) b0 hb)).and (stays_blk (blk_on (W' := (w.alloc (.cells #[.slice s.A0 s.ri.length s.c0, .slice s.A1 s.bo.length s.c1, .slice s.A2 s.lk.length s.c2, .slice s.A3 s.lo.length s.c3] 27)).drew) b1 hb)))).and (stays_blk (blk_on (W' := (w.alloc (.cells #[.slice s.A0 s.ri.length s.c0, .slice s.A1 s.bo.length s.c1, .slice s.A2 s.lk.length s.c2, .slice s.A3 s.lo.length s.c3] 27)).drew) b2 hb))).and ((stays_wk (hW.ext hb)).and ((stays_csd (hc.ext hb)).and (stays_wet (hs.ext hb)))))
 clear hb b0 b1 b2 hW hc hs
 have hd : hasB ws ⟨A0, A1, c0, c1, ri, bo⟩ x s n = (decide (waterE ws s = 0) && fitsB ⟨A0, A1, c0, c1, ri, bo⟩ s && decide (flowF ws s x = n)) := rfl
 rw [hd]
 clear hd
 unfold Wt.v
 by_cases h0 : waterE ws s = 0
 ·have hok := ok_of_water h0
  have hl0 : s.ri.length = ri.length := hok.l0.trans k.l0.symm
  have hl1 : s.bo.length = bo.length := hok.l1.trans k.l1.symm
  have HO := hd3 hok hl0 hl1
  have HW := Lib.hid h0
  rw [decide_eq_true h0]
  clear h0 hok hl0 hl1
  cases hf : fitsB ⟨A0, A1, c0, c1, ri, bo⟩ s with
  | false =>
   have HF := Lib.hid hf
   clear hf
   go_enter Try.func115, Try.ntmps115
   go_upto_region 1 with fail
   refine wp_region_R (fun _ => true) ?_
   generalize (w.alloc (.cells #[.slice s.A0 s.ri.length s.c0, .slice s.A1 s.bo.length s.c1, .slice s.A2 s.lk.length s.c2, .slice s.A3 s.lo.length s.c3] 27)).drew = X0 at *
   have a0 := cr 0 KQ.out.1.1.1.1.2
   have a1 := cr 1 KQ.out.1.1.1.1.2
   have a2 := cr 2 KQ.out.1.1.1.1.2
   have a3 := cr 3 KQ.out.1.1.1.1.2
   have p0 := cr 0 KQ.out.1.1.1.2.1
   refine bT p0 0 rfl ?_
   refine bW a0 a1 a2 a3 1 rfl ?_
   refine bR 2 rfl fun K hK => ?_
   clear p0 a0 a1 a2 a3
   go_simp
   refine (checkWater_any A c ws s X0 KQ.out.1.2.1 g KQ.out.1.2.2.2).mono ?_
   rintro e X1 ⟨rfl, hb⟩
   dsimp only
   refine hK.out _ _ (fun _ => hb) ?_
   have K1 := Lib.hid (KQ.out.on hb)
   clear hK hb
   rw [HW.out]
   have a0 := cr 0 K1.out.1.1.1.1.2
   have a1 := cr 1 K1.out.1.1.1.1.2
   have a2 := cr 2 K1.out.1.1.1.1.2
   have a3 := cr 3 K1.out.1.1.1.1.2
   have p0 := cr 0 K1.out.1.1.1.2.1
   have q0 := cr 0 K1.out.1.1.1.2.2
   have q1 := cr 1 K1.out.1.1.1.2.2
   refine bF 3 rfl ?_
   refine bF 4 rfl ?_
   refine bP q0 q1 5 rfl ?_
   refine bW a0 a1 a2 a3 6 rfl ?_
   refine bR 7 rfl fun K hK => ?_
   clear p0 a0 a1 a2 a3 q0 q1
   go_simp
   refine (fits_any ⟨A0, A1, c0, c1, ri, bo⟩ s X1 K1.out.1.2.2.1 K1.out.1.2.2.2 HO.out.2.1 HO.out.2.2).mono ?_
   rintro e X2 ⟨rfl, hb⟩
   dsimp only
   refine hK.out _ _ (fun _ => hb) ?_
   have K2 := Lib.hid (K1.out.on hb)
   clear hK hb
   rw [HF.out]
   refine bF 8 rfl ?_
   refine bF 9 rfl ?_
   refine bS 10 rfl ?_
   refine bS 11 rfl ?_
   refine bS 12 rfl ?_
   refine bS 13 rfl ?_
   refine bS 14 rfl ?_
   refine bS 15 rfl ?_
   refine bS 16 rfl ?_
   refine bS 17 rfl ?_
   refine bS 18 rfl ?_
   refine bF 19 rfl ?_
   refine bF 20 rfl ?_
   refine bD ?_
   go_wp2
   go_ret
   exact ⟨rfl, K2.out.1.1.1.1.1⟩
  | true =>
   have HF := Lib.hid hf
   have hx60 : x < 60 := by have := g.n2; omega
   clear hf
   obtain ⟨q, hq⟩ : ∃ q : Bool, decide (flowF ws s x = n) = q := ⟨_, rfl⟩
   have hqz : (flowF ws s x == n) = q := by rw [← hq]; rfl
   rw [hq]
   clear hq
   have hft := field_through
   have hit := fun (f : Nat → Int) => index_through f x hx60
   go_enter Try.func115, Try.ntmps115
   go_upto_region 1 with fail
   refine wp_region_R (fun _ => true) ?_
   generalize (w.alloc (.cells #[.slice s.A0 s.ri.length s.c0, .slice s.A1 s.bo.length s.c1, .slice s.A2 s.lk.length s.c2, .slice s.A3 s.lo.length s.c3] 27)).drew = X0 at *
   have a0 := cr 0 KQ.out.1.1.1.1.2
   have a1 := cr 1 KQ.out.1.1.1.1.2
   have a2 := cr 2 KQ.out.1.1.1.1.2
   have a3 := cr 3 KQ.out.1.1.1.1.2
   have p0 := cr 0 KQ.out.1.1.1.2.1
   refine bT p0 0 rfl ?_
   refine bW a0 a1 a2 a3 1 rfl ?_
   refine bR 2 rfl fun K hK => ?_
   clear p0 a0 a1 a2 a3
   go_simp
   refine (checkWater_any A c ws s X0 KQ.out.1.2.1 g KQ.out.1.2.2.2).mono ?_
   rintro e X1 ⟨rfl, hb⟩
   dsimp only
   refine hK.out _ _ (fun _ => hb) ?_
   have K1 := Lib.hid (KQ.out.on hb)
   clear hK hb
   rw [HW.out]
   have a0 := cr 0 K1.out.1.1.1.1.2
   have a1 := cr 1 K1.out.1.1.1.1.2
   have a2 := cr 2 K1.out.1.1.1.1.2
   have a3 := cr 3 K1.out.1.1.1.1.2
   have p0 := cr 0 K1.out.1.1.1.2.1
   have q0 := cr 0 K1.out.1.1.1.2.2
   have q1 := cr 1 K1.out.1.1.1.2.2
   refine bF 3 rfl ?_
   refine bF 4 rfl ?_
   refine bP q0 q1 5 rfl ?_
   refine bW a0 a1 a2 a3 6 rfl ?_
   refine bR 7 rfl fun K hK => ?_
   clear p0 a0 a1 a2 a3 q0 q1
   go_simp
   refine (fits_any ⟨A0, A1, c0, c1, ri, bo⟩ s X1 K1.out.1.2.2.1 K1.out.1.2.2.2 HO.out.2.1 HO.out.2.2).mono ?_
   rintro e X2 ⟨rfl, hb⟩
   dsimp only
   refine hK.out _ _ (fun _ => hb) ?_
   have K2 := Lib.hid (K1.out.on hb)
   clear hK hb
   rw [HF.out]
   have a0 := cr 0 K2.out.1.1.1.1.2
   have a1 := cr 1 K2.out.1.1.1.1.2
   have a2 := cr 2 K2.out.1.1.1.1.2
   have a3 := cr 3 K2.out.1.1.1.1.2
   have p0 := cr 0 K2.out.1.1.1.2.1
   have y0 := cr 0 K2.out.1.1.2
   refine bF 8 rfl ?_
   refine bF 9 rfl ?_
   refine bT p0 10 rfl ?_
   refine bW a0 a1 a2 a3 11 rfl ?_
   refine bF 14 rfl ?_
   refine bT y0 15 rfl ?_
   refine bF 17 rfl ?_
   refine bR 12 rfl fun K hK => ?_
   clear p0 a0 a1 a2 a3 y0
   go_simp
   refine (flow_any A c ws s X2 K2.out.1.2.1 g K2.out.1.2.2.2 HO.out.1).mono ?_
   rintro e X3 ⟨rfl, hb⟩
   dsimp only
   refine hK.out _ _ (fun _ => hb) ?_
   have K3 := Lib.hid (K2.out.on hb)
   clear hK hb
   refine bF 13 rfl ?_
   refine bF 16 rfl ?_
   refine bF 18 rfl ?_
   refine bF 19 rfl ?_
   refine bF 20 rfl ?_
   refine bD ?_
   go_wp2
   go_ret
   exact ⟨rfl, K3.out.1.1.1.1.1⟩
 ·rw [decide_eq_false h0]
  have hz : (waterE ws s == 0) = false := by simpa using h0
  clear h0
  go_enter Try.func115, Try.ntmps115
  go_upto_region 1 with fail
  refine wp_region_R (fun _ => true) ?_
  generalize (w.alloc (.cells #[.slice s.A0 s.ri.length s.c0, .slice s.A1 s.bo.length s.c1, .slice s.A2 s.lk.length s.c2, .slice s.A3 s.lo.length s.c3] 27)).drew = X0 at *
  have a0 := cr 0 KQ.out.1.1.1.1.2
  have a1 := cr 1 KQ.out.1.1.1.1.2
  have a2 := cr 2 KQ.out.1.1.1.1.2
  have a3 := cr 3 KQ.out.1.1.1.1.2
  have p0 := cr 0 KQ.out.1.1.1.2.1
  refine bT p0 0 rfl ?_
  refine bW a0 a1 a2 a3 1 rfl ?_
  refine bR 2 rfl fun K hK => ?_
  clear p0 a0 a1 a2 a3
  go_simp
  refine (checkWater_any A c ws s X0 KQ.out.1.2.1 g KQ.out.1.2.2.2).mono ?_
  rintro e X1 ⟨rfl, hb⟩
  dsimp only
  refine hK.out _ _ (fun _ => hb) ?_
  have K1 := Lib.hid (KQ.out.on hb)
  clear hK hb
  refine bF 3 rfl ?_
  refine bF 4 rfl ?_
  refine bS 5 rfl ?_
  refine bS 6 rfl ?_
  refine bS 7 rfl ?_
  refine bF 8 rfl ?_
  refine bF 9 rfl ?_
  refine bS 10 rfl ?_
  refine bS 11 rfl ?_
  refine bS 12 rfl ?_
  refine bS 13 rfl ?_
  refine bS 14 rfl ?_
  refine bS 15 rfl ?_
  refine bS 16 rfl ?_
  refine bS 17 rfl ?_
  refine bS 18 rfl ?_
  refine bF 19 rfl ?_
  refine bF 20 rfl ?_
  refine bD ?_
  go_wp2
  go_ret
  exact ⟨rfl, K1.out.1.1.1.1.1⟩
end Go.Proofs.Ytdadoelajhemjaa
