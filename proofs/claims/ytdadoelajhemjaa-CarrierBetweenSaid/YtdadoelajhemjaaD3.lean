/- Walks: Fits, of the program and of the specification; cased of the laws; a case that comes in. -/
import Derived.Test.YtdadoelajhemjaaD2
import Derived.Test.YtdadoelajhemjaaD4
import Derived.Test.YtdadoelajhemjaaC8
namespace Go.Proofs.Ytdadoelajhemjaa
open Go.ChangeShapes Go.WideShapes Go.ChangeAt Go.RowKit Go.Shelf

def fitE (ws : List Car) (cs : Cs) (s : Wt) : Int := if ccE ws cs = 0 then waterE ws s else ccE ws cs
def fitR (ws : List Car) (cs : Cs) (s : Wt) : Bool := if fitE ws cs s = 0 then fitsB cs s else false
theorem rWater_good (A : Option Addr) (c : Nat) (ws : List Car) (s : Wt) (w : World) (h : Wk w A ws) (_ : Good ws) (hs : Wet w s) :
  Calls Try.prog 84 #[.agg #[.slice A ws.length c], s.v] w fun e w' => e = .returned (.int .i64 (waterE ws s)) ∧ Below w.heap.size w w' := rWater_any A c ws s w h hs
set_option maxRecDepth 100000 in
set_option maxHeartbeats 1600000 in
theorem Fits_any (A : Option Addr) (c : Nat) (ws : List Car) (cs : Cs) (s : Wt) (w : World) (h : Wk w A ws) (hc : Csd w cs) (hs : Wet w s) :
  Calls Try.prog 46 #[.agg #[.slice A ws.length c], cs.v, s.v] w fun e w' => e = .returned (.tuple #[.bool (fitR ws cs s), .int .i64 (fitE ws cs s)]) ∧ Below w.heap.size w w' := by
 obtain ⟨A0, B1, d0, d1, ri, bo⟩ := cs
 obtain ⟨E0, E1, E2, E3, k0, k1, k2, k3, xi, yo, lk, lo⟩ := s
 show Calls _ _ #[.agg #[.slice A ws.length c], .agg #[.slice A0 ri.length d0, .slice B1 bo.length d1], .agg #[.slice E0 xi.length k0, .slice E1 yo.length k1, .slice E2 lk.length k2, .slice E3 lo.length k3]] _ _
 have hb : Below w.heap.size w (((w.alloc (.cells #[.slice A ws.length c] 24)).alloc (.cells #[.slice A0 ri.length d0, .slice B1 bo.length d1] 51)).alloc (.cells #[.slice E0 xi.length k0, .slice E1 yo.length k1, .slice E2 lk.length k2, .slice E3 lo.length k3] 27)) := (((Below.refl _ w).alloc (Nat.le_refl _) _).alloc (by simp) _).alloc (by simp; omega) _
 have K := Lib.hid (((((stays_bl hb).and (stays_blk (blk_alloc (blk_alloc (blk_new w #[.slice A ws.length c] 24 rfl) _) _))).and (stays_blk (g := w.heap.size + 1) (blk_alloc (blk_new (w.alloc (.cells #[.slice A ws.length c] 24)) #[.slice A0 ri.length d0, .slice B1 bo.length d1] 51 (by simp)) _))).and (stays_blk (g := w.heap.size + 1 + 1) (blk_new ((w.alloc (.cells #[.slice A ws.length c] 24)).alloc (.cells #[.slice A0 ri.length d0, .slice B1 bo.length d1] 51)) #[.slice E0 xi.length k0, .slice E1 yo.length k1, .slice E2 lk.length k2, .slice E3 lo.length k3] 27 (by simp)))).and ((stays_wk (h.ext hb)).and ((stays_csd (hc.ext hb)).and (stays_wet (hs.ext hb)))))
 clear hb h hc hs
 have HC := Lib.hid (fun W hW hc => CheckCase_any A c ws ⟨A0, B1, d0, d1, ri, bo⟩ W hW hc)
 by_cases h0 : ccE ws ⟨A0, B1, d0, d1, ri, bo⟩ = 0
 rotate_left
 ·have e1 : fitE ws ⟨A0, B1, d0, d1, ri, bo⟩ ⟨E0, E1, E2, E3, k0, k1, k2, k3, xi, yo, lk, lo⟩ = ccE ws ⟨A0, B1, d0, d1, ri, bo⟩ := if_neg h0
  have e2 : fitR ws ⟨A0, B1, d0, d1, ri, bo⟩ ⟨E0, E1, E2, E3, k0, k1, k2, k3, xi, yo, lk, lo⟩ = false := if_neg (by rw [e1]; exact h0)
  rw [e1, e2]
  generalize ccE ws ⟨A0, B1, d0, d1, ri, bo⟩ = E at *
  have hz : (E != 0) = true := by simpa using h0
  clear h0 e1 e2
  go_enter Try.func46, Try.ntmps46
  go_upto_region 1 with fail
  generalize ((w.alloc (.cells #[.slice A ws.length c] 24)).alloc (.cells #[.slice A0 ri.length d0, .slice B1 bo.length d1] 51)).alloc (.cells #[.slice E0 xi.length k0, .slice E1 yo.length k1, .slice E2 lk.length k2, .slice E3 lo.length k3] 27) = W0 at *
  have p0 := cr 0 K.out.1.1.1.1.2
  have p1 := cr 0 K.out.1.1.1.2
  have p2 := cr 1 K.out.1.1.1.2
  have p3 := cr 0 K.out.1.1.2
  have p4 := cr 1 K.out.1.1.2
  have p5 := cr 2 K.out.1.1.2
  have p6 := cr 3 K.out.1.1.2
  go_wp2_with (go_at_call 48; refine (HC.out _ K.out.1.2.1 K.out.1.2.2.1).mono ?_; rintro e w1 ⟨rfl, hb⟩; have K1 := Lib.hid (K.out.on hb); clear hb)
  go_ret2
  exact ⟨rfl, K1.out.1.1.1.1.1⟩
 have hg := cc_good h0
 have HW := Lib.hid (fun W hW hs => checkWater_any A c ws ⟨E0, E1, E2, E3, k0, k1, k2, k3, xi, yo, lk, lo⟩ W hW hg.1 hs)
 have e1 : fitE ws ⟨A0, B1, d0, d1, ri, bo⟩ ⟨E0, E1, E2, E3, k0, k1, k2, k3, xi, yo, lk, lo⟩ = waterE ws ⟨E0, E1, E2, E3, k0, k1, k2, k3, xi, yo, lk, lo⟩ := if_pos h0
 by_cases h1 : waterE ws ⟨E0, E1, E2, E3, k0, k1, k2, k3, xi, yo, lk, lo⟩ = 0
 rotate_left
 ·have e2 : fitR ws ⟨A0, B1, d0, d1, ri, bo⟩ ⟨E0, E1, E2, E3, k0, k1, k2, k3, xi, yo, lk, lo⟩ = false := if_neg (by rw [e1]; exact h1)
  rw [e1, e2]
  rw [h0] at HC
  generalize waterE ws ⟨E0, E1, E2, E3, k0, k1, k2, k3, xi, yo, lk, lo⟩ = E at *
  have hz : (E != 0) = true := by simpa using h1
  clear h0 e1 e2 h1 hg
  go_enter Try.func46, Try.ntmps46
  go_upto_region 1 with fail
  generalize ((w.alloc (.cells #[.slice A ws.length c] 24)).alloc (.cells #[.slice A0 ri.length d0, .slice B1 bo.length d1] 51)).alloc (.cells #[.slice E0 xi.length k0, .slice E1 yo.length k1, .slice E2 lk.length k2, .slice E3 lo.length k3] 27) = W0 at *
  have p0 := cr 0 K.out.1.1.1.1.2
  have p1 := cr 0 K.out.1.1.1.2
  have p2 := cr 1 K.out.1.1.1.2
  have p3 := cr 0 K.out.1.1.2
  have p4 := cr 1 K.out.1.1.2
  have p5 := cr 2 K.out.1.1.2
  have p6 := cr 3 K.out.1.1.2
  go_upto_region 4 with (go_at_call 48; refine (HC.out _ K.out.1.2.1 K.out.1.2.2.1).mono ?_; rintro e w1 ⟨rfl, hb⟩; have K1 := Lib.hid (K.out.on hb); clear hb)
  clear p0 p1 p2 p3 p4 p5 p6
  have p0 := cr 0 K1.out.1.1.1.1.2
  have p1 := cr 0 K1.out.1.1.1.2
  have p2 := cr 1 K1.out.1.1.1.2
  have p3 := cr 0 K1.out.1.1.2
  have p4 := cr 1 K1.out.1.1.2
  have p5 := cr 2 K1.out.1.1.2
  have p6 := cr 3 K1.out.1.1.2
  go_wp2_with (go_at_call 83; refine (HW.out _ K1.out.1.2.1 K1.out.1.2.2.2).mono ?_; rintro e w2 ⟨rfl, hb⟩; have K2 := Lib.hid (K1.out.on hb); clear hb)
  go_ret2
  exact ⟨rfl, K2.out.1.1.1.1.1⟩
 have ok := water_iff.1 h1
 have e2 : fitR ws ⟨A0, B1, d0, d1, ri, bo⟩ ⟨E0, E1, E2, E3, k0, k1, k2, k3, xi, yo, lk, lo⟩ = fitsB ⟨A0, B1, d0, d1, ri, bo⟩ ⟨E0, E1, E2, E3, k0, k1, k2, k3, xi, yo, lk, lo⟩ := if_pos (by rw [e1]; exact h1)
 rw [e1, e2, h1]
 rw [h0] at HC
 rw [h1] at HW
 have HF := Lib.hid (fun W hc hs => fits_any ⟨A0, B1, d0, d1, ri, bo⟩ ⟨E0, E1, E2, E3, k0, k1, k2, k3, xi, yo, lk, lo⟩ W hc hs (ok.l0.trans hg.2.l0.symm) (ok.l1.trans hg.2.l1.symm))
 clear h0 h1 e1 e2 hg ok
 generalize fitsB ⟨A0, B1, d0, d1, ri, bo⟩ ⟨E0, E1, E2, E3, k0, k1, k2, k3, xi, yo, lk, lo⟩ = R at *
 go_enter Try.func46, Try.ntmps46
 go_upto_region 1 with fail
 generalize ((w.alloc (.cells #[.slice A ws.length c] 24)).alloc (.cells #[.slice A0 ri.length d0, .slice B1 bo.length d1] 51)).alloc (.cells #[.slice E0 xi.length k0, .slice E1 yo.length k1, .slice E2 lk.length k2, .slice E3 lo.length k3] 27) = W0 at *
 have p0 := cr 0 K.out.1.1.1.1.2
 have p1 := cr 0 K.out.1.1.1.2
 have p2 := cr 1 K.out.1.1.1.2
 have p3 := cr 0 K.out.1.1.2
 have p4 := cr 1 K.out.1.1.2
 have p5 := cr 2 K.out.1.1.2
 have p6 := cr 3 K.out.1.1.2
 go_upto_region 4 with (go_at_call 48; refine (HC.out _ K.out.1.2.1 K.out.1.2.2.1).mono ?_; rintro e w1 ⟨rfl, hb⟩; have K1 := Lib.hid (K.out.on hb); clear hb)
 clear p0 p1 p2 p3 p4 p5 p6
 have p0 := cr 0 K1.out.1.1.1.1.2
 have p1 := cr 0 K1.out.1.1.1.2
 have p2 := cr 1 K1.out.1.1.1.2
 have p3 := cr 0 K1.out.1.1.2
 have p4 := cr 1 K1.out.1.1.2
 have p5 := cr 2 K1.out.1.1.2
 have p6 := cr 3 K1.out.1.1.2
 go_upto_region 7 with (go_at_call 83; refine (HW.out _ K1.out.1.2.1 K1.out.1.2.2.2).mono ?_; rintro e w2 ⟨rfl, hb⟩; have K2 := Lib.hid (K1.out.on hb); clear hb)
 clear p0 p1 p2 p3 p4 p5 p6
 have p0 := cr 0 K2.out.1.1.1.1.2
 have p1 := cr 0 K2.out.1.1.1.2
 have p2 := cr 1 K2.out.1.1.1.2
 have p3 := cr 0 K2.out.1.1.2
 have p4 := cr 1 K2.out.1.1.2
 have p5 := cr 2 K2.out.1.1.2
 have p6 := cr 3 K2.out.1.1.2
 go_wp2_with (go_at_call 106; refine (HF.out _ K2.out.1.2.2.1 K2.out.1.2.2.2).mono ?_; rintro e w3 ⟨rfl, hb⟩; have K3 := Lib.hid (K2.out.on hb); clear hb)
 go_ret2
 exact ⟨rfl, K3.out.1.1.1.1.1⟩
set_option maxRecDepth 100000 in
set_option maxHeartbeats 1600000 in
theorem rFits_any (A : Option Addr) (c : Nat) (ws : List Car) (cs : Cs) (s : Wt) (w : World) (h : Wk w A ws) (hc : Csd w cs) (hs : Wet w s) :
  Calls Try.prog 47 #[.agg #[.slice A ws.length c], cs.v, s.v] w fun e w' => e = .returned (.tuple #[.bool (fitR ws cs s), .int .i64 (fitE ws cs s)]) ∧ Below w.heap.size w w' := by
 obtain ⟨A0, B1, d0, d1, ri, bo⟩ := cs
 obtain ⟨E0, E1, E2, E3, k0, k1, k2, k3, xi, yo, lk, lo⟩ := s
 show Calls _ _ #[.agg #[.slice A ws.length c], .agg #[.slice A0 ri.length d0, .slice B1 bo.length d1], .agg #[.slice E0 xi.length k0, .slice E1 yo.length k1, .slice E2 lk.length k2, .slice E3 lo.length k3]] _ _
 have hb : Below w.heap.size w (((w.alloc (.cells #[.slice A ws.length c] 24)).alloc (.cells #[.slice A0 ri.length d0, .slice B1 bo.length d1] 51)).alloc (.cells #[.slice E0 xi.length k0, .slice E1 yo.length k1, .slice E2 lk.length k2, .slice E3 lo.length k3] 27)) := (((Below.refl _ w).alloc (Nat.le_refl _) _).alloc (by simp) _).alloc (by simp; omega) _
 have K := Lib.hid (((((stays_bl hb).and (stays_blk (blk_alloc (blk_alloc (blk_new w #[.slice A ws.length c] 24 rfl) _) _))).and (stays_blk (g := w.heap.size + 1) (blk_alloc (blk_new (w.alloc (.cells #[.slice A ws.length c] 24)) #[.slice A0 ri.length d0, .slice B1 bo.length d1] 51 (by simp)) _))).and (stays_blk (g := w.heap.size + 1 + 1) (blk_new ((w.alloc (.cells #[.slice A ws.length c] 24)).alloc (.cells #[.slice A0 ri.length d0, .slice B1 bo.length d1] 51)) #[.slice E0 xi.length k0, .slice E1 yo.length k1, .slice E2 lk.length k2, .slice E3 lo.length k3] 27 (by simp)))).and ((stays_wk (h.ext hb)).and ((stays_csd (hc.ext hb)).and (stays_wet (hs.ext hb)))))
 clear hb h hc hs
 have HC := Lib.hid (fun W hW hc => rCheckCase_any A c ws ⟨A0, B1, d0, d1, ri, bo⟩ W hW hc)
 by_cases h0 : ccE ws ⟨A0, B1, d0, d1, ri, bo⟩ = 0
 rotate_left
 ·have e1 : fitE ws ⟨A0, B1, d0, d1, ri, bo⟩ ⟨E0, E1, E2, E3, k0, k1, k2, k3, xi, yo, lk, lo⟩ = ccE ws ⟨A0, B1, d0, d1, ri, bo⟩ := if_neg h0
  have e2 : fitR ws ⟨A0, B1, d0, d1, ri, bo⟩ ⟨E0, E1, E2, E3, k0, k1, k2, k3, xi, yo, lk, lo⟩ = false := if_neg (by rw [e1]; exact h0)
  rw [e1, e2]
  generalize ccE ws ⟨A0, B1, d0, d1, ri, bo⟩ = E at *
  have hz : (E != 0) = true := by simpa using h0
  clear h0 e1 e2
  go_enter Try.func47, Try.ntmps47
  go_upto_region 1 with fail
  generalize ((w.alloc (.cells #[.slice A ws.length c] 24)).alloc (.cells #[.slice A0 ri.length d0, .slice B1 bo.length d1] 51)).alloc (.cells #[.slice E0 xi.length k0, .slice E1 yo.length k1, .slice E2 lk.length k2, .slice E3 lo.length k3] 27) = W0 at *
  have p0 := cr 0 K.out.1.1.1.1.2
  have p1 := cr 0 K.out.1.1.1.2
  have p2 := cr 1 K.out.1.1.1.2
  have p3 := cr 0 K.out.1.1.2
  have p4 := cr 1 K.out.1.1.2
  have p5 := cr 2 K.out.1.1.2
  have p6 := cr 3 K.out.1.1.2
  go_wp2_with (go_at_call 49; refine (HC.out _ K.out.1.2.1 K.out.1.2.2.1).mono ?_; rintro e w1 ⟨rfl, hb⟩; have K1 := Lib.hid (K.out.on hb); clear hb)
  go_ret2
  exact ⟨rfl, K1.out.1.1.1.1.1⟩
 have hg := cc_good h0
 have HW := Lib.hid (fun W hW hs => rWater_good A c ws ⟨E0, E1, E2, E3, k0, k1, k2, k3, xi, yo, lk, lo⟩ W hW hg.1 hs)
 have e1 : fitE ws ⟨A0, B1, d0, d1, ri, bo⟩ ⟨E0, E1, E2, E3, k0, k1, k2, k3, xi, yo, lk, lo⟩ = waterE ws ⟨E0, E1, E2, E3, k0, k1, k2, k3, xi, yo, lk, lo⟩ := if_pos h0
 by_cases h1 : waterE ws ⟨E0, E1, E2, E3, k0, k1, k2, k3, xi, yo, lk, lo⟩ = 0
 rotate_left
 ·have e2 : fitR ws ⟨A0, B1, d0, d1, ri, bo⟩ ⟨E0, E1, E2, E3, k0, k1, k2, k3, xi, yo, lk, lo⟩ = false := if_neg (by rw [e1]; exact h1)
  rw [e1, e2]
  rw [h0] at HC
  generalize waterE ws ⟨E0, E1, E2, E3, k0, k1, k2, k3, xi, yo, lk, lo⟩ = E at *
  have hz : (E != 0) = true := by simpa using h1
  clear h0 e1 e2 h1 hg
  go_enter Try.func47, Try.ntmps47
  go_upto_region 1 with fail
  generalize ((w.alloc (.cells #[.slice A ws.length c] 24)).alloc (.cells #[.slice A0 ri.length d0, .slice B1 bo.length d1] 51)).alloc (.cells #[.slice E0 xi.length k0, .slice E1 yo.length k1, .slice E2 lk.length k2, .slice E3 lo.length k3] 27) = W0 at *
  have p0 := cr 0 K.out.1.1.1.1.2
  have p1 := cr 0 K.out.1.1.1.2
  have p2 := cr 1 K.out.1.1.1.2
  have p3 := cr 0 K.out.1.1.2
  have p4 := cr 1 K.out.1.1.2
  have p5 := cr 2 K.out.1.1.2
  have p6 := cr 3 K.out.1.1.2
  go_upto_region 4 with (go_at_call 49; refine (HC.out _ K.out.1.2.1 K.out.1.2.2.1).mono ?_; rintro e w1 ⟨rfl, hb⟩; have K1 := Lib.hid (K.out.on hb); clear hb)
  clear p0 p1 p2 p3 p4 p5 p6
  have p0 := cr 0 K1.out.1.1.1.1.2
  have p1 := cr 0 K1.out.1.1.1.2
  have p2 := cr 1 K1.out.1.1.1.2
  have p3 := cr 0 K1.out.1.1.2
  have p4 := cr 1 K1.out.1.1.2
  have p5 := cr 2 K1.out.1.1.2
  have p6 := cr 3 K1.out.1.1.2
  go_wp2_with (go_at_call 84; refine (HW.out _ K1.out.1.2.1 K1.out.1.2.2.2).mono ?_; rintro e w2 ⟨rfl, hb⟩; have K2 := Lib.hid (K1.out.on hb); clear hb)
  go_ret2
  exact ⟨rfl, K2.out.1.1.1.1.1⟩
 have ok := water_iff.1 h1
 have e2 : fitR ws ⟨A0, B1, d0, d1, ri, bo⟩ ⟨E0, E1, E2, E3, k0, k1, k2, k3, xi, yo, lk, lo⟩ = fitsB ⟨A0, B1, d0, d1, ri, bo⟩ ⟨E0, E1, E2, E3, k0, k1, k2, k3, xi, yo, lk, lo⟩ := if_pos (by rw [e1]; exact h1)
 rw [e1, e2, h1]
 rw [h0] at HC
 rw [h1] at HW
 have HF := Lib.hid (fun W hc hs => rFits0_any ⟨A0, B1, d0, d1, ri, bo⟩ ⟨E0, E1, E2, E3, k0, k1, k2, k3, xi, yo, lk, lo⟩ W hc hs (ok.l0.trans hg.2.l0.symm) (ok.l1.trans hg.2.l1.symm))
 clear h0 h1 e1 e2 hg ok
 generalize fitsB ⟨A0, B1, d0, d1, ri, bo⟩ ⟨E0, E1, E2, E3, k0, k1, k2, k3, xi, yo, lk, lo⟩ = R at *
 go_enter Try.func47, Try.ntmps47
 go_upto_region 1 with fail
 generalize ((w.alloc (.cells #[.slice A ws.length c] 24)).alloc (.cells #[.slice A0 ri.length d0, .slice B1 bo.length d1] 51)).alloc (.cells #[.slice E0 xi.length k0, .slice E1 yo.length k1, .slice E2 lk.length k2, .slice E3 lo.length k3] 27) = W0 at *
 have p0 := cr 0 K.out.1.1.1.1.2
 have p1 := cr 0 K.out.1.1.1.2
 have p2 := cr 1 K.out.1.1.1.2
 have p3 := cr 0 K.out.1.1.2
 have p4 := cr 1 K.out.1.1.2
 have p5 := cr 2 K.out.1.1.2
 have p6 := cr 3 K.out.1.1.2
 go_upto_region 4 with (go_at_call 49; refine (HC.out _ K.out.1.2.1 K.out.1.2.2.1).mono ?_; rintro e w1 ⟨rfl, hb⟩; have K1 := Lib.hid (K.out.on hb); clear hb)
 clear p0 p1 p2 p3 p4 p5 p6
 have p0 := cr 0 K1.out.1.1.1.1.2
 have p1 := cr 0 K1.out.1.1.1.2
 have p2 := cr 1 K1.out.1.1.1.2
 have p3 := cr 0 K1.out.1.1.2
 have p4 := cr 1 K1.out.1.1.2
 have p5 := cr 2 K1.out.1.1.2
 have p6 := cr 3 K1.out.1.1.2
 go_upto_region 7 with (go_at_call 84; refine (HW.out _ K1.out.1.2.1 K1.out.1.2.2.2).mono ?_; rintro e w2 ⟨rfl, hb⟩; have K2 := Lib.hid (K1.out.on hb); clear hb)
 clear p0 p1 p2 p3 p4 p5 p6
 have p0 := cr 0 K2.out.1.1.1.1.2
 have p1 := cr 0 K2.out.1.1.1.2
 have p2 := cr 1 K2.out.1.1.1.2
 have p3 := cr 0 K2.out.1.1.2
 have p4 := cr 1 K2.out.1.1.2
 have p5 := cr 2 K2.out.1.1.2
 have p6 := cr 3 K2.out.1.1.2
 go_wp2_with (go_at_call 107; refine (HF.out _ K2.out.1.2.2.1 K2.out.1.2.2.2).mono ?_; rintro e w3 ⟨rfl, hb⟩; have K3 := Lib.hid (K2.out.on hb); clear hb)
 go_ret2
 exact ⟨rfl, K3.out.1.1.1.1.1⟩

end Go.Proofs.Ytdadoelajhemjaa
