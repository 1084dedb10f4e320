/- Walks: Fits, of the program and of the specification; cased of the laws; a case that comes in. -/
import Derived.Test.YtdadoelajhemjaaD2
import Derived.Test.YtdadoelajhemjaaL2
namespace Go.Proofs.Ytdadoelajhemjaa
open Go.ChangeShapes Go.WideShapes Go.ChangeAt Go.RowKit Go.Shelf

def fitE (ws : List Car) (cs : Cs) (s : Wt) : Int := if ccE ws cs = 0 then waterE ws s else ccE ws cs
def fitR (ws : List Car) (cs : Cs) (s : Wt) : Bool := if fitE ws cs s = 0 then fitsB cs s else false
theorem rWater_good (A : Option Addr) (c : Nat) (ws : List Car) (s : Wt) (w : World) (h : Wk w A ws) (_ : Good ws) (hs : Wet w s) :
    Calls Try.prog 84 #[.agg #[.slice A ws.length c], s.v] w fun e w' => e = .returned (.int .i64 (waterE ws s)) ∧ Below w.heap.size w w' := rWater_any A c ws s w h hs
set_option maxRecDepth 100000 in
set_option maxHeartbeats 1600000 in
theorem Fits_any (A : Option Addr) (c : Nat) (ws : List Car) (cs : Cs) (s : Wt) (w : World) (h : Wk w A ws) (hc : Csd w cs) (hs : Wet w s) :
    Calls Try.prog 46 #[.agg #[.slice A ws.length c], cs.v, s.v] w fun e w' => e = .returned (.tuple #[.bool (fitR ws cs s), .int .i64 (fitE ws cs s)]) ∧ Below w.heap.size w w' := by
  obtain ⟨A0, B1, d0, d1, ri, bo⟩ := cs
  obtain ⟨E0, E1, E2, E3, k0, k1, k2, k3, xi, yo, lk, lo⟩ := s
  show Calls _ _ #[.agg #[.slice A ws.length c], .agg #[.slice A0 ri.length d0, .slice B1 bo.length d1], .agg #[.slice E0 xi.length k0, .slice E1 yo.length k1, .slice E2 lk.length k2, .slice E3 lo.length k3]] _ _
  have hb : Below w.heap.size w (((w.alloc (.cells #[.slice A ws.length c] 24)).alloc (.cells #[.slice A0 ri.length d0, .slice B1 bo.length d1] 51)).alloc (.cells #[.slice E0 xi.length k0, .slice E1 yo.length k1, .slice E2 lk.length k2, .slice E3 lo.length k3] 27)) := (((Below.refl _ w).alloc (Nat.le_refl _) _).alloc (by simp) _).alloc (by simp; omega) _
  have K := Lib.hid (((((stays_bl hb).and (stays_blk (blk_alloc (blk_alloc (blk_new w #[.slice A ws.length c] 24 rfl) _) _))).and (stays_blk (g := w.heap.size + 1) (blk_alloc (blk_new (w.alloc (.cells #[.slice A ws.length c] 24)) #[.slice A0 ri.length d0, .slice B1 bo.length d1] 51 (by simp)) _))).and (stays_blk (g := w.heap.size + 1 + 1) (blk_new ((w.alloc (.cells #[.slice A ws.length c] 24)).alloc (.cells #[.slice A0 ri.length d0, .slice B1 bo.length d1] 51)) #[.slice E0 xi.length k0, .slice E1 yo.length k1, .slice E2 lk.length k2, .slice E3 lo.length k3] 27 (by simp)))).and ((stays_wk (h.ext hb)).and ((stays_csd (hc.ext hb)).and (stays_wet (hs.ext hb)))))
  clear hb h hc hs
  have HC := Lib.hid (fun W hW hc => CheckCase_any A c ws ⟨A0, B1, d0, d1, ri, bo⟩ W hW hc)
  by_cases h0 : ccE ws ⟨A0, B1, d0, d1, ri, bo⟩ = 0
  rotate_left
  · have e1 : fitE ws ⟨A0, B1, d0, d1, ri, bo⟩ ⟨E0, E1, E2, E3, k0, k1, k2, k3, xi, yo, lk, lo⟩ = ccE ws ⟨A0, B1, d0, d1, ri, bo⟩ := if_neg h0
    have e2 : fitR ws ⟨A0, B1, d0, d1, ri, bo⟩ ⟨E0, E1, E2, E3, k0, k1, k2, k3, xi, yo, lk, lo⟩ = false := if_neg (by rw [e1]; exact h0)
    rw [e1, e2]
    generalize ccE ws ⟨A0, B1, d0, d1, ri, bo⟩ = E at *
    have hz : (E != 0) = true := by simpa using h0
    clear h0 e1 e2
    go_enter Try.func46, Try.ntmps46
    go_upto_region 1 with fail
    generalize ((w.alloc (.cells #[.slice A ws.length c] 24)).alloc (.cells #[.slice A0 ri.length d0, .slice B1 bo.length d1] 51)).alloc (.cells #[.slice E0 xi.length k0, .slice E1 yo.length k1, .slice E2 lk.length k2, .slice E3 lo.length k3] 27) = W0 at *
    have p0 := cell_row (i := 0) K.out.1.1.1.1.2
    have p1 := cell_row (i := 0) K.out.1.1.1.2
    have p2 := cell_row (i := 1) K.out.1.1.1.2
    have p3 := cell_row (i := 0) K.out.1.1.2
    have p4 := cell_row (i := 1) K.out.1.1.2
    have p5 := cell_row (i := 2) K.out.1.1.2
    have p6 := cell_row (i := 3) K.out.1.1.2
    go_wp2_with (go_at_call 48; refine (HC.out _ K.out.1.2.1 K.out.1.2.2.1).mono ?_; rintro e w1 ⟨rfl, hb⟩; have K1 := Lib.hid (K.out.on hb); clear hb)
    go_ret2
    exact ⟨rfl, K1.out.1.1.1.1.1⟩
  have hg := cc_good h0
  have HW := Lib.hid (fun W hW hs => checkWater_any A c ws ⟨E0, E1, E2, E3, k0, k1, k2, k3, xi, yo, lk, lo⟩ W hW hg.1 hs)
  have e1 : fitE ws ⟨A0, B1, d0, d1, ri, bo⟩ ⟨E0, E1, E2, E3, k0, k1, k2, k3, xi, yo, lk, lo⟩ = waterE ws ⟨E0, E1, E2, E3, k0, k1, k2, k3, xi, yo, lk, lo⟩ := if_pos h0
  by_cases h1 : waterE ws ⟨E0, E1, E2, E3, k0, k1, k2, k3, xi, yo, lk, lo⟩ = 0
  rotate_left
  · have e2 : fitR ws ⟨A0, B1, d0, d1, ri, bo⟩ ⟨E0, E1, E2, E3, k0, k1, k2, k3, xi, yo, lk, lo⟩ = false := if_neg (by rw [e1]; exact h1)
    rw [e1, e2]
    rw [h0] at HC
    generalize waterE ws ⟨E0, E1, E2, E3, k0, k1, k2, k3, xi, yo, lk, lo⟩ = E at *
    have hz : (E != 0) = true := by simpa using h1
    clear h0 e1 e2 h1 hg
    go_enter Try.func46, Try.ntmps46
    go_upto_region 1 with fail
    generalize ((w.alloc (.cells #[.slice A ws.length c] 24)).alloc (.cells #[.slice A0 ri.length d0, .slice B1 bo.length d1] 51)).alloc (.cells #[.slice E0 xi.length k0, .slice E1 yo.length k1, .slice E2 lk.length k2, .slice E3 lo.length k3] 27) = W0 at *
    have p0 := cell_row (i := 0) K.out.1.1.1.1.2
    have p1 := cell_row (i := 0) K.out.1.1.1.2
    have p2 := cell_row (i := 1) K.out.1.1.1.2
    have p3 := cell_row (i := 0) K.out.1.1.2
    have p4 := cell_row (i := 1) K.out.1.1.2
    have p5 := cell_row (i := 2) K.out.1.1.2
    have p6 := cell_row (i := 3) K.out.1.1.2
    go_upto_region 4 with (go_at_call 48; refine (HC.out _ K.out.1.2.1 K.out.1.2.2.1).mono ?_; rintro e w1 ⟨rfl, hb⟩; have K1 := Lib.hid (K.out.on hb); clear hb)
    clear p0 p1 p2 p3 p4 p5 p6
    have p0 := cell_row (i := 0) K1.out.1.1.1.1.2
    have p1 := cell_row (i := 0) K1.out.1.1.1.2
    have p2 := cell_row (i := 1) K1.out.1.1.1.2
    have p3 := cell_row (i := 0) K1.out.1.1.2
    have p4 := cell_row (i := 1) K1.out.1.1.2
    have p5 := cell_row (i := 2) K1.out.1.1.2
    have p6 := cell_row (i := 3) K1.out.1.1.2
    go_wp2_with (go_at_call 83; refine (HW.out _ K1.out.1.2.1 K1.out.1.2.2.2).mono ?_; rintro e w2 ⟨rfl, hb⟩; have K2 := Lib.hid (K1.out.on hb); clear hb)
    go_ret2
    exact ⟨rfl, K2.out.1.1.1.1.1⟩
  have ok := water_iff.1 h1
  have e2 : fitR ws ⟨A0, B1, d0, d1, ri, bo⟩ ⟨E0, E1, E2, E3, k0, k1, k2, k3, xi, yo, lk, lo⟩ = fitsB ⟨A0, B1, d0, d1, ri, bo⟩ ⟨E0, E1, E2, E3, k0, k1, k2, k3, xi, yo, lk, lo⟩ := if_pos (by rw [e1]; exact h1)
  rw [e1, e2, h1]
  rw [h0] at HC
  rw [h1] at HW
  have HF := Lib.hid (fun W hc hs => fits_any ⟨A0, B1, d0, d1, ri, bo⟩ ⟨E0, E1, E2, E3, k0, k1, k2, k3, xi, yo, lk, lo⟩ W hc hs (ok.l0.trans hg.2.l0.symm) (ok.l1.trans hg.2.l1.symm))
  clear h0 h1 e1 e2 hg ok
  generalize fitsB ⟨A0, B1, d0, d1, ri, bo⟩ ⟨E0, E1, E2, E3, k0, k1, k2, k3, xi, yo, lk, lo⟩ = R at *
  go_enter Try.func46, Try.ntmps46
  go_upto_region 1 with fail
  generalize ((w.alloc (.cells #[.slice A ws.length c] 24)).alloc (.cells #[.slice A0 ri.length d0, .slice B1 bo.length d1] 51)).alloc (.cells #[.slice E0 xi.length k0, .slice E1 yo.length k1, .slice E2 lk.length k2, .slice E3 lo.length k3] 27) = W0 at *
  have p0 := cell_row (i := 0) K.out.1.1.1.1.2
  have p1 := cell_row (i := 0) K.out.1.1.1.2
  have p2 := cell_row (i := 1) K.out.1.1.1.2
  have p3 := cell_row (i := 0) K.out.1.1.2
  have p4 := cell_row (i := 1) K.out.1.1.2
  have p5 := cell_row (i := 2) K.out.1.1.2
  have p6 := cell_row (i := 3) K.out.1.1.2
  go_upto_region 4 with (go_at_call 48; refine (HC.out _ K.out.1.2.1 K.out.1.2.2.1).mono ?_; rintro e w1 ⟨rfl, hb⟩; have K1 := Lib.hid (K.out.on hb); clear hb)
  clear p0 p1 p2 p3 p4 p5 p6
  have p0 := cell_row (i := 0) K1.out.1.1.1.1.2
  have p1 := cell_row (i := 0) K1.out.1.1.1.2
  have p2 := cell_row (i := 1) K1.out.1.1.1.2
  have p3 := cell_row (i := 0) K1.out.1.1.2
  have p4 := cell_row (i := 1) K1.out.1.1.2
  have p5 := cell_row (i := 2) K1.out.1.1.2
  have p6 := cell_row (i := 3) K1.out.1.1.2
  go_upto_region 7 with (go_at_call 83; refine (HW.out _ K1.out.1.2.1 K1.out.1.2.2.2).mono ?_; rintro e w2 ⟨rfl, hb⟩; have K2 := Lib.hid (K1.out.on hb); clear hb)
  clear p0 p1 p2 p3 p4 p5 p6
  have p0 := cell_row (i := 0) K2.out.1.1.1.1.2
  have p1 := cell_row (i := 0) K2.out.1.1.1.2
  have p2 := cell_row (i := 1) K2.out.1.1.1.2
  have p3 := cell_row (i := 0) K2.out.1.1.2
  have p4 := cell_row (i := 1) K2.out.1.1.2
  have p5 := cell_row (i := 2) K2.out.1.1.2
  have p6 := cell_row (i := 3) K2.out.1.1.2
  go_wp2_with (go_at_call 106; refine (HF.out _ K2.out.1.2.2.1 K2.out.1.2.2.2).mono ?_; rintro e w3 ⟨rfl, hb⟩; have K3 := Lib.hid (K2.out.on hb); clear hb)
  go_ret2
  exact ⟨rfl, K3.out.1.1.1.1.1⟩
set_option maxRecDepth 100000 in
set_option maxHeartbeats 1600000 in
theorem rFits_any (A : Option Addr) (c : Nat) (ws : List Car) (cs : Cs) (s : Wt) (w : World) (h : Wk w A ws) (hc : Csd w cs) (hs : Wet w s) :
    Calls Try.prog 47 #[.agg #[.slice A ws.length c], cs.v, s.v] w fun e w' => e = .returned (.tuple #[.bool (fitR ws cs s), .int .i64 (fitE ws cs s)]) ∧ Below w.heap.size w w' := by
  obtain ⟨A0, B1, d0, d1, ri, bo⟩ := cs
  obtain ⟨E0, E1, E2, E3, k0, k1, k2, k3, xi, yo, lk, lo⟩ := s
  show Calls _ _ #[.agg #[.slice A ws.length c], .agg #[.slice A0 ri.length d0, .slice B1 bo.length d1], .agg #[.slice E0 xi.length k0, .slice E1 yo.length k1, .slice E2 lk.length k2, .slice E3 lo.length k3]] _ _
  have hb : Below w.heap.size w (((w.alloc (.cells #[.slice A ws.length c] 24)).alloc (.cells #[.slice A0 ri.length d0, .slice B1 bo.length d1] 51)).alloc (.cells #[.slice E0 xi.length k0, .slice E1 yo.length k1, .slice E2 lk.length k2, .slice E3 lo.length k3] 27)) := (((Below.refl _ w).alloc (Nat.le_refl _) _).alloc (by simp) _).alloc (by simp; omega) _
  have K := Lib.hid (((((stays_bl hb).and (stays_blk (blk_alloc (blk_alloc (blk_new w #[.slice A ws.length c] 24 rfl) _) _))).and (stays_blk (g := w.heap.size + 1) (blk_alloc (blk_new (w.alloc (.cells #[.slice A ws.length c] 24)) #[.slice A0 ri.length d0, .slice B1 bo.length d1] 51 (by simp)) _))).and (stays_blk (g := w.heap.size + 1 + 1) (blk_new ((w.alloc (.cells #[.slice A ws.length c] 24)).alloc (.cells #[.slice A0 ri.length d0, .slice B1 bo.length d1] 51)) #[.slice E0 xi.length k0, .slice E1 yo.length k1, .slice E2 lk.length k2, .slice E3 lo.length k3] 27 (by simp)))).and ((stays_wk (h.ext hb)).and ((stays_csd (hc.ext hb)).and (stays_wet (hs.ext hb)))))
  clear hb h hc hs
  have HC := Lib.hid (fun W hW hc => rCheckCase_any A c ws ⟨A0, B1, d0, d1, ri, bo⟩ W hW hc)
  by_cases h0 : ccE ws ⟨A0, B1, d0, d1, ri, bo⟩ = 0
  rotate_left
  · have e1 : fitE ws ⟨A0, B1, d0, d1, ri, bo⟩ ⟨E0, E1, E2, E3, k0, k1, k2, k3, xi, yo, lk, lo⟩ = ccE ws ⟨A0, B1, d0, d1, ri, bo⟩ := if_neg h0
    have e2 : fitR ws ⟨A0, B1, d0, d1, ri, bo⟩ ⟨E0, E1, E2, E3, k0, k1, k2, k3, xi, yo, lk, lo⟩ = false := if_neg (by rw [e1]; exact h0)
    rw [e1, e2]
    generalize ccE ws ⟨A0, B1, d0, d1, ri, bo⟩ = E at *
    have hz : (E != 0) = true := by simpa using h0
    clear h0 e1 e2
    go_enter Try.func47, Try.ntmps47
    go_upto_region 1 with fail
    generalize ((w.alloc (.cells #[.slice A ws.length c] 24)).alloc (.cells #[.slice A0 ri.length d0, .slice B1 bo.length d1] 51)).alloc (.cells #[.slice E0 xi.length k0, .slice E1 yo.length k1, .slice E2 lk.length k2, .slice E3 lo.length k3] 27) = W0 at *
    have p0 := cell_row (i := 0) K.out.1.1.1.1.2
    have p1 := cell_row (i := 0) K.out.1.1.1.2
    have p2 := cell_row (i := 1) K.out.1.1.1.2
    have p3 := cell_row (i := 0) K.out.1.1.2
    have p4 := cell_row (i := 1) K.out.1.1.2
    have p5 := cell_row (i := 2) K.out.1.1.2
    have p6 := cell_row (i := 3) K.out.1.1.2
    go_wp2_with (go_at_call 49; refine (HC.out _ K.out.1.2.1 K.out.1.2.2.1).mono ?_; rintro e w1 ⟨rfl, hb⟩; have K1 := Lib.hid (K.out.on hb); clear hb)
    go_ret2
    exact ⟨rfl, K1.out.1.1.1.1.1⟩
  have hg := cc_good h0
  have HW := Lib.hid (fun W hW hs => rWater_good A c ws ⟨E0, E1, E2, E3, k0, k1, k2, k3, xi, yo, lk, lo⟩ W hW hg.1 hs)
  have e1 : fitE ws ⟨A0, B1, d0, d1, ri, bo⟩ ⟨E0, E1, E2, E3, k0, k1, k2, k3, xi, yo, lk, lo⟩ = waterE ws ⟨E0, E1, E2, E3, k0, k1, k2, k3, xi, yo, lk, lo⟩ := if_pos h0
  by_cases h1 : waterE ws ⟨E0, E1, E2, E3, k0, k1, k2, k3, xi, yo, lk, lo⟩ = 0
  rotate_left
  · have e2 : fitR ws ⟨A0, B1, d0, d1, ri, bo⟩ ⟨E0, E1, E2, E3, k0, k1, k2, k3, xi, yo, lk, lo⟩ = false := if_neg (by rw [e1]; exact h1)
    rw [e1, e2]
    rw [h0] at HC
    generalize waterE ws ⟨E0, E1, E2, E3, k0, k1, k2, k3, xi, yo, lk, lo⟩ = E at *
    have hz : (E != 0) = true := by simpa using h1
    clear h0 e1 e2 h1 hg
    go_enter Try.func47, Try.ntmps47
    go_upto_region 1 with fail
    generalize ((w.alloc (.cells #[.slice A ws.length c] 24)).alloc (.cells #[.slice A0 ri.length d0, .slice B1 bo.length d1] 51)).alloc (.cells #[.slice E0 xi.length k0, .slice E1 yo.length k1, .slice E2 lk.length k2, .slice E3 lo.length k3] 27) = W0 at *
    have p0 := cell_row (i := 0) K.out.1.1.1.1.2
    have p1 := cell_row (i := 0) K.out.1.1.1.2
    have p2 := cell_row (i := 1) K.out.1.1.1.2
    have p3 := cell_row (i := 0) K.out.1.1.2
    have p4 := cell_row (i := 1) K.out.1.1.2
    have p5 := cell_row (i := 2) K.out.1.1.2
    have p6 := cell_row (i := 3) K.out.1.1.2
    go_upto_region 4 with (go_at_call 49; refine (HC.out _ K.out.1.2.1 K.out.1.2.2.1).mono ?_; rintro e w1 ⟨rfl, hb⟩; have K1 := Lib.hid (K.out.on hb); clear hb)
    clear p0 p1 p2 p3 p4 p5 p6
    have p0 := cell_row (i := 0) K1.out.1.1.1.1.2
    have p1 := cell_row (i := 0) K1.out.1.1.1.2
    have p2 := cell_row (i := 1) K1.out.1.1.1.2
    have p3 := cell_row (i := 0) K1.out.1.1.2
    have p4 := cell_row (i := 1) K1.out.1.1.2
    have p5 := cell_row (i := 2) K1.out.1.1.2
    have p6 := cell_row (i := 3) K1.out.1.1.2
    go_wp2_with (go_at_call 84; refine (HW.out _ K1.out.1.2.1 K1.out.1.2.2.2).mono ?_; rintro e w2 ⟨rfl, hb⟩; have K2 := Lib.hid (K1.out.on hb); clear hb)
    go_ret2
    exact ⟨rfl, K2.out.1.1.1.1.1⟩
  have ok := water_iff.1 h1
  have e2 : fitR ws ⟨A0, B1, d0, d1, ri, bo⟩ ⟨E0, E1, E2, E3, k0, k1, k2, k3, xi, yo, lk, lo⟩ = fitsB ⟨A0, B1, d0, d1, ri, bo⟩ ⟨E0, E1, E2, E3, k0, k1, k2, k3, xi, yo, lk, lo⟩ := if_pos (by rw [e1]; exact h1)
  rw [e1, e2, h1]
  rw [h0] at HC
  rw [h1] at HW
  have HF := Lib.hid (fun W hc hs => rFits0_any ⟨A0, B1, d0, d1, ri, bo⟩ ⟨E0, E1, E2, E3, k0, k1, k2, k3, xi, yo, lk, lo⟩ W hc hs (ok.l0.trans hg.2.l0.symm) (ok.l1.trans hg.2.l1.symm))
  clear h0 h1 e1 e2 hg ok
  generalize fitsB ⟨A0, B1, d0, d1, ri, bo⟩ ⟨E0, E1, E2, E3, k0, k1, k2, k3, xi, yo, lk, lo⟩ = R at *
  go_enter Try.func47, Try.ntmps47
  go_upto_region 1 with fail
  generalize ((w.alloc (.cells #[.slice A ws.length c] 24)).alloc (.cells #[.slice A0 ri.length d0, .slice B1 bo.length d1] 51)).alloc (.cells #[.slice E0 xi.length k0, .slice E1 yo.length k1, .slice E2 lk.length k2, .slice E3 lo.length k3] 27) = W0 at *
  have p0 := cell_row (i := 0) K.out.1.1.1.1.2
  have p1 := cell_row (i := 0) K.out.1.1.1.2
  have p2 := cell_row (i := 1) K.out.1.1.1.2
  have p3 := cell_row (i := 0) K.out.1.1.2
  have p4 := cell_row (i := 1) K.out.1.1.2
  have p5 := cell_row (i := 2) K.out.1.1.2
  have p6 := cell_row (i := 3) K.out.1.1.2
  go_upto_region 4 with (go_at_call 49; refine (HC.out _ K.out.1.2.1 K.out.1.2.2.1).mono ?_; rintro e w1 ⟨rfl, hb⟩; have K1 := Lib.hid (K.out.on hb); clear hb)
  clear p0 p1 p2 p3 p4 p5 p6
  have p0 := cell_row (i := 0) K1.out.1.1.1.1.2
  have p1 := cell_row (i := 0) K1.out.1.1.1.2
  have p2 := cell_row (i := 1) K1.out.1.1.1.2
  have p3 := cell_row (i := 0) K1.out.1.1.2
  have p4 := cell_row (i := 1) K1.out.1.1.2
  have p5 := cell_row (i := 2) K1.out.1.1.2
  have p6 := cell_row (i := 3) K1.out.1.1.2
  go_upto_region 7 with (go_at_call 84; refine (HW.out _ K1.out.1.2.1 K1.out.1.2.2.2).mono ?_; rintro e w2 ⟨rfl, hb⟩; have K2 := Lib.hid (K1.out.on hb); clear hb)
  clear p0 p1 p2 p3 p4 p5 p6
  have p0 := cell_row (i := 0) K2.out.1.1.1.1.2
  have p1 := cell_row (i := 0) K2.out.1.1.1.2
  have p2 := cell_row (i := 1) K2.out.1.1.1.2
  have p3 := cell_row (i := 0) K2.out.1.1.2
  have p4 := cell_row (i := 1) K2.out.1.1.2
  have p5 := cell_row (i := 2) K2.out.1.1.2
  have p6 := cell_row (i := 3) K2.out.1.1.2
  go_wp2_with (go_at_call 107; refine (HF.out _ K2.out.1.2.2.1 K2.out.1.2.2.2).mono ?_; rintro e w3 ⟨rfl, hb⟩; have K3 := Lib.hid (K2.out.on hb); clear hb)
  go_ret2
  exact ⟨rfl, K3.out.1.1.1.1.1⟩

/-- What is known of a case that comes into a law. -/
structure CsIn (w : World) (s : Cs) : Prop where
  r0 : RdS w w.heap.size s.A0 s.ri
  r1 : RdS w w.heap.size s.A1 s.bo
  m0 : s.ri.length ≤ maxLen
  m1 : s.bo.length ≤ maxLen
theorem CsIn.ext {w w' : World} {s : Cs} (h : CsIn w s) (hb : Below w.heap.size w w') : CsIn w' s := ⟨h.r0.ext hb, h.r1.ext hb, h.m0, h.m1⟩
theorem stays_csIn {W : World} {s : Cs} (h : CsIn W s) : Stays (fun X => CsIn X s) W := ⟨h, fun _ _ a b => a.ext b⟩
def casedB (s : Cs) : Bool := decide (s.ri.length ≤ 100) && decide (s.bo.length ≤ 100)
theorem casedB_ok {s : Cs} {w : World} (h : CsIn w s) (hb : casedB s = true) : Csd w s := by
  unfold casedB at hb
  simp only [Bool.and_eq_true, decide_eq_true_eq] at hb
  exact ⟨h.r0, h.r1, by omega, by omega⟩
set_option maxRecDepth 100000 in
set_option maxHeartbeats 1600000 in
theorem cased_any (s : Cs) (w : World) (h : CsIn w s) :
    Calls Try.prog 30 #[s.v] w fun e w' => e = .returned (.bool (casedB s)) ∧ Below w.heap.size w w' := by
  obtain ⟨A0, A1, c0, c1, ri, bo⟩ := s
  obtain ⟨r0, r1, m0, m1⟩ := h
  have hR : casedB ⟨A0, A1, c0, c1, ri, bo⟩ = (decide (ri.length ≤ 100) && decide (bo.length ≤ 100)) := rfl
  rw [hR]
  clear hR r0 r1 m0 m1
  show Calls _ _ #[.agg #[.slice A0 ri.length c0, .slice A1 bo.length c1]] _ _
  have g0 := wetCases ri.length
  have g1 := wetCases bo.length
  generalize decide (ri.length ≤ 100) = b0 at *
  generalize decide (bo.length ≤ 100) = b1 at *
  have hb0 : Below w.heap.size w (w.alloc (.cells #[.slice A0 ri.length c0, .slice A1 bo.length c1] 51)) := (Below.refl _ w).alloc (Nat.le_refl _) _
  have q0 : Blk (w.alloc (.cells #[.slice A0 ri.length c0, .slice A1 bo.length c1] 51)) w.heap.size #[.slice A0 ri.length c0, .slice A1 bo.length c1] 51 := blk_new _ _ _ rfl
  go_enter Try.func30, Try.ntmps30
  go_upto_region 1 with fail
  have HB := Lib.hid hb0
  have p0 := cell_row (i := 0) q0
  have p1 := cell_row (i := 1) q0
  clear hb0 q0
  generalize w.alloc (.cells #[.slice A0 ri.length c0, .slice A1 bo.length c1] 51) = w1 at *
  rcases g0 with ⟨d0, rfl⟩ | ⟨d0, rfl⟩
  rcases g1 with ⟨d1, rfl⟩ | ⟨d1, rfl⟩
  all_goals (go_wp2; go_ret; exact ⟨rfl, HB.out⟩)

theorem cells_ls : Try.prog.cellsOf 49 = 1 := by kernel_rfl
theorem cells_cs : Try.prog.cellsOf 51 = 2 := by kernel_rfl
section
variable {H : Type} {enc : TypeId × Value → H} {w : World} {sp : Nat → Bool} {held : Bool}
set_option maxRecDepth 100000 in
theorem open_spans {fuel : Nat} {c : Value} {y : DataW H × List MemPlace} (h : DataW.trod enc Try.prog w 0 sp held fuel 49 [c] = some y) :
    ∃ (A : Option Addr) (k : Nat) (l : List Sp), c = .slice A l.length k ∧ RdS w w.heap.size A l ∧ l.length ≤ maxLen := by
  rcases Go.Deep.open_slice Try.underlying49 h with ⟨hcs, _⟩ | ⟨a, l, k, m, n', D, Pl, hcs, _, hl, hm, hmm, hy, hi⟩
  · obtain rfl : c = .slice none 0 0 := by simpa using hcs
    exact ⟨none, 0, [], rfl, fun h0 => absurd h0 (by simp), Nat.zero_le _⟩
  · obtain rfl : c = .slice (some a) l k := by simpa using hcs
    have hnm : l ≤ m := by rw [hmm]; split <;> omega
    obtain ⟨b, off, s⟩ := a
    rcases Nat.eq_zero_or_pos l with rfl | hpos
    · exact ⟨_, k, [], rfl, fun h0 => absurd h0 (by simp), Nat.zero_le _⟩
    have one : ∀ i, i < l → ∃ x : Sp, w.cell? (Addr.add ⟨b, off, s⟩ (i * 2)) = some (.int .i64 x.1) ∧ w.cell? (Addr.add (Addr.add ⟨b, off, s⟩ (i * 2)) 1) = some (.int .i64 x.2) := fun i hin => by
      obtain ⟨cs', hc, ht⟩ := hi i (by omega)
      rw [cells_sp] at hc
      obtain ⟨_, hlen, hat⟩ := World.cells?_some hc
      obtain ⟨a, b', rfl⟩ := list2 hlen
      obtain ⟨lo, hi', rfl, rfl⟩ := open_span ht
      have a0 := hat 0 (by decide)
      have a1 := hat 1 (by decide)
      exact ⟨(lo, hi'), by simpa [Addr.add] using a0, by simpa using a1⟩
    have hs : s = none := by
      obtain ⟨x, h1, _⟩ := one 0 hpos
      have a0 := World.cell?_spot h1
      simpa [Addr.add] using a0
    subst hs
    have each : ∀ i, i < l → ∃ x : Sp, b < w.heap.size ∧ SpAt w b (off + i * 2) x := fun i hin => by
      obtain ⟨x, h1, h2⟩ := one i hin
      have lt := lt_of_cell h1
      rw [add_eq] at h1 h2 lt
      rw [add_eq] at h2
      exact ⟨x, lt, h1, h2⟩
    obtain ⟨ls, hlen, hP⟩ := list_of ((0, 0) : Sp) _ l each
    refine ⟨some ⟨b, off, none⟩, k, ls, by rw [hlen], fun h0 => ?_, by omega⟩
    obtain ⟨lb, _⟩ := hP 0 (by omega)
    exact ⟨b, off, rfl, lb, fun i hi => (hP i (by omega)).2⟩
set_option maxRecDepth 100000 in
theorem open_case {r : Reach} {b0 : Nat} {v : Value} {d : DataW H} {p : List MemPlace} (hv : Value.okWide Try.prog w r b0 51 v) (h : DataW.Trod enc Try.prog w 0 sp held 51 v d p) :
    ∃ s : Cs, v = s.v ∧ CsIn w s := by
  obtain ⟨cs, rfl, hsz⟩ := okWide_struct Try.underlying51 hv
  obtain ⟨l⟩ := cs
  obtain ⟨a, b, rfl⟩ := list2 (hsz.trans cells_cs)
  obtain ⟨fuel, hf⟩ := h
  have hf' : DataW.trod enc Try.prog w 0 sp held fuel 51 [a, b] = some (d, p) := hf
  obtain ⟨y0, y1, n, _, _, g0, g1⟩ := trod_struct2 Try.underlying51 hf'
  have k0 : DataW.trod enc Try.prog w 0 sp held n 49 [a] = some y0 := by simpa [cells_ls] using g0
  have k1 : DataW.trod enc Try.prog w 0 sp held n 49 [b] = some y1 := by simpa [cells_ls] using g1
  obtain ⟨A0, c0, x0, rfl, r0, m0⟩ := open_spans k0
  obtain ⟨A1, c1, x1, rfl, r1, m1⟩ := open_spans k1
  exact ⟨⟨A0, A1, c0, c1, x0, x1⟩, rfl, r0, r1, m0, m1⟩
end
end Go.Proofs.Ytdadoelajhemjaa
