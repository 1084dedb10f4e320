/- Walks: fits, of the program and of the specification. -/
import Derived.Test.YtdadoelajhemjaaD1
namespace Go.Proofs.Ytdadoelajhemjaa
open Go.RowKit Go.Shelf

theorem within_calls (n lo hi : Int) (w : World) : Calls Try.prog 105 #[.int .i64 n, .int .i64 lo, .int .i64 hi] w fun e w' => e = .returned (.bool (withinB n lo hi)) ∧ Below w.heap.size w w' :=
 (within_any n lo hi w).mono fun _ _ ⟨h, e⟩ => ⟨h, by rw [← e]; exact Below.refl _ _⟩
def fitsB (cs : Cs) (s : Wt) : Bool := ((List.range cs.ri.length).all fun i => withinB (nth s.ri i) (sAt cs.ri i).1 (sAt cs.ri i).2) && ((List.range cs.bo.length).all fun i => withinB (nth s.bo i) (sAt cs.bo i).1 (sAt cs.bo i).2)
theorem fitsB_iff {cs : Cs} {s : Wt} : fitsB cs s = true ↔ (∀ i, i < cs.ri.length → withinB (nth s.ri i) (sAt cs.ri i).1 (sAt cs.ri i).2 = true) ∧ (∀ i, i < cs.bo.length → withinB (nth s.bo i) (sAt cs.bo i).1 (sAt cs.bo i).2 = true) := by
 unfold fitsB
 simp only [Bool.and_eq_true, List.all_eq_true, List.mem_range]
def fitS (g g1 b2 o2 b0 o0 : Nat) (u0 u1 x1 x2 u2 u3 x4 : Value) (k : Nat) (X : World) : Prop := match k with
 | 0 => X.cell? ⟨g, 0, none⟩ = some u0 ∧ X.cell? ⟨g, 1, none⟩ = some u1
 | 1 => X.cell? ⟨b2, o2, none⟩ = some x1
 | 2 => X.cell? ⟨b2, o2 + 1, none⟩ = some x2
 | 3 => X.cell? ⟨g1, 0, none⟩ = some u2 ∧ X.cell? ⟨g1, 1, none⟩ = some u3
 | 4 => X.cell? ⟨b0, o0, none⟩ = some x4
 | _ => True
theorem fitS_on {g g1 b2 o2 b0 o0 : Nat} {u0 u1 x1 x2 u2 u3 x4 : Value} {k : Nat} {X Y : World} (hb : Below X.heap.size X Y) (h : fitS g g1 b2 o2 b0 o0 u0 u1 x1 x2 u2 u3 x4 k X) : fitS g g1 b2 o2 b0 o0 u0 u1 x1 x2 u2 u3 x4 k Y := by
 have c := fun {a : Addr} {u : Value} (e : X.cell? a = some u) => (hb.cell (p := a) (lt_of_cell e)).trans e
 match k, h with
 | 0, h => exact ⟨c h.1, c h.2⟩
 | 1, h => exact c h
 | 2, h => exact c h
 | 3, h => exact ⟨c h.1, c h.2⟩
 | 4, h => exact c h
 | _ + 5, _ => trivial
set_option maxRecDepth 100000 in
set_option maxHeartbeats 3200000 in
theorem fits_any (cs : Cs) (s : Wt) (w : World) (hc : Csd w cs) (hs : Wet w s) (h0 : s.ri.length = cs.ri.length) (h1 : s.bo.length = cs.bo.length) :
  Calls Try.prog 106 #[cs.v, s.v] w fun e w' => e = .returned (.bool (fitsB cs s)) ∧ Below w.heap.size w w' := by
 obtain ⟨A0, B1, d0, d1, ri, bo⟩ := cs
 obtain ⟨E0, E1, E2, E3, k0, k1, k2, k3, xi, yo, lk, lo⟩ := s
 show Calls _ _ #[.agg #[.slice A0 ri.length d0, .slice B1 bo.length d1], .agg #[.slice E0 xi.length k0, .slice E1 yo.length k1, .slice E2 lk.length k2, .slice E3 lo.length k3]] _ _
 have hb : Below w.heap.size w ((w.alloc (.cells #[.slice A0 ri.length d0, .slice B1 bo.length d1] 51)).alloc (.cells #[.slice E0 xi.length k0, .slice E1 yo.length k1, .slice E2 lk.length k2, .slice E3 lo.length k3] 27)) := ((Below.refl _ w).alloc (Nat.le_refl _) _).alloc (by simp) _
 have K := Lib.hid ((((stays_bl hb).and (stays_blk (blk_alloc (blk_new w #[.slice A0 ri.length d0, .slice B1 bo.length d1] 51 rfl) _))).and (stays_blk (g := w.heap.size + 1) (blk_new (w.alloc (.cells #[.slice A0 ri.length d0, .slice B1 bo.length d1] 51)) #[.slice E0 xi.length k0, .slice E1 yo.length k1, .slice E2 lk.length k2, .slice E3 lo.length k3] 27 (by simp)))).and ((stays_csd (hc.ext hb)).and (stays_wet (hs.ext hb))))
 have m0 := hc.m0
 have m1 := hc.m1
 dsimp only at m0 m1 h0 h1
 clear hb hc hs
 obtain ⟨R, hR⟩ : ∃ R, fitsB ⟨A0, B1, d0, d1, ri, bo⟩ ⟨E0, E1, E2, E3, k0, k1, k2, k3, xi, yo, lk, lo⟩ = R := ⟨_, rfl⟩
 have r1 : ∀ i, i < ri.length → withinB (nth xi i) (sAt ri i).1 (sAt ri i).2 = false → R = false := fun i hi hf => Bool.eq_false_iff.2 (fun h => by
  have := (fitsB_iff.1 (hR.trans h)).1 i hi
  rw [show withinB _ _ _ = false from hf] at this
  cases this)
 have r2 : ∀ i, i < bo.length → withinB (nth yo i) (sAt bo i).1 (sAt bo i).2 = false → R = false := fun i hi hf => Bool.eq_false_iff.2 (fun h => by
  have := (fitsB_iff.1 (hR.trans h)).2 i hi
  rw [show withinB _ _ _ = false from hf] at this
  cases this)
 have r3 : (∀ i, i < ri.length → withinB (nth xi i) (sAt ri i).1 (sAt ri i).2 = true) → (∀ i, i < bo.length → withinB (nth yo i) (sAt bo i).1 (sAt bo i).2 = true) → R = true := fun a b => hR.symm.trans (fitsB_iff.2 ⟨a, b⟩)
 have HR := hd3 r1 r2 r3
 clear r1 r2 r3
 have HBL := Lib.hid K.out.1.1.1.1
 rw [hR]
 clear hR
 have HL := hd2 h0 h1
 clear h0 h1
 go_enter Try.func106, Try.ntmps106
 go_upto_region 1 with fail
 generalize (w.alloc (.cells #[.slice A0 ri.length d0, .slice B1 bo.length d1] 51)).alloc (.cells #[.slice E0 xi.length k0, .slice E1 yo.length k1, .slice E2 lk.length k2, .slice E3 lo.length k3] 27) = W0 at *
 have p9 := cr 0 K.out.1.1.2
 go_upto_region 2 with fail
 clear p9
 rw [HL.out.1]
 go_loopg [5, 6, 12] ri.length (fun gg _ _ i wr => ∃ t : Nat, t ≤ ri.length ∧ ri.length - t ≤ gg ∧ i = .int .i64 t ∧ Aside (Below W0.heap.size W0 wr ∧ ∀ j, j < t → withinB (nth xi j) (sAt ri j).1 (sAt ri j).2 = true))
 case atStart => exact ⟨0, Nat.zero_le _, by omega, rfl, Below.refl _ _, fun j hj => absurd hj (Nat.not_lt_zero _)⟩
 case round =>
  obtain ⟨t, hlt0, hgg, rfl, hA⟩ := hrel
  have HA := Lib.hid hA.out
  clear hA
  have L := Lib.hid (K.out.on HA.out.1)
  have p0 := cr 0 L.out.1.1.1.2
  by_cases hlt : t < ri.length
  ·have hltz : (t : Int) < (ri.length : Int) := by omega
   have hltx : (t : Int) < (xi.length : Int) := by rw [HL.out.1]; omega
   have hrs : RdS wr wr.heap.size A0 ri := L.out.1.2.1.r0
   have hrx : Rd wr wr.heap.size E0 xi := L.out.1.2.2.r0
   obtain ⟨b2, o2, rfl, _, hc2⟩ := hrs (by omega)
   obtain ⟨b0, o0, rfl, _, hc0⟩ := hrx (by rw [HL.out.1]; omega)
   have p1 := hc0 t (by rw [HL.out.1]; exact hlt)
   have s0 : fitS w.heap.size (w.heap.size + 1) b2 (o2 + t * 2) b0 (o0 + t) (.slice (some ⟨b2, o2, none⟩) ri.length d0) (.slice B1 bo.length d1) (.int .i64 (sAt ri t).1) (.int .i64 (sAt ri t).2) (.slice (some ⟨b0, o0, none⟩) xi.length k0) (.slice E1 yo.length k1) (.int .i64 (nth xi t)) 0 wr.drew := ⟨cr 0 L.out.1.1.1.2, cr 1 L.out.1.1.1.2⟩
   have s1 : fitS w.heap.size (w.heap.size + 1) b2 (o2 + t * 2) b0 (o0 + t) (.slice (some ⟨b2, o2, none⟩) ri.length d0) (.slice B1 bo.length d1) (.int .i64 (sAt ri t).1) (.int .i64 (sAt ri t).2) (.slice (some ⟨b0, o0, none⟩) xi.length k0) (.slice E1 yo.length k1) (.int .i64 (nth xi t)) 1 wr.drew := (hc2 t hlt).c0
   have s2 : fitS w.heap.size (w.heap.size + 1) b2 (o2 + t * 2) b0 (o0 + t) (.slice (some ⟨b2, o2, none⟩) ri.length d0) (.slice B1 bo.length d1) (.int .i64 (sAt ri t).1) (.int .i64 (sAt ri t).2) (.slice (some ⟨b0, o0, none⟩) xi.length k0) (.slice E1 yo.length k1) (.int .i64 (nth xi t)) 2 wr.drew := (hc2 t hlt).c1
   have s3 : fitS w.heap.size (w.heap.size + 1) b2 (o2 + t * 2) b0 (o0 + t) (.slice (some ⟨b2, o2, none⟩) ri.length d0) (.slice B1 bo.length d1) (.int .i64 (sAt ri t).1) (.int .i64 (sAt ri t).2) (.slice (some ⟨b0, o0, none⟩) xi.length k0) (.slice E1 yo.length k1) (.int .i64 (nth xi t)) 3 wr.drew := ⟨cr 0 L.out.1.1.2, cr 1 L.out.1.1.2⟩
   have s4 : fitS w.heap.size (w.heap.size + 1) b2 (o2 + t * 2) b0 (o0 + t) (.slice (some ⟨b2, o2, none⟩) ri.length d0) (.slice B1 bo.length d1) (.int .i64 (sAt ri t).1) (.int .i64 (sAt ri t).2) (.slice (some ⟨b0, o0, none⟩) xi.length k0) (.slice E1 yo.length k1) (.int .i64 (nth xi t)) 4 wr.drew := p1
   have HB := Lib.hid HA.out.1.drew
   clear hrs hrx hc2 hc0
   obtain ⟨v, hv⟩ : ∃ v, withinB (nth xi t) (sAt ri t).1 (sAt ri t).2 = v := ⟨_, rfl⟩
   have HV := Lib.hid hv
   clear hv
   go_upto_region 4 with fail
   clear p0 p1
   refine wp_region_K (by kernel_rfl) (fitS w.heap.size (w.heap.size + 1) b2 (o2 + t * 2) b0 (o0 + t) (.slice (some ⟨b2, o2, none⟩) ri.length d0) (.slice B1 bo.length d1) (.int .i64 (sAt ri t).1) (.int .i64 (sAt ri t).2) (.slice (some ⟨b0, o0, none⟩) xi.length k0) (.slice E1 yo.length k1) (.int .i64 (nth xi t))) (fun _ _ => true) ?_
   generalize wr.drew = X0 at *
   refine kF 5 0 rfl ?_
   refine kF 5 1 rfl ?_
   refine kT 0 2 rfl ?_
   refine kF 5 3 rfl ?_
   refine kF 5 4 rfl ?_
   refine kF 5 5 rfl ?_
   refine kT 1 6 rfl ?_
   refine kF 5 7 rfl ?_
   refine kT 0 8 rfl ?_
   refine kF 5 9 rfl ?_
   refine kF 5 10 rfl ?_
   refine kF 5 11 rfl ?_
   refine kT 2 12 rfl ?_
   refine kR 13 rfl fun K hK => ?_
   go_simp
   refine (within_calls _ _ _ X0).mono ?_
   rw [HV.out]
   rintro e X1 ⟨rfl, hb⟩
   dsimp only
   refine hK.out _ _ (fun k _ h => fitS_on hb h) ?_
   have HC := Lib.hid (HB.out.trans (hb.mono HB.out.size))
   clear hK hb HB s0 s1 s2 s3 s4 L
   refine kF 5 14 rfl ?_
   refine kD ?_
   cases v with
   | false =>
    obtain rfl := HR.out.1 t hlt HV.out
    go_wp2
    go_ret
    exact ⟨rfl, HBL.out.trans (HC.out.mono HBL.out.size)⟩
   | true =>
    go_wp2
    go_roundg (ri.length - (t + 1))
    case measure => omega
    case rel => exact ⟨t + 1, by omega, by omega, by go_num, (show _ ∧ _ from ⟨HC.out, fun j hj => by
     by_cases e : j = t
     ·subst e; exact HV.out
     ·exact HA.out.2 j (by omega)⟩)⟩
  ·have hltz : ¬ (t : Int) < (ri.length : Int) := by omega
   obtain rfl : t = ri.length := by omega
   have HI := Lib.hid HA.out.2
   have HX := Lib.hid HA.out.1
   have p9 := cr 1 L.out.1.1.2
   go_upto_region 8 with fail
   clear p9 hltz p0 hlt hlt0 hgg HA L
   generalize wr = w5 at *
   go_loopg [7, 8, 36] bo.length (fun gg _ _ i wr => ∃ t : Nat, t ≤ bo.length ∧ bo.length - t ≤ gg ∧ i = .int .i64 t ∧ Aside (Below W0.heap.size W0 wr ∧ ∀ j, j < t → withinB (nth yo j) (sAt bo j).1 (sAt bo j).2 = true))
   case atStart => exact ⟨0, Nat.zero_le _, by omega, rfl, HX.out, fun j hj => absurd hj (Nat.not_lt_zero _)⟩
   case round =>
    obtain ⟨t, hlt0, hgg, rfl, hA⟩ := hrel
    have HA := Lib.hid hA.out
    clear hA
    have L := Lib.hid (K.out.on HA.out.1)
    have p0 := cr 1 L.out.1.1.1.2
    by_cases hlt : t < bo.length
    ·have hltz : (t : Int) < (bo.length : Int) := by omega
     have hltx : (t : Int) < (yo.length : Int) := by rw [HL.out.2]; omega
     have hrs : RdS wr wr.heap.size B1 bo := L.out.1.2.1.r1
     have hrx : Rd wr wr.heap.size E1 yo := L.out.1.2.2.r1
     obtain ⟨b2, o2, rfl, _, hc2⟩ := hrs (by omega)
     obtain ⟨b0, o0, rfl, _, hc0⟩ := hrx (by rw [HL.out.2]; omega)
     have p1 := hc0 t (by rw [HL.out.2]; exact hlt)
     have s0 : fitS w.heap.size (w.heap.size + 1) b2 (o2 + t * 2) b0 (o0 + t) (.slice A0 ri.length d0) (.slice (some ⟨b2, o2, none⟩) bo.length d1) (.int .i64 (sAt bo t).1) (.int .i64 (sAt bo t).2) (.slice E0 xi.length k0) (.slice (some ⟨b0, o0, none⟩) yo.length k1) (.int .i64 (nth yo t)) 0 wr.drew := ⟨cr 0 L.out.1.1.1.2, cr 1 L.out.1.1.1.2⟩
     have s1 : fitS w.heap.size (w.heap.size + 1) b2 (o2 + t * 2) b0 (o0 + t) (.slice A0 ri.length d0) (.slice (some ⟨b2, o2, none⟩) bo.length d1) (.int .i64 (sAt bo t).1) (.int .i64 (sAt bo t).2) (.slice E0 xi.length k0) (.slice (some ⟨b0, o0, none⟩) yo.length k1) (.int .i64 (nth yo t)) 1 wr.drew := (hc2 t hlt).c0
     have s2 : fitS w.heap.size (w.heap.size + 1) b2 (o2 + t * 2) b0 (o0 + t) (.slice A0 ri.length d0) (.slice (some ⟨b2, o2, none⟩) bo.length d1) (.int .i64 (sAt bo t).1) (.int .i64 (sAt bo t).2) (.slice E0 xi.length k0) (.slice (some ⟨b0, o0, none⟩) yo.length k1) (.int .i64 (nth yo t)) 2 wr.drew := (hc2 t hlt).c1
     have s3 : fitS w.heap.size (w.heap.size + 1) b2 (o2 + t * 2) b0 (o0 + t) (.slice A0 ri.length d0) (.slice (some ⟨b2, o2, none⟩) bo.length d1) (.int .i64 (sAt bo t).1) (.int .i64 (sAt bo t).2) (.slice E0 xi.length k0) (.slice (some ⟨b0, o0, none⟩) yo.length k1) (.int .i64 (nth yo t)) 3 wr.drew := ⟨cr 0 L.out.1.1.2, cr 1 L.out.1.1.2⟩
     have s4 : fitS w.heap.size (w.heap.size + 1) b2 (o2 + t * 2) b0 (o0 + t) (.slice A0 ri.length d0) (.slice (some ⟨b2, o2, none⟩) bo.length d1) (.int .i64 (sAt bo t).1) (.int .i64 (sAt bo t).2) (.slice E0 xi.length k0) (.slice (some ⟨b0, o0, none⟩) yo.length k1) (.int .i64 (nth yo t)) 4 wr.drew := p1
     have HB := Lib.hid HA.out.1.drew
     clear hrs hrx hc2 hc0
     obtain ⟨v, hv⟩ : ∃ v, withinB (nth yo t) (sAt bo t).1 (sAt bo t).2 = v := ⟨_, rfl⟩
     have HV := Lib.hid hv
     clear hv
     go_upto_region 10 with fail
     clear p0 p1
     refine wp_region_K (by kernel_rfl) (fitS w.heap.size (w.heap.size + 1) b2 (o2 + t * 2) b0 (o0 + t) (.slice A0 ri.length d0) (.slice (some ⟨b2, o2, none⟩) bo.length d1) (.int .i64 (sAt bo t).1) (.int .i64 (sAt bo t).2) (.slice E0 xi.length k0) (.slice (some ⟨b0, o0, none⟩) yo.length k1) (.int .i64 (nth yo t))) (fun _ _ => true) ?_
     generalize wr.drew = X0 at *
     refine kF 5 0 rfl ?_
     refine kF 5 1 rfl ?_
     refine kT 0 2 rfl ?_
     refine kF 5 3 rfl ?_
     refine kF 5 4 rfl ?_
     refine kF 5 5 rfl ?_
     refine kT 1 6 rfl ?_
     refine kF 5 7 rfl ?_
     refine kT 0 8 rfl ?_
     refine kF 5 9 rfl ?_
     refine kF 5 10 rfl ?_
     refine kF 5 11 rfl ?_
     refine kT 2 12 rfl ?_
     refine kR 13 rfl fun K hK => ?_
     go_simp
     refine (within_calls _ _ _ X0).mono ?_
     rw [HV.out]
     rintro e X1 ⟨rfl, hb⟩
     dsimp only
     refine hK.out _ _ (fun k _ h => fitS_on hb h) ?_
     have HC := Lib.hid (HB.out.trans (hb.mono HB.out.size))
     clear hK hb HB s0 s1 s2 s3 s4 L
     refine kF 5 14 rfl ?_
     refine kD ?_
     cases v with
     | false =>
      obtain rfl := HR.out.2.1 t hlt HV.out
      go_wp2
      go_ret
      exact ⟨rfl, HBL.out.trans (HC.out.mono HBL.out.size)⟩
     | true =>
      go_wp2
      go_roundg (bo.length - (t + 1))
      case measure => omega
      case rel => exact ⟨t + 1, by omega, by omega, by go_num, (show _ ∧ _ from ⟨HC.out, fun j hj => by
       by_cases e : j = t
       ·subst e; exact HV.out
       ·exact HA.out.2 j (by omega)⟩)⟩
    ·have hltz : ¬ (t : Int) < (bo.length : Int) := by omega
     have hltx : ¬ (t : Int) < (yo.length : Int) := by rw [HL.out.2]; omega
     obtain rfl : t = bo.length := by omega
     obtain rfl := HR.out.2.2 HI.out HA.out.2
     go_wp2
     go_ret
     exact ⟨rfl, L.out.1.1.1.1⟩

set_option maxRecDepth 100000 in
set_option maxHeartbeats 3200000 in
theorem rFits0_any (cs : Cs) (s : Wt) (w : World) (hc : Csd w cs) (hs : Wet w s) (h0 : s.ri.length = cs.ri.length) (h1 : s.bo.length = cs.bo.length) :
  Calls Try.prog 107 #[cs.v, s.v] w fun e w' => e = .returned (.bool (fitsB cs s)) ∧ Below w.heap.size w w' := by
 obtain ⟨A0, B1, d0, d1, ri, bo⟩ := cs
 obtain ⟨E0, E1, E2, E3, k0, k1, k2, k3, xi, yo, lk, lo⟩ := s
 show Calls _ _ #[.agg #[.slice A0 ri.length d0, .slice B1 bo.length d1], .agg #[.slice E0 xi.length k0, .slice E1 yo.length k1, .slice E2 lk.length k2, .slice E3 lo.length k3]] _ _
 have hb : Below w.heap.size w ((w.alloc (.cells #[.slice A0 ri.length d0, .slice B1 bo.length d1] 51)).alloc (.cells #[.slice E0 xi.length k0, .slice E1 yo.length k1, .slice E2 lk.length k2, .slice E3 lo.length k3] 27)) := ((Below.refl _ w).alloc (Nat.le_refl _) _).alloc (by simp) _
 have K := Lib.hid ((((stays_bl hb).and (stays_blk (blk_alloc (blk_new w #[.slice A0 ri.length d0, .slice B1 bo.length d1] 51 rfl) _))).and (stays_blk (g := w.heap.size + 1) (blk_new (w.alloc (.cells #[.slice A0 ri.length d0, .slice B1 bo.length d1] 51)) #[.slice E0 xi.length k0, .slice E1 yo.length k1, .slice E2 lk.length k2, .slice E3 lo.length k3] 27 (by simp)))).and ((stays_csd (hc.ext hb)).and (stays_wet (hs.ext hb))))
 have m0 := hc.m0
 have m1 := hc.m1
 dsimp only at m0 m1 h0 h1
 clear hb hc hs
 obtain ⟨R, hR⟩ : ∃ R, fitsB ⟨A0, B1, d0, d1, ri, bo⟩ ⟨E0, E1, E2, E3, k0, k1, k2, k3, xi, yo, lk, lo⟩ = R := ⟨_, rfl⟩
 have r1 : ∀ i, i < ri.length → withinB (nth xi i) (sAt ri i).1 (sAt ri i).2 = false → R = false := fun i hi hf => Bool.eq_false_iff.2 (fun h => by
  have := (fitsB_iff.1 (hR.trans h)).1 i hi
  rw [show withinB _ _ _ = false from hf] at this
  cases this)
 have r2 : ∀ i, i < bo.length → withinB (nth yo i) (sAt bo i).1 (sAt bo i).2 = false → R = false := fun i hi hf => Bool.eq_false_iff.2 (fun h => by
  have := (fitsB_iff.1 (hR.trans h)).2 i hi
  rw [show withinB _ _ _ = false from hf] at this
  cases this)
 have r3 : (∀ i, i < ri.length → withinB (nth xi i) (sAt ri i).1 (sAt ri i).2 = true) → (∀ i, i < bo.length → withinB (nth yo i) (sAt bo i).1 (sAt bo i).2 = true) → R = true := fun a b => hR.symm.trans (fitsB_iff.2 ⟨a, b⟩)
 have HR := hd3 r1 r2 r3
 clear r1 r2 r3
 have HBL := Lib.hid K.out.1.1.1.1
 rw [hR]
 clear hR
 have HL := hd2 h0 h1
 clear h0 h1
 go_enter Try.func107, Try.ntmps107
 go_upto_region 2 with fail
 generalize (w.alloc (.cells #[.slice A0 ri.length d0, .slice B1 bo.length d1] 51)).alloc (.cells #[.slice E0 xi.length k0, .slice E1 yo.length k1, .slice E2 lk.length k2, .slice E3 lo.length k3] 27) = W0 at *
 go_loopg [5, 6] ri.length (fun gg i _ wr => ∃ t : Nat, t ≤ ri.length ∧ ri.length - t ≤ gg ∧ i = .int .i64 t ∧ Aside (Below W0.heap.size W0 wr ∧ ∀ j, j < t → withinB (nth xi j) (sAt ri j).1 (sAt ri j).2 = true))
 case atStart => exact ⟨0, Nat.zero_le _, by omega, rfl, Below.refl _ _, fun j hj => absurd hj (Nat.not_lt_zero _)⟩
 case round =>
  obtain ⟨t, hlt0, hgg, rfl, hA⟩ := hrel
  have HA := Lib.hid hA.out
  clear hA
  have L := Lib.hid (K.out.on HA.out.1)
  have p0 := cr 0 L.out.1.1.1.2
  by_cases hlt : t < ri.length
  ·have hltz : (t : Int) < (ri.length : Int) := by omega
   have hltx : (t : Int) < (xi.length : Int) := by rw [HL.out.1]; omega
   have hrs : RdS wr wr.heap.size A0 ri := L.out.1.2.1.r0
   have hrx : Rd wr wr.heap.size E0 xi := L.out.1.2.2.r0
   obtain ⟨b2, o2, rfl, _, hc2⟩ := hrs (by omega)
   obtain ⟨b0, o0, rfl, _, hc0⟩ := hrx (by rw [HL.out.1]; omega)
   have p1 := hc0 t (by rw [HL.out.1]; exact hlt)
   have s0 : fitS w.heap.size (w.heap.size + 1) b2 (o2 + t * 2) b0 (o0 + t) (.slice (some ⟨b2, o2, none⟩) ri.length d0) (.slice B1 bo.length d1) (.int .i64 (sAt ri t).1) (.int .i64 (sAt ri t).2) (.slice (some ⟨b0, o0, none⟩) xi.length k0) (.slice E1 yo.length k1) (.int .i64 (nth xi t)) 0 wr.drew := ⟨cr 0 L.out.1.1.1.2, cr 1 L.out.1.1.1.2⟩
   have s1 : fitS w.heap.size (w.heap.size + 1) b2 (o2 + t * 2) b0 (o0 + t) (.slice (some ⟨b2, o2, none⟩) ri.length d0) (.slice B1 bo.length d1) (.int .i64 (sAt ri t).1) (.int .i64 (sAt ri t).2) (.slice (some ⟨b0, o0, none⟩) xi.length k0) (.slice E1 yo.length k1) (.int .i64 (nth xi t)) 1 wr.drew := (hc2 t hlt).c0
   have s2 : fitS w.heap.size (w.heap.size + 1) b2 (o2 + t * 2) b0 (o0 + t) (.slice (some ⟨b2, o2, none⟩) ri.length d0) (.slice B1 bo.length d1) (.int .i64 (sAt ri t).1) (.int .i64 (sAt ri t).2) (.slice (some ⟨b0, o0, none⟩) xi.length k0) (.slice E1 yo.length k1) (.int .i64 (nth xi t)) 2 wr.drew := (hc2 t hlt).c1
   have s3 : fitS w.heap.size (w.heap.size + 1) b2 (o2 + t * 2) b0 (o0 + t) (.slice (some ⟨b2, o2, none⟩) ri.length d0) (.slice B1 bo.length d1) (.int .i64 (sAt ri t).1) (.int .i64 (sAt ri t).2) (.slice (some ⟨b0, o0, none⟩) xi.length k0) (.slice E1 yo.length k1) (.int .i64 (nth xi t)) 3 wr.drew := ⟨cr 0 L.out.1.1.2, cr 1 L.out.1.1.2⟩
   have s4 : fitS w.heap.size (w.heap.size + 1) b2 (o2 + t * 2) b0 (o0 + t) (.slice (some ⟨b2, o2, none⟩) ri.length d0) (.slice B1 bo.length d1) (.int .i64 (sAt ri t).1) (.int .i64 (sAt ri t).2) (.slice (some ⟨b0, o0, none⟩) xi.length k0) (.slice E1 yo.length k1) (.int .i64 (nth xi t)) 4 wr.drew := p1
   have HB := Lib.hid HA.out.1.drew
   clear hrs hrx hc2 hc0
   obtain ⟨v, hv⟩ : ∃ v, withinB (nth xi t) (sAt ri t).1 (sAt ri t).2 = v := ⟨_, rfl⟩
   have HV := Lib.hid hv
   clear hv
   go_upto_region 4 with fail
   clear p0 p1
   refine wp_region_K (by kernel_rfl) (fitS w.heap.size (w.heap.size + 1) b2 (o2 + t * 2) b0 (o0 + t) (.slice (some ⟨b2, o2, none⟩) ri.length d0) (.slice B1 bo.length d1) (.int .i64 (sAt ri t).1) (.int .i64 (sAt ri t).2) (.slice (some ⟨b0, o0, none⟩) xi.length k0) (.slice E1 yo.length k1) (.int .i64 (nth xi t))) (fun _ _ => true) ?_
   generalize wr.drew = X0 at *
   refine kF 5 0 rfl ?_
   refine kT 3 1 rfl ?_
   refine kF 5 2 rfl ?_
   refine kF 5 3 rfl ?_
   refine kT 4 4 rfl ?_
   refine kF 5 5 rfl ?_
   refine kT 0 6 rfl ?_
   refine kF 5 7 rfl ?_
   refine kF 5 8 rfl ?_
   refine kF 5 9 rfl ?_
   refine kT 1 10 rfl ?_
   refine kF 5 11 rfl ?_
   refine kT 0 12 rfl ?_
   refine kF 5 13 rfl ?_
   refine kF 5 14 rfl ?_
   refine kF 5 15 rfl ?_
   refine kT 2 16 rfl ?_
   refine kR 17 rfl fun K hK => ?_
   go_simp
   refine (rWithin_any _ _ _ X0).mono ?_
   rw [HV.out]
   rintro e X1 ⟨rfl, hb⟩
   dsimp only
   refine hK.out _ _ (fun k _ h => fitS_on hb h) ?_
   have HC := Lib.hid (HB.out.trans (hb.mono HB.out.size))
   clear hK hb HB s0 s1 s2 s3 s4 L
   refine kF 5 18 rfl ?_
   refine kD ?_
   cases v with
   | false =>
    obtain rfl := HR.out.1 t hlt HV.out
    go_wp2
    go_ret
    exact ⟨rfl, HBL.out.trans (HC.out.mono HBL.out.size)⟩
   | true =>
    go_wp2
    go_roundg (ri.length - (t + 1))
    case measure => omega
    case rel => exact ⟨t + 1, by omega, by omega, by go_num, (show _ ∧ _ from ⟨HC.out, fun j hj => by
     by_cases e : j = t
     ·subst e; exact HV.out
     ·exact HA.out.2 j (by omega)⟩)⟩
  ·have hltz : ¬ (t : Int) < (ri.length : Int) := by omega
   obtain rfl : t = ri.length := by omega
   have HI := Lib.hid HA.out.2
   have HX := Lib.hid HA.out.1
   have p9 := cr 1 L.out.1.1.2
   go_upto_region 8 with fail
   clear p9 hltz p0 hlt hlt0 hgg HA L
   generalize wr = w5 at *
   go_loopg [7, 8] bo.length (fun gg i _ wr => ∃ t : Nat, t ≤ bo.length ∧ bo.length - t ≤ gg ∧ i = .int .i64 t ∧ Aside (Below W0.heap.size W0 wr ∧ ∀ j, j < t → withinB (nth yo j) (sAt bo j).1 (sAt bo j).2 = true))
   case atStart => exact ⟨0, Nat.zero_le _, by omega, rfl, HX.out, fun j hj => absurd hj (Nat.not_lt_zero _)⟩
   case round =>
    obtain ⟨t, hlt0, hgg, rfl, hA⟩ := hrel
    have HA := Lib.hid hA.out
    clear hA
    have L := Lib.hid (K.out.on HA.out.1)
    have p0 := cr 1 L.out.1.1.1.2
    by_cases hlt : t < bo.length
    ·have hltz : (t : Int) < (bo.length : Int) := by omega
     have hltx : (t : Int) < (yo.length : Int) := by rw [HL.out.2]; omega
     have hrs : RdS wr wr.heap.size B1 bo := L.out.1.2.1.r1
     have hrx : Rd wr wr.heap.size E1 yo := L.out.1.2.2.r1
     obtain ⟨b2, o2, rfl, _, hc2⟩ := hrs (by omega)
     obtain ⟨b0, o0, rfl, _, hc0⟩ := hrx (by rw [HL.out.2]; omega)
     have p1 := hc0 t (by rw [HL.out.2]; exact hlt)
     have s0 : fitS w.heap.size (w.heap.size + 1) b2 (o2 + t * 2) b0 (o0 + t) (.slice A0 ri.length d0) (.slice (some ⟨b2, o2, none⟩) bo.length d1) (.int .i64 (sAt bo t).1) (.int .i64 (sAt bo t).2) (.slice E0 xi.length k0) (.slice (some ⟨b0, o0, none⟩) yo.length k1) (.int .i64 (nth yo t)) 0 wr.drew := ⟨cr 0 L.out.1.1.1.2, cr 1 L.out.1.1.1.2⟩
     have s1 : fitS w.heap.size (w.heap.size + 1) b2 (o2 + t * 2) b0 (o0 + t) (.slice A0 ri.length d0) (.slice (some ⟨b2, o2, none⟩) bo.length d1) (.int .i64 (sAt bo t).1) (.int .i64 (sAt bo t).2) (.slice E0 xi.length k0) (.slice (some ⟨b0, o0, none⟩) yo.length k1) (.int .i64 (nth yo t)) 1 wr.drew := (hc2 t hlt).c0
     have s2 : fitS w.heap.size (w.heap.size + 1) b2 (o2 + t * 2) b0 (o0 + t) (.slice A0 ri.length d0) (.slice (some ⟨b2, o2, none⟩) bo.length d1) (.int .i64 (sAt bo t).1) (.int .i64 (sAt bo t).2) (.slice E0 xi.length k0) (.slice (some ⟨b0, o0, none⟩) yo.length k1) (.int .i64 (nth yo t)) 2 wr.drew := (hc2 t hlt).c1
     have s3 : fitS w.heap.size (w.heap.size + 1) b2 (o2 + t * 2) b0 (o0 + t) (.slice A0 ri.length d0) (.slice (some ⟨b2, o2, none⟩) bo.length d1) (.int .i64 (sAt bo t).1) (.int .i64 (sAt bo t).2) (.slice E0 xi.length k0) (.slice (some ⟨b0, o0, none⟩) yo.length k1) (.int .i64 (nth yo t)) 3 wr.drew := ⟨cr 0 L.out.1.1.2, cr 1 L.out.1.1.2⟩
     have s4 : fitS w.heap.size (w.heap.size + 1) b2 (o2 + t * 2) b0 (o0 + t) (.slice A0 ri.length d0) (.slice (some ⟨b2, o2, none⟩) bo.length d1) (.int .i64 (sAt bo t).1) (.int .i64 (sAt bo t).2) (.slice E0 xi.length k0) (.slice (some ⟨b0, o0, none⟩) yo.length k1) (.int .i64 (nth yo t)) 4 wr.drew := p1
     have HB := Lib.hid HA.out.1.drew
     clear hrs hrx hc2 hc0
     obtain ⟨v, hv⟩ : ∃ v, withinB (nth yo t) (sAt bo t).1 (sAt bo t).2 = v := ⟨_, rfl⟩
     have HV := Lib.hid hv
     clear hv
     go_upto_region 10 with fail
     clear p0 p1
     refine wp_region_K (by kernel_rfl) (fitS w.heap.size (w.heap.size + 1) b2 (o2 + t * 2) b0 (o0 + t) (.slice A0 ri.length d0) (.slice (some ⟨b2, o2, none⟩) bo.length d1) (.int .i64 (sAt bo t).1) (.int .i64 (sAt bo t).2) (.slice E0 xi.length k0) (.slice (some ⟨b0, o0, none⟩) yo.length k1) (.int .i64 (nth yo t))) (fun _ _ => true) ?_
     generalize wr.drew = X0 at *
     refine kF 5 0 rfl ?_
     refine kT 3 1 rfl ?_
     refine kF 5 2 rfl ?_
     refine kF 5 3 rfl ?_
     refine kT 4 4 rfl ?_
     refine kF 5 5 rfl ?_
     refine kT 0 6 rfl ?_
     refine kF 5 7 rfl ?_
     refine kF 5 8 rfl ?_
     refine kF 5 9 rfl ?_
     refine kT 1 10 rfl ?_
     refine kF 5 11 rfl ?_
     refine kT 0 12 rfl ?_
     refine kF 5 13 rfl ?_
     refine kF 5 14 rfl ?_
     refine kF 5 15 rfl ?_
     refine kT 2 16 rfl ?_
     refine kR 17 rfl fun K hK => ?_
     go_simp
     refine (rWithin_any _ _ _ X0).mono ?_
     rw [HV.out]
     rintro e X1 ⟨rfl, hb⟩
     dsimp only
     refine hK.out _ _ (fun k _ h => fitS_on hb h) ?_
     have HC := Lib.hid (HB.out.trans (hb.mono HB.out.size))
     clear hK hb HB s0 s1 s2 s3 s4 L
     refine kF 5 18 rfl ?_
     refine kD ?_
     cases v with
     | false =>
      obtain rfl := HR.out.2.1 t hlt HV.out
      go_wp2
      go_ret
      exact ⟨rfl, HBL.out.trans (HC.out.mono HBL.out.size)⟩
     | true =>
      go_wp2
      go_roundg (bo.length - (t + 1))
      case measure => omega
      case rel => exact ⟨t + 1, by omega, by omega, by go_num, (show _ ∧ _ from ⟨HC.out, fun j hj => by
       by_cases e : j = t
       ·subst e; exact HV.out
       ·exact HA.out.2 j (by omega)⟩)⟩
    ·have hltz : ¬ (t : Int) < (bo.length : Int) := by omega
     have hltx : ¬ (t : Int) < (yo.length : Int) := by rw [HL.out.2]; omega
     obtain rfl : t = bo.length := by omega
     obtain rfl := HR.out.2.2 HI.out HA.out.2
     go_wp2
     go_ret
     exact ⟨rfl, L.out.1.1.1.1⟩

end Go.Proofs.Ytdadoelajhemjaa
