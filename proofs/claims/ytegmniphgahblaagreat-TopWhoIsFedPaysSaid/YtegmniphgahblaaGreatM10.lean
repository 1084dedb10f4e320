/- Walks: fits, of the program and of the specification. | Plain: water that is right; the flow stands between the ends of its case; what comes in goes on with the world. | Walks: cased of the laws; a case that comes in. | Walks: Fits, of the program and of the specification; cased of the laws; a case that comes in. | Walks: the examples of the laws: Meadow, Now, Known. | Walks: the examples of the laws: Now, Known. -/
import Derived.Test.YtegmniphgahblaaGreatM9
import Derived.Test.YtegmniphgahblaaGreatM7
namespace Go.Proofs.YtegmniphgahblaaGreat
open Go.RowKit Go.Shelf

theorem within_calls (n lo hi : Int) (w : World) : Calls Tryz.prog 36 #[.int .i64 n, .int .i64 lo, .int .i64 hi] w fun e w' => e = .returned (.bool (withinB n lo hi)) ∧ Below w.heap.size w w' :=
 (within_any n lo hi w).mono fun _ _ ⟨h, e⟩ => ⟨h, by rw [← e]; exact Below.refl _ _⟩
def fitsB (cs : Cs) (s : Wt) : Bool := ((List.range cs.ri.length).all fun i => withinB (nth s.ri i) (sAt cs.ri i).1 (sAt cs.ri i).2) && ((List.range cs.bo.length).all fun i => withinB (nth s.bo i) (sAt cs.bo i).1 (sAt cs.bo i).2)
theorem fitsB_iff {cs : Cs} {s : Wt} : fitsB cs s = true ↔ (∀ i, i < cs.ri.length → withinB (nth s.ri i) (sAt cs.ri i).1 (sAt cs.ri i).2 = true) ∧ (∀ i, i < cs.bo.length → withinB (nth s.bo i) (sAt cs.bo i).1 (sAt cs.bo i).2 = true) := by
 unfold fitsB
 simp only [Bool.and_eq_true, List.all_eq_true, List.mem_range]
def fitS (g g1 b2 o2 b0 o0 : Nat) (u0 u1 x1 x2 u2 u3 x4 : Value) (k : Nat) (X : World) : Prop := match k with
 | 0 => X.cell? ⟨g, 0, none⟩ = some u0 ∧ X.cell? ⟨g, 1, none⟩ = some u1
 | 1 => X.cell? ⟨b2, o2, none⟩ = some x1
 | 2 => X.cell? ⟨b2, o2 + 1, none⟩ = some x2
 | 3 => X.cell? ⟨g1, 0, none⟩ = some u2 ∧ X.cell? ⟨g1, 1, none⟩ = some u3
 | 4 => X.cell? ⟨b0, o0, none⟩ = some x4
 | _ => True
theorem fitS_on {g g1 b2 o2 b0 o0 : Nat} {u0 u1 x1 x2 u2 u3 x4 : Value} {k : Nat} {X Y : World} (hb : Below X.heap.size X Y) (h : fitS g g1 b2 o2 b0 o0 u0 u1 x1 x2 u2 u3 x4 k X) : fitS g g1 b2 o2 b0 o0 u0 u1 x1 x2 u2 u3 x4 k Y := by
 have c := fun {a : Addr} {u : Value} (e : X.cell? a = some u) => (hb.cell (p := a) (lt_of_cell e)).trans e
 match k, h with
 | 0, h => exact ⟨c h.1, c h.2⟩
 | 1, h => exact c h
 | 2, h => exact c h
 | 3, h => exact ⟨c h.1, c h.2⟩
 | 4, h => exact c h
 | _ + 5, _ => trivial
set_option maxRecDepth 100000 in
set_option maxHeartbeats 3200000 in
theorem fits_any (cs : Cs) (s : Wt) (w : World) (hc : Csd w cs) (hs : Wet w s) (h0 : s.ri.length = cs.ri.length) (h1 : s.bo.length = cs.bo.length) :
  Calls Tryz.prog 15 #[cs.v, s.v] w fun e w' => e = .returned (.bool (fitsB cs s)) ∧ Below w.heap.size w w' := by
 obtain ⟨A0, B1, d0, d1, ri, bo⟩ := cs
 obtain ⟨E0, E1, E2, E3, k0, k1, k2, k3, xi, yo, lk, lo⟩ := s
 show Calls _ _ #[.agg #[.slice A0 ri.length d0, .slice B1 bo.length d1], .agg #[.slice E0 xi.length k0, .slice E1 yo.length k1, .slice E2 lk.length k2, .slice E3 lo.length k3]] _ _
 have hb : Below w.heap.size w ((w.alloc (.cells #[.slice A0 ri.length d0, .slice B1 bo.length d1] 27)).alloc (.cells #[.slice E0 xi.length k0, .slice E1 yo.length k1, .slice E2 lk.length k2, .slice E3 lo.length k3] 30)) := ((Below.refl _ w).alloc (Nat.le_refl _) _).alloc (by simp) _
 have K := Lib.hid ((((stays_bl hb).and (stays_blk (blk_alloc (blk_new w #[.slice A0 ri.length d0, .slice B1 bo.length d1] 27 rfl) _))).and (stays_blk (g := w.heap.size + 1) (blk_new (w.alloc (.cells #[.slice A0 ri.length d0, .slice B1 bo.length d1] 27)) #[.slice E0 xi.length k0, .slice E1 yo.length k1, .slice E2 lk.length k2, .slice E3 lo.length k3] 30 (by simp)))).and ((stays_csd (hc.ext hb)).and (stays_wet (hs.ext hb))))
 have m0 := hc.m0
 have m1 := hc.m1
 dsimp only at m0 m1 h0 h1
 clear hb hc hs
 obtain ⟨R, hR⟩ : ∃ R, fitsB ⟨A0, B1, d0, d1, ri, bo⟩ ⟨E0, E1, E2, E3, k0, k1, k2, k3, xi, yo, lk, lo⟩ = R := ⟨_, rfl⟩
 have r1 : ∀ i, i < ri.length → withinB (nth xi i) (sAt ri i).1 (sAt ri i).2 = false → R = false := fun i hi hf => Bool.eq_false_iff.2 (fun h => by
  have := (fitsB_iff.1 (hR.trans h)).1 i hi
  rw [show withinB _ _ _ = false from hf] at this
  cases this)
 have r2 : ∀ i, i < bo.length → withinB (nth yo i) (sAt bo i).1 (sAt bo i).2 = false → R = false := fun i hi hf => Bool.eq_false_iff.2 (fun h => by
  have := (fitsB_iff.1 (hR.trans h)).2 i hi
  rw [show withinB _ _ _ = false from hf] at this
  cases this)
 have r3 : (∀ i, i < ri.length → withinB (nth xi i) (sAt ri i).1 (sAt ri i).2 = true) → (∀ i, i < bo.length → withinB (nth yo i) (sAt bo i).1 (sAt bo i).2 = true) → R = true := fun a b => hR.symm.trans (fitsB_iff.2 ⟨a, b⟩)
 have HR := hd3 r1 r2 r3
 clear r1 r2 r3
 have HBL := Lib.hid K.out.1.1.1.1
 rw [hR]
 clear hR
 have HL := hd2 h0 h1
 clear h0 h1
 go_enter Tryz.func15, Tryz.ntmps15
 go_upto_region 1 with fail
 generalize (w.alloc (.cells #[.slice A0 ri.length d0, .slice B1 bo.length d1] 27)).alloc (.cells #[.slice E0 xi.length k0, .slice E1 yo.length k1, .slice E2 lk.length k2, .slice E3 lo.length k3] 30) = W0 at *
 have p9 := cr 0 K.out.1.1.2
 go_upto_region 2 with fail
 clear p9
 rw [HL.out.1]
 go_loopg [5, 6, 12] ri.length (fun gg _ _ i wr => ∃ t : Nat, t ≤ ri.length ∧ ri.length - t ≤ gg ∧ i = .int .i64 t ∧ Aside (Below W0.heap.size W0 wr ∧ ∀ j, j < t → withinB (nth xi j) (sAt ri j).1 (sAt ri j).2 = true))
 case atStart => exact ⟨0, Nat.zero_le _, by omega, rfl, Below.refl _ _, fun j hj => absurd hj (Nat.not_lt_zero _)⟩
 case round =>
  obtain ⟨t, hlt0, hgg, rfl, hA⟩ := hrel
  have HA := Lib.hid hA.out
  clear hA
  have L := Lib.hid (K.out.on HA.out.1)
  have p0 := cr 0 L.out.1.1.1.2
  by_cases hlt : t < ri.length
  ·have hltz : (t : Int) < (ri.length : Int) := by omega
   have hltx : (t : Int) < (xi.length : Int) := by rw [HL.out.1]; omega
   have hrs : RdS wr wr.heap.size A0 ri := L.out.1.2.1.r0
   have hrx : Rd wr wr.heap.size E0 xi := L.out.1.2.2.r0
   obtain ⟨b2, o2, rfl, _, hc2⟩ := hrs (by omega)
   obtain ⟨b0, o0, rfl, _, hc0⟩ := hrx (by rw [HL.out.1]; omega)
   have p1 := hc0 t (by rw [HL.out.1]; exact hlt)
   have s0 : fitS w.heap.size (w.heap.size + 1) b2 (o2 + t * 2) b0 (o0 + t) (.slice (some ⟨b2, o2, none⟩) ri.length d0) (.slice B1 bo.length d1) (.int .i64 (sAt ri t).1) (.int .i64 (sAt ri t).2) (.slice (some ⟨b0, o0, none⟩) xi.length k0) (.slice E1 yo.length k1) (.int .i64 (nth xi t)) 0 wr.drew := ⟨cr 0 L.out.1.1.1.2, cr 1 L.out.1.1.1.2⟩
   have s1 : fitS w.heap.size (w.heap.size + 1) b2 (o2 + t * 2) b0 (o0 + t) (.slice (some ⟨b2, o2, none⟩) ri.length d0) (.slice B1 bo.length d1) (.int .i64 (sAt ri t).1) (.int .i64 (sAt ri t).2) (.slice (some ⟨b0, o0, none⟩) xi.length k0) (.slice E1 yo.length k1) (.int .i64 (nth xi t)) 1 wr.drew := (hc2 t hlt).c0
   have s2 : fitS w.heap.size (w.heap.size + 1) b2 (o2 + t * 2) b0 (o0 + t) (.slice (some ⟨b2, o2, none⟩) ri.length d0) (.slice B1 bo.length d1) (.int .i64 (sAt ri t).1) (.int .i64 (sAt ri t).2) (.slice (some ⟨b0, o0, none⟩) xi.length k0) (.slice E1 yo.length k1) (.int .i64 (nth xi t)) 2 wr.drew := (hc2 t hlt).c1
   have s3 : fitS w.heap.size (w.heap.size + 1) b2 (o2 + t * 2) b0 (o0 + t) (.slice (some ⟨b2, o2, none⟩) ri.length d0) (.slice B1 bo.length d1) (.int .i64 (sAt ri t).1) (.int .i64 (sAt ri t).2) (.slice (some ⟨b0, o0, none⟩) xi.length k0) (.slice E1 yo.length k1) (.int .i64 (nth xi t)) 3 wr.drew := ⟨cr 0 L.out.1.1.2, cr 1 L.out.1.1.2⟩
   have s4 : fitS w.heap.size (w.heap.size + 1) b2 (o2 + t * 2) b0 (o0 + t) (.slice (some ⟨b2, o2, none⟩) ri.length d0) (.slice B1 bo.length d1) (.int .i64 (sAt ri t).1) (.int .i64 (sAt ri t).2) (.slice (some ⟨b0, o0, none⟩) xi.length k0) (.slice E1 yo.length k1) (.int .i64 (nth xi t)) 4 wr.drew := p1
   have HB := Lib.hid HA.out.1.drew
   clear hrs hrx hc2 hc0
   obtain ⟨v, hv⟩ : ∃ v, withinB (nth xi t) (sAt ri t).1 (sAt ri t).2 = v := ⟨_, rfl⟩
   have HV := Lib.hid hv
   clear hv
   go_upto_region 4 with fail
   clear p0 p1
   refine wp_region_K (by kernel_rfl) (fitS w.heap.size (w.heap.size + 1) b2 (o2 + t * 2) b0 (o0 + t) (.slice (some ⟨b2, o2, none⟩) ri.length d0) (.slice B1 bo.length d1) (.int .i64 (sAt ri t).1) (.int .i64 (sAt ri t).2) (.slice (some ⟨b0, o0, none⟩) xi.length k0) (.slice E1 yo.length k1) (.int .i64 (nth xi t))) (fun _ _ => true) ?_
   generalize wr.drew = X0 at *
   refine kF 5 0 rfl ?_
   refine kF 5 1 rfl ?_
   refine kT 0 2 rfl ?_
   refine kF 5 3 rfl ?_
   refine kF 5 4 rfl ?_
   refine kF 5 5 rfl ?_
   refine kT 1 6 rfl ?_
   refine kF 5 7 rfl ?_
   refine kT 0 8 rfl ?_
   refine kF 5 9 rfl ?_
   refine kF 5 10 rfl ?_
   refine kF 5 11 rfl ?_
   refine kT 2 12 rfl ?_
   refine kR 13 rfl fun K hK => ?_
   go_simp
   refine (within_calls _ _ _ X0).mono ?_
   rw [HV.out]
   rintro e X1 ⟨rfl, hb⟩
   dsimp only
   refine hK.out _ _ (fun k _ h => fitS_on hb h) ?_
   have HC := Lib.hid (HB.out.trans (hb.mono HB.out.size))
   clear hK hb HB s0 s1 s2 s3 s4 L
   refine kF 5 14 rfl ?_
   refine kD ?_
   cases v with
   | false =>
    obtain rfl := HR.out.1 t hlt HV.out
    go_wp2
    go_ret
    exact ⟨rfl, HBL.out.trans (HC.out.mono HBL.out.size)⟩
   | true =>
    go_wp2
    go_roundg (ri.length - (t + 1))
    case measure => omega
    case rel => exact ⟨t + 1, by omega, by omega, by go_num, (show _ ∧ _ from ⟨HC.out, fun j hj => by
     by_cases e : j = t
     ·subst e; exact HV.out
     ·exact HA.out.2 j (by omega)⟩)⟩
  ·have hltz : ¬ (t : Int) < (ri.length : Int) := by omega
   obtain rfl : t = ri.length := by omega
   have HI := Lib.hid HA.out.2
   have HX := Lib.hid HA.out.1
   have p9 := cr 1 L.out.1.1.2
   go_upto_region 8 with fail
   clear p9 hltz p0 hlt hlt0 hgg HA L
   generalize wr = w5 at *
   go_loopg [7, 8, 36] bo.length (fun gg _ _ i wr => ∃ t : Nat, t ≤ bo.length ∧ bo.length - t ≤ gg ∧ i = .int .i64 t ∧ Aside (Below W0.heap.size W0 wr ∧ ∀ j, j < t → withinB (nth yo j) (sAt bo j).1 (sAt bo j).2 = true))
   case atStart => exact ⟨0, Nat.zero_le _, by omega, rfl, HX.out, fun j hj => absurd hj (Nat.not_lt_zero _)⟩
   case round =>
    obtain ⟨t, hlt0, hgg, rfl, hA⟩ := hrel
    have HA := Lib.hid hA.out
    clear hA
    have L := Lib.hid (K.out.on HA.out.1)
    have p0 := cr 1 L.out.1.1.1.2
    by_cases hlt : t < bo.length
    ·have hltz : (t : Int) < (bo.length : Int) := by omega
     have hltx : (t : Int) < (yo.length : Int) := by rw [HL.out.2]; omega
     have hrs : RdS wr wr.heap.size B1 bo := L.out.1.2.1.r1
     have hrx : Rd wr wr.heap.size E1 yo := L.out.1.2.2.r1
     obtain ⟨b2, o2, rfl, _, hc2⟩ := hrs (by omega)
     obtain ⟨b0, o0, rfl, _, hc0⟩ := hrx (by rw [HL.out.2]; omega)
     have p1 := hc0 t (by rw [HL.out.2]; exact hlt)
     have s0 : fitS w.heap.size (w.heap.size + 1) b2 (o2 + t * 2) b0 (o0 + t) (.slice A0 ri.length d0) (.slice (some ⟨b2, o2, none⟩) bo.length d1) (.int .i64 (sAt bo t).1) (.int .i64 (sAt bo t).2) (.slice E0 xi.length k0) (.slice (some ⟨b0, o0, none⟩) yo.length k1) (.int .i64 (nth yo t)) 0 wr.drew := ⟨cr 0 L.out.1.1.1.2, cr 1 L.out.1.1.1.2⟩
     have s1 : fitS w.heap.size (w.heap.size + 1) b2 (o2 + t * 2) b0 (o0 + t) (.slice A0 ri.length d0) (.slice (some ⟨b2, o2, none⟩) bo.length d1) (.int .i64 (sAt bo t).1) (.int .i64 (sAt bo t).2) (.slice E0 xi.length k0) (.slice (some ⟨b0, o0, none⟩) yo.length k1) (.int .i64 (nth yo t)) 1 wr.drew := (hc2 t hlt).c0
     have s2 : fitS w.heap.size (w.heap.size + 1) b2 (o2 + t * 2) b0 (o0 + t) (.slice A0 ri.length d0) (.slice (some ⟨b2, o2, none⟩) bo.length d1) (.int .i64 (sAt bo t).1) (.int .i64 (sAt bo t).2) (.slice E0 xi.length k0) (.slice (some ⟨b0, o0, none⟩) yo.length k1) (.int .i64 (nth yo t)) 2 wr.drew := (hc2 t hlt).c1
     have s3 : fitS w.heap.size (w.heap.size + 1) b2 (o2 + t * 2) b0 (o0 + t) (.slice A0 ri.length d0) (.slice (some ⟨b2, o2, none⟩) bo.length d1) (.int .i64 (sAt bo t).1) (.int .i64 (sAt bo t).2) (.slice E0 xi.length k0) (.slice (some ⟨b0, o0, none⟩) yo.length k1) (.int .i64 (nth yo t)) 3 wr.drew := ⟨cr 0 L.out.1.1.2, cr 1 L.out.1.1.2⟩
     have s4 : fitS w.heap.size (w.heap.size + 1) b2 (o2 + t * 2) b0 (o0 + t) (.slice A0 ri.length d0) (.slice (some ⟨b2, o2, none⟩) bo.length d1) (.int .i64 (sAt bo t).1) (.int .i64 (sAt bo t).2) (.slice E0 xi.length k0) (.slice (some ⟨b0, o0, none⟩) yo.length k1) (.int .i64 (nth yo t)) 4 wr.drew := p1
     have HB := Lib.hid HA.out.1.drew
     clear hrs hrx hc2 hc0
     obtain ⟨v, hv⟩ : ∃ v, withinB (nth yo t) (sAt bo t).1 (sAt bo t).2 = v := ⟨_, rfl⟩
     have HV := Lib.hid hv
     clear hv
     go_upto_region 10 with fail
     clear p0 p1
     refine wp_region_K (by kernel_rfl) (fitS w.heap.size (w.heap.size + 1) b2 (o2 + t * 2) b0 (o0 + t) (.slice A0 ri.length d0) (.slice (some ⟨b2, o2, none⟩) bo.length d1) (.int .i64 (sAt bo t).1) (.int .i64 (sAt bo t).2) (.slice E0 xi.length k0) (.slice (some ⟨b0, o0, none⟩) yo.length k1) (.int .i64 (nth yo t))) (fun _ _ => true) ?_
     generalize wr.drew = X0 at *
     refine kF 5 0 rfl ?_
     refine kF 5 1 rfl ?_
     refine kT 0 2 rfl ?_
     refine kF 5 3 rfl ?_
     refine kF 5 4 rfl ?_
     refine kF 5 5 rfl ?_
     refine kT 1 6 rfl ?_
     refine kF 5 7 rfl ?_
     refine kT 0 8 rfl ?_
     refine kF 5 9 rfl ?_
     refine kF 5 10 rfl ?_
     refine kF 5 11 rfl ?_
     refine kT 2 12 rfl ?_
     refine kR 13 rfl fun K hK => ?_
     go_simp
     refine (within_calls _ _ _ X0).mono ?_
     rw [HV.out]
     rintro e X1 ⟨rfl, hb⟩
     dsimp only
     refine hK.out _ _ (fun k _ h => fitS_on hb h) ?_
     have HC := Lib.hid (HB.out.trans (hb.mono HB.out.size))
     clear hK hb HB s0 s1 s2 s3 s4 L
     refine kF 5 14 rfl ?_
     refine kD ?_
     cases v with
     | false =>
      obtain rfl := HR.out.2.1 t hlt HV.out
      go_wp2
      go_ret
      exact ⟨rfl, HBL.out.trans (HC.out.mono HBL.out.size)⟩
     | true =>
      go_wp2
      go_roundg (bo.length - (t + 1))
      case measure => omega
      case rel => exact ⟨t + 1, by omega, by omega, by go_num, (show _ ∧ _ from ⟨HC.out, fun j hj => by
       by_cases e : j = t
       ·subst e; exact HV.out
       ·exact HA.out.2 j (by omega)⟩)⟩
    ·have hltz : ¬ (t : Int) < (bo.length : Int) := by omega
     have hltx : ¬ (t : Int) < (yo.length : Int) := by rw [HL.out.2]; omega
     obtain rfl : t = bo.length := by omega
     obtain rfl := HR.out.2.2 HI.out HA.out.2
     go_wp2
     go_ret
     exact ⟨rfl, L.out.1.1.1.1⟩

end Go.Proofs.YtegmniphgahblaaGreat
namespace Go.Proofs.YtegmniphgahblaaGreat
open Go.RowKit

theorem water_iff {ws : List Car} {s : Wt} : waterE ws s = 0 ↔ Ok ws s := by
 refine ⟨ok_of_water, fun ok => ?_⟩
 unfold waterE
 refine if_pos ?_
 unfold waterB wB0 wB1 wB2 wB3
 simp only [Bool.and_eq_true, allB_iff]
 refine ⟨⟨⟨⟨ok.l0, fun i hi => ?_⟩, ⟨ok.l1, fun i hi => ?_⟩⟩, ⟨ok.l2, fun i hi => ?_⟩⟩, ⟨ok.l3, fun i hi => ?_⟩⟩
 ·exact decide_eq_true (ok.r0 i hi)
 ·exact decide_eq_true (ok.r1 i (by rw [← ok.l1]; exact hi))
 ·exact decide_eq_true (ok.r2 i (by rw [← ok.l2]; exact hi))
 ·exact decide_eq_true (ok.r3 i (by rw [← ok.l3]; exact hi))
theorem endV_mid {v n : Int} {p : Sp} (h : p.1 ≤ n ∧ n ≤ p.2) : v * endV false v p ≤ v * n ∧ v * n ≤ v * endV true v p := by
 rcases Int.lt_trichotomy v 0 with hv | hv | hv
 ·have e1 : endV false v p = p.2 := if_pos (by unfold endB; simp [hv])
  have e2 : endV true v p = p.1 := if_neg (by unfold endB; simp; omega)
  rw [e1, e2]
  exact ⟨Int.mul_le_mul_of_nonpos_left (by omega) h.2, Int.mul_le_mul_of_nonpos_left (by omega) h.1⟩
 ·subst hv; simp
 ·have e1 : endV false v p = p.1 := if_neg (by unfold endB; simp; omega)
  have e2 : endV true v p = p.2 := if_pos (by unfold endB; simp [hv])
  rw [e1, e2]
  exact ⟨Int.mul_le_mul_of_nonneg_left h.1 (by omega), Int.mul_le_mul_of_nonneg_left h.2 (by omega)⟩
theorem corW_is (ws : List Car) (cs : Cs) (x : Nat) (most : Bool) : Corner ws cs x most (corW ws cs x most) := ⟨rfl, rfl, rfl, rfl⟩
/-- Water that is right and fits the case lies between its corners. -/
theorem up_corners {ws : List Car} {cs : Cs} {s : Wt} (k : CsOk ws cs) (ok : Ok ws s) (hf : fitsB cs s = true) (x : Nat) : Up ws x (corW ws cs x false) s ∧ Up ws x s (corW ws cs x true) := by
 obtain ⟨f0, f1⟩ := fitsB_iff.1 hf
 have a : ∀ i, i < (headsTo ws ws.length).length → _ := fun i hi => endV_mid (v := nth (rivS ws x) i) (within_iff.1 (f0 i (by rw [k.l0]; exact hi)))
 have b : ∀ i, i < (outs ws).length → _ := fun i hi => endV_mid (v := hatV ws x i) (within_iff.1 (f1 i (by rw [k.l1]; exact hi)))
 have c : ∀ i, i < (outs ws).length → _ := fun i hi => endV_mid (v := hatV ws x i) (p := ((oAt (outs ws) i).kl, (oAt (outs ws) i).kh)) (ok.r2 i hi)
 have d : ∀ i, i < (outs ws).length → _ := fun i hi => endV_mid (v := reaV ws x i) (p := ((oAt (outs ws) i).sl, (oAt (outs ws) i).sh)) (ok.r3 i hi)
 have e0 : ∀ m i, i < (headsTo ws ws.length).length → nth (corW ws cs x m).ri i = endV m (nth (rivS ws x) i) (sAt cs.ri i) := fun m i hi => nth_range _ (by rw [k.l0]; exact hi)
 have e1 : ∀ m i, i < (outs ws).length → nth (corW ws cs x m).bo i = endV m (hatV ws x i) (sAt cs.bo i) := fun m i hi => nth_range _ hi
 have e2 : ∀ m i, i < (outs ws).length → nth (corW ws cs x m).lk i = endV m (hatV ws x i) ((oAt (outs ws) i).kl, (oAt (outs ws) i).kh) := fun m i hi => nth_range _ hi
 have e3 : ∀ m i, i < (outs ws).length → nth (corW ws cs x m).lo i = endV m (reaV ws x i) ((oAt (outs ws) i).sl, (oAt (outs ws) i).sh) := fun m i hi => nth_range _ hi
 exact ⟨⟨fun i hi => by rw [e0 _ i hi]; exact (a i hi).1, fun i hi => by rw [e1 _ i hi]; exact (b i hi).1, fun i hi => by rw [e2 _ i hi]; exact (c i hi).1, fun i hi => by rw [e3 _ i hi]; exact (d i hi).1⟩,
  ⟨fun i hi => by rw [e0 _ i hi]; exact (a i hi).2, fun i hi => by rw [e1 _ i hi]; exact (b i hi).2, fun i hi => by rw [e2 _ i hi]; exact (c i hi).2, fun i hi => by rw [e3 _ i hi]; exact (d i hi).2⟩⟩
theorem flow_between {ws : List Car} {cs : Cs} {s : Wt} (g : Good ws) (k : CsOk ws cs) (ok : Ok ws s) (hf : fitsB cs s = true) {x : Nat} (hx : x < (outs ws).length) : (endsF ws cs x).1 ≤ flowF ws s x ∧ flowF ws s x ≤ (endsF ws cs x).2 := by
 obtain ⟨u1, u2⟩ := up_corners k ok hf x
 exact ⟨mono_flow g ((corW_is ws cs x false).ok g k) ok hx u1, mono_flow g ok ((corW_is ws cs x true).ok g k) hx u2⟩
/-- A corner fits its case. -/
theorem WkIn.ext {w w' : World} {A : Option Addr} {ws : List Car} (h : WkIn w A ws) (hb : Below w.heap.size w w') : WkIn w' A ws := ⟨h.rd.ext hb, h.n0, h.n1, h.n2⟩
theorem WtIn.ext {w w' : World} {s : Wt} (h : WtIn w s) (hb : Below w.heap.size w w') : WtIn w' s := ⟨h.r0.ext hb, h.r1.ext hb, h.r2.ext hb, h.r3.ext hb, h.m0, h.m1, h.m2, h.m3⟩
theorem stays_wkIn {W : World} {A : Option Addr} {ws : List Car} (h : WkIn W A ws) : Stays (fun X => WkIn X A ws) W := ⟨h, fun _ _ a b => a.ext b⟩
theorem stays_wtIn {W : World} {s : Wt} (h : WtIn W s) : Stays (fun X => WtIn X s) W := ⟨h, fun _ _ a b => a.ext b⟩
end Go.Proofs.YtegmniphgahblaaGreat
namespace Go.Proofs.YtegmniphgahblaaGreat
open Go.ChangeShapes Go.WideShapes Go.ChangeAt Go.RowKit Go.Shelf

/-- What is known of a case that comes into a law. -/
structure CsIn (w : World) (s : Cs) : Prop where
 r0 : RdS w w.heap.size s.A0 s.ri
 r1 : RdS w w.heap.size s.A1 s.bo
 m0 : s.ri.length ≤ maxLen
 m1 : s.bo.length ≤ maxLen
theorem CsIn.ext {w w' : World} {s : Cs} (h : CsIn w s) (hb : Below w.heap.size w w') : CsIn w' s := ⟨h.r0.ext hb, h.r1.ext hb, h.m0, h.m1⟩
theorem stays_csIn {W : World} {s : Cs} (h : CsIn W s) : Stays (fun X => CsIn X s) W := ⟨h, fun _ _ a b => a.ext b⟩
theorem cells_ls : Tryz.prog.cellsOf 25 = 1 := by kernel_rfl
theorem cells_cs : Tryz.prog.cellsOf 27 = 2 := by kernel_rfl
section
variable {H : Type} {enc : TypeId × Value → H} {w : World} {sp : Nat → Bool} {held : Bool}
set_option maxRecDepth 100000 in
theorem open_spans {fuel : Nat} {c : Value} {y : DataW H × List MemPlace} (h : DataW.trod enc Tryz.prog w 0 sp held fuel 25 [c] = some y) :
  ∃ (A : Option Addr) (k : Nat) (l : List Sp), c = .slice A l.length k ∧ RdS w w.heap.size A l ∧ l.length ≤ maxLen := by
 rcases Go.Deep.open_slice Tryz.underlying25 h with ⟨hcs, _⟩ | ⟨a, l, k, m, n', D, Pl, hcs, _, hl, hm, hmm, hy, hi⟩
 ·obtain rfl : c = .slice none 0 0 := by simpa using hcs
  exact ⟨none, 0, [], rfl, fun h0 => absurd h0 (by simp), Nat.zero_le _⟩
 ·obtain rfl : c = .slice (some a) l k := by simpa using hcs
  have hnm : l ≤ m := by rw [hmm]; split <;> omega
  obtain ⟨b, off, s⟩ := a
  rcases Nat.eq_zero_or_pos l with rfl | hpos
  ·exact ⟨_, k, [], rfl, fun h0 => absurd h0 (by simp), Nat.zero_le _⟩
  have one : ∀ i, i < l → ∃ x : Sp, w.cell? (Addr.add ⟨b, off, s⟩ (i * 2)) = some (.int .i64 x.1) ∧ w.cell? (Addr.add (Addr.add ⟨b, off, s⟩ (i * 2)) 1) = some (.int .i64 x.2) := fun i hin => by
   obtain ⟨cs', hc, ht⟩ := hi i (by omega)
   rw [cells_sp] at hc
   obtain ⟨_, hlen, hat⟩ := World.cells?_some hc
   obtain ⟨a, b', rfl⟩ := list2 hlen
   obtain ⟨lo, hi', rfl, rfl⟩ := open_span ht
   have a0 := hat 0 (by decide)
   have a1 := hat 1 (by decide)
   exact ⟨(lo, hi'), by simpa [Addr.add] using a0, by simpa using a1⟩
  have hs : s = none := by
   obtain ⟨x, h1, _⟩ := one 0 hpos
   have a0 := World.cell?_spot h1
   simpa [Addr.add] using a0
  subst hs
  have each : ∀ i, i < l → ∃ x : Sp, b < w.heap.size ∧ SpAt w b (off + i * 2) x := fun i hin => by
   obtain ⟨x, h1, h2⟩ := one i hin
   have lt := lt_of_cell h1
   rw [add_eq] at h1 h2 lt
   rw [add_eq] at h2
   exact ⟨x, lt, h1, h2⟩
  obtain ⟨ls, hlen, hP⟩ := list_of ((0, 0) : Sp) _ l each
  refine ⟨some ⟨b, off, none⟩, k, ls, by rw [hlen], fun h0 => ?_, by omega⟩
  obtain ⟨lb, _⟩ := hP 0 (by omega)
  exact ⟨b, off, rfl, lb, fun i hi => (hP i (by omega)).2⟩
set_option maxRecDepth 100000 in
theorem open_case {r : Reach} {b0 : Nat} {v : Value} {d : DataW H} {p : List MemPlace} (hv : Value.okWide Tryz.prog w r b0 27 v) (h : DataW.Trod enc Tryz.prog w 0 sp held 27 v d p) :
  ∃ s : Cs, v = s.v ∧ CsIn w s := by
 obtain ⟨cs, rfl, hsz⟩ := okWide_struct Tryz.underlying27 hv
 obtain ⟨l⟩ := cs
 obtain ⟨a, b, rfl⟩ := list2 (hsz.trans cells_cs)
 obtain ⟨fuel, hf⟩ := h
 have hf' : DataW.trod enc Tryz.prog w 0 sp held fuel 27 [a, b] = some (d, p) := hf
 obtain ⟨y0, y1, n, _, _, g0, g1⟩ := trod_struct2 Tryz.underlying27 hf'
 have k0 : DataW.trod enc Tryz.prog w 0 sp held n 25 [a] = some y0 := by simpa [cells_ls] using g0
 have k1 : DataW.trod enc Tryz.prog w 0 sp held n 25 [b] = some y1 := by simpa [cells_ls] using g1
 obtain ⟨A0, c0, x0, rfl, r0, m0⟩ := open_spans k0
 obtain ⟨A1, c1, x1, rfl, r1, m1⟩ := open_spans k1
 exact ⟨⟨A0, A1, c0, c1, x0, x1⟩, rfl, r0, r1, m0, m1⟩
end
end Go.Proofs.YtegmniphgahblaaGreat
namespace Go.Proofs.YtegmniphgahblaaGreat
open Go.ChangeShapes Go.WideShapes Go.ChangeAt Go.RowKit Go.Shelf

def fitE (ws : List Car) (cs : Cs) (s : Wt) : Int := if ccE ws cs = 0 then waterE ws s else ccE ws cs
def fitR (ws : List Car) (cs : Cs) (s : Wt) : Bool := if fitE ws cs s = 0 then fitsB cs s else false
set_option maxRecDepth 100000 in
set_option maxHeartbeats 1600000 in
theorem Fits_any (A : Option Addr) (c : Nat) (ws : List Car) (cs : Cs) (s : Wt) (w : World) (h : Wk w A ws) (hc : Csd w cs) (hs : Wet w s) :
  Calls Tryz.prog 5 #[.agg #[.slice A ws.length c], cs.v, s.v] w fun e w' => e = .returned (.tuple #[.bool (fitR ws cs s), .int .i64 (fitE ws cs s)]) ∧ Below w.heap.size w w' := by
 obtain ⟨A0, B1, d0, d1, ri, bo⟩ := cs
 obtain ⟨E0, E1, E2, E3, k0, k1, k2, k3, xi, yo, lk, lo⟩ := s
 show Calls _ _ #[.agg #[.slice A ws.length c], .agg #[.slice A0 ri.length d0, .slice B1 bo.length d1], .agg #[.slice E0 xi.length k0, .slice E1 yo.length k1, .slice E2 lk.length k2, .slice E3 lo.length k3]] _ _
 have hb : Below w.heap.size w (((w.alloc (.cells #[.slice A ws.length c] 24)).alloc (.cells #[.slice A0 ri.length d0, .slice B1 bo.length d1] 27)).alloc (.cells #[.slice E0 xi.length k0, .slice E1 yo.length k1, .slice E2 lk.length k2, .slice E3 lo.length k3] 30)) := (((Below.refl _ w).alloc (Nat.le_refl _) _).alloc (by simp) _).alloc (by simp; omega) _
 have K := Lib.hid (((((stays_bl hb).and (stays_blk (blk_alloc (blk_alloc (blk_new w #[.slice A ws.length c] 24 rfl) _) _))).and (stays_blk (g := w.heap.size + 1) (blk_alloc (blk_new (w.alloc (.cells #[.slice A ws.length c] 24)) #[.slice A0 ri.length d0, .slice B1 bo.length d1] 27 (by simp)) _))).and (stays_blk (g := w.heap.size + 1 + 1) (blk_new ((w.alloc (.cells #[.slice A ws.length c] 24)).alloc (.cells #[.slice A0 ri.length d0, .slice B1 bo.length d1] 27)) #[.slice E0 xi.length k0, .slice E1 yo.length k1, .slice E2 lk.length k2, .slice E3 lo.length k3] 30 (by simp)))).and ((stays_wk (h.ext hb)).and ((stays_csd (hc.ext hb)).and (stays_wet (hs.ext hb)))))
 clear hb h hc hs
 have HC := Lib.hid (fun W hW hc => CheckCase_any A c ws ⟨A0, B1, d0, d1, ri, bo⟩ W hW hc)
 by_cases h0 : ccE ws ⟨A0, B1, d0, d1, ri, bo⟩ = 0
 rotate_left
 ·have e1 : fitE ws ⟨A0, B1, d0, d1, ri, bo⟩ ⟨E0, E1, E2, E3, k0, k1, k2, k3, xi, yo, lk, lo⟩ = ccE ws ⟨A0, B1, d0, d1, ri, bo⟩ := if_neg h0
  have e2 : fitR ws ⟨A0, B1, d0, d1, ri, bo⟩ ⟨E0, E1, E2, E3, k0, k1, k2, k3, xi, yo, lk, lo⟩ = false := if_neg (by rw [e1]; exact h0)
  rw [e1, e2]
  generalize ccE ws ⟨A0, B1, d0, d1, ri, bo⟩ = E at *
  have hz : (E != 0) = true := by simpa using h0
  clear h0 e1 e2
  go_enter Tryz.func5, Tryz.ntmps5
  go_upto_region 1 with fail
  generalize ((w.alloc (.cells #[.slice A ws.length c] 24)).alloc (.cells #[.slice A0 ri.length d0, .slice B1 bo.length d1] 27)).alloc (.cells #[.slice E0 xi.length k0, .slice E1 yo.length k1, .slice E2 lk.length k2, .slice E3 lo.length k3] 30) = W0 at *
  have p0 := cr 0 K.out.1.1.1.1.2
  have p1 := cr 0 K.out.1.1.1.2
  have p2 := cr 1 K.out.1.1.1.2
  have p3 := cr 0 K.out.1.1.2
  have p4 := cr 1 K.out.1.1.2
  have p5 := cr 2 K.out.1.1.2
  have p6 := cr 3 K.out.1.1.2
  go_wp2_with (go_at_call 13; refine (HC.out _ K.out.1.2.1 K.out.1.2.2.1).mono ?_; rintro e w1 ⟨rfl, hb⟩; have K1 := Lib.hid (K.out.on hb); clear hb)
  go_ret2
  exact ⟨rfl, K1.out.1.1.1.1.1⟩
 have hg := cc_good h0
 have HW := Lib.hid (fun W hW hs => checkWater_any A c ws ⟨E0, E1, E2, E3, k0, k1, k2, k3, xi, yo, lk, lo⟩ W hW hg.1 hs)
 have e1 : fitE ws ⟨A0, B1, d0, d1, ri, bo⟩ ⟨E0, E1, E2, E3, k0, k1, k2, k3, xi, yo, lk, lo⟩ = waterE ws ⟨E0, E1, E2, E3, k0, k1, k2, k3, xi, yo, lk, lo⟩ := if_pos h0
 by_cases h1 : waterE ws ⟨E0, E1, E2, E3, k0, k1, k2, k3, xi, yo, lk, lo⟩ = 0
 rotate_left
 ·have e2 : fitR ws ⟨A0, B1, d0, d1, ri, bo⟩ ⟨E0, E1, E2, E3, k0, k1, k2, k3, xi, yo, lk, lo⟩ = false := if_neg (by rw [e1]; exact h1)
  rw [e1, e2]
  rw [h0] at HC
  generalize waterE ws ⟨E0, E1, E2, E3, k0, k1, k2, k3, xi, yo, lk, lo⟩ = E at *
  have hz : (E != 0) = true := by simpa using h1
  clear h0 e1 e2 h1 hg
  go_enter Tryz.func5, Tryz.ntmps5
  go_upto_region 1 with fail
  generalize ((w.alloc (.cells #[.slice A ws.length c] 24)).alloc (.cells #[.slice A0 ri.length d0, .slice B1 bo.length d1] 27)).alloc (.cells #[.slice E0 xi.length k0, .slice E1 yo.length k1, .slice E2 lk.length k2, .slice E3 lo.length k3] 30) = W0 at *
  have p0 := cr 0 K.out.1.1.1.1.2
  have p1 := cr 0 K.out.1.1.1.2
  have p2 := cr 1 K.out.1.1.1.2
  have p3 := cr 0 K.out.1.1.2
  have p4 := cr 1 K.out.1.1.2
  have p5 := cr 2 K.out.1.1.2
  have p6 := cr 3 K.out.1.1.2
  go_upto_region 4 with (go_at_call 13; refine (HC.out _ K.out.1.2.1 K.out.1.2.2.1).mono ?_; rintro e w1 ⟨rfl, hb⟩; have K1 := Lib.hid (K.out.on hb); clear hb)
  clear p0 p1 p2 p3 p4 p5 p6
  have p0 := cr 0 K1.out.1.1.1.1.2
  have p1 := cr 0 K1.out.1.1.1.2
  have p2 := cr 1 K1.out.1.1.1.2
  have p3 := cr 0 K1.out.1.1.2
  have p4 := cr 1 K1.out.1.1.2
  have p5 := cr 2 K1.out.1.1.2
  have p6 := cr 3 K1.out.1.1.2
  go_wp2_with (go_at_call 14; refine (HW.out _ K1.out.1.2.1 K1.out.1.2.2.2).mono ?_; rintro e w2 ⟨rfl, hb⟩; have K2 := Lib.hid (K1.out.on hb); clear hb)
  go_ret2
  exact ⟨rfl, K2.out.1.1.1.1.1⟩
 have ok := water_iff.1 h1
 have e2 : fitR ws ⟨A0, B1, d0, d1, ri, bo⟩ ⟨E0, E1, E2, E3, k0, k1, k2, k3, xi, yo, lk, lo⟩ = fitsB ⟨A0, B1, d0, d1, ri, bo⟩ ⟨E0, E1, E2, E3, k0, k1, k2, k3, xi, yo, lk, lo⟩ := if_pos (by rw [e1]; exact h1)
 rw [e1, e2, h1]
 rw [h0] at HC
 rw [h1] at HW
 have HF := Lib.hid (fun W hc hs => fits_any ⟨A0, B1, d0, d1, ri, bo⟩ ⟨E0, E1, E2, E3, k0, k1, k2, k3, xi, yo, lk, lo⟩ W hc hs (ok.l0.trans hg.2.l0.symm) (ok.l1.trans hg.2.l1.symm))
 clear h0 h1 e1 e2 hg ok
 generalize fitsB ⟨A0, B1, d0, d1, ri, bo⟩ ⟨E0, E1, E2, E3, k0, k1, k2, k3, xi, yo, lk, lo⟩ = R at *
 go_enter Tryz.func5, Tryz.ntmps5
 go_upto_region 1 with fail
 generalize ((w.alloc (.cells #[.slice A ws.length c] 24)).alloc (.cells #[.slice A0 ri.length d0, .slice B1 bo.length d1] 27)).alloc (.cells #[.slice E0 xi.length k0, .slice E1 yo.length k1, .slice E2 lk.length k2, .slice E3 lo.length k3] 30) = W0 at *
 have p0 := cr 0 K.out.1.1.1.1.2
 have p1 := cr 0 K.out.1.1.1.2
 have p2 := cr 1 K.out.1.1.1.2
 have p3 := cr 0 K.out.1.1.2
 have p4 := cr 1 K.out.1.1.2
 have p5 := cr 2 K.out.1.1.2
 have p6 := cr 3 K.out.1.1.2
 go_upto_region 4 with (go_at_call 13; refine (HC.out _ K.out.1.2.1 K.out.1.2.2.1).mono ?_; rintro e w1 ⟨rfl, hb⟩; have K1 := Lib.hid (K.out.on hb); clear hb)
 clear p0 p1 p2 p3 p4 p5 p6
 have p0 := cr 0 K1.out.1.1.1.1.2
 have p1 := cr 0 K1.out.1.1.1.2
 have p2 := cr 1 K1.out.1.1.1.2
 have p3 := cr 0 K1.out.1.1.2
 have p4 := cr 1 K1.out.1.1.2
 have p5 := cr 2 K1.out.1.1.2
 have p6 := cr 3 K1.out.1.1.2
 go_upto_region 7 with (go_at_call 14; refine (HW.out _ K1.out.1.2.1 K1.out.1.2.2.2).mono ?_; rintro e w2 ⟨rfl, hb⟩; have K2 := Lib.hid (K1.out.on hb); clear hb)
 clear p0 p1 p2 p3 p4 p5 p6
 have p0 := cr 0 K2.out.1.1.1.1.2
 have p1 := cr 0 K2.out.1.1.1.2
 have p2 := cr 1 K2.out.1.1.1.2
 have p3 := cr 0 K2.out.1.1.2
 have p4 := cr 1 K2.out.1.1.2
 have p5 := cr 2 K2.out.1.1.2
 have p6 := cr 3 K2.out.1.1.2
 go_wp2_with (go_at_call 15; refine (HF.out _ K2.out.1.2.2.1 K2.out.1.2.2.2).mono ?_; rintro e w3 ⟨rfl, hb⟩; have K3 := Lib.hid (K2.out.on hb); clear hb)
 go_ret2
 exact ⟨rfl, K3.out.1.1.1.1.1⟩
end Go.Proofs.YtegmniphgahblaaGreat
namespace Go.Proofs.YtegmniphgahblaaGreat
open Go.RowKit Go.Shelf

/-- Where the works of the examples lie. -/
structure MA where
 P1 : Option Addr
 P2 : Option Addr
 P3 : Option Addr
 P4 : Option Addr
 O1 : Option Addr
 O2 : Option Addr
 c1 : Nat
 c2 : Nat
 c3 : Nat
 c4 : Nat
 k1 : Nat
 k2 : Nat
def mo1 (m : MA) : Ot := ⟨1, 1, m.P1, m.c1, [0, 40, 80], 0, 5, 2, 4⟩
def mo2 (m : MA) : Ot := ⟨2, -1, m.P2, m.c2, [0, 30], 1, 1, 0, 10⟩
def mo3 (m : MA) : Ot := ⟨3, -1, m.P3, m.c3, [0, 10, 20, 50], 0, 0, 1, 3⟩
def mo4 (m : MA) : Ot := ⟨4, -1, m.P4, m.c4, [0, 20], 0, 2, 0, 0⟩
def mead (m : MA) : List Car := [⟨m.O1, m.k1, [mo1 m, mo2 m]⟩, ⟨m.O2, m.k2, [mo3 m, mo4 m]⟩]

theorem rd_of_blk {W : World} {g : Nat} {xs : List Int} {ty : TypeId} (h : Blk W g (xs.map (Value.int .i64)).toArray ty) : Rd W W.heap.size (some ⟨g, 0, none⟩) xs := fun _ =>
 ⟨g, 0, rfl, (Array.getElem?_eq_some_iff.1 h).1, fun i hi => by
  rw [Nat.zero_add, cell_of_row W g i _ _ _ h]
  simp [nth, hi]⟩
theorem rdO_of_blk {W : World} {g : Nat} {x y : Ot} {ty : TypeId} (h : Blk W g (x.cells ++ y.cells).toArray ty) (hx : Rd W W.heap.size x.P x.ps) (hy : Rd W W.heap.size y.P y.ps) : RdO W W.heap.size (some ⟨g, 0, none⟩) [x, y] := fun _ =>
 ⟨g, 0, rfl, (Array.getElem?_eq_some_iff.1 h).1, fun i hi => by
  have hi2 : i < 2 := hi
  rcases (show i = 0 ∨ i = 1 by omega) with rfl | rfl
  ·exact ⟨by rw [cell_of_row W g _ _ _ _ h]; rfl, by rw [cell_of_row W g _ _ _ _ h]; rfl, by rw [cell_of_row W g _ _ _ _ h]; rfl, by rw [cell_of_row W g _ _ _ _ h]; rfl, by rw [cell_of_row W g _ _ _ _ h]; rfl, by rw [cell_of_row W g _ _ _ _ h]; rfl, by rw [cell_of_row W g _ _ _ _ h]; rfl, hx⟩
  ·exact ⟨by rw [cell_of_row W g _ _ _ _ h]; rfl, by rw [cell_of_row W g _ _ _ _ h]; rfl, by rw [cell_of_row W g _ _ _ _ h]; rfl, by rw [cell_of_row W g _ _ _ _ h]; rfl, by rw [cell_of_row W g _ _ _ _ h]; rfl, by rw [cell_of_row W g _ _ _ _ h]; rfl, by rw [cell_of_row W g _ _ _ _ h]; rfl, hy⟩⟩
def carW (w0 : World) (x y : Ot) : World := (((w0.alloc (.cells (x.ps.map (Value.int .i64)).toArray 3)).alloc (.cells (y.ps.map (Value.int .i64)).toArray 3)).alloc (.cells (x.cells ++ y.cells).toArray 69)).alloc (.cells #[.slice (some ⟨w0.heap.size + 1 + 1, 0, none⟩) 2 2] 34)
/-- What is known behind one carrier of the meadow. -/
structure CarK (w0 W : World) (x y : Ot) : Prop where
 bl : Below w0.heap.size w0 W
 b1 : Blk W w0.heap.size (x.ps.map (Value.int .i64)).toArray 3
 b2 : Blk W (w0.heap.size + 1) (y.ps.map (Value.int .i64)).toArray 3
 b3 : Blk W (w0.heap.size + 1 + 1) (x.cells ++ y.cells).toArray 69
 bk : Blk W (w0.heap.size + 1 + 1 + 1) #[.slice (some ⟨w0.heap.size + 1 + 1, 0, none⟩) 2 2] 34
 sz : W.heap.size = w0.heap.size + 1 + 1 + 1 + 1
theorem car_known (w0 : World) (x y : Ot) : CarK w0 (carW w0 x y) x y :=
 ⟨((((Below.refl _ w0).alloc (Nat.le_refl _) _).alloc (by simp) _).alloc (by simp; omega) _).alloc (by simp; omega) _, blk_alloc (blk_alloc (blk_alloc (blk_new _ _ _ rfl) _) _) _, blk_alloc (blk_alloc (blk_new _ _ _ (by simp)) _) _, blk_alloc (blk_new _ _ _ (by simp)) _, blk_new _ _ _ (by simp), by simp [carW]⟩
theorem CarK.on {w0 W W' : World} {x y : Ot} (h : CarK w0 W x y) (hb : Below W.heap.size W W') : Blk W' w0.heap.size (x.ps.map (Value.int .i64)).toArray 3 ∧ Blk W' (w0.heap.size + 1) (y.ps.map (Value.int .i64)).toArray 3 ∧ Blk W' (w0.heap.size + 1 + 1) (x.cells ++ y.cells).toArray 69 ∧ Blk W' (w0.heap.size + 1 + 1 + 1) #[.slice (some ⟨w0.heap.size + 1 + 1, 0, none⟩) 2 2] 34 :=
 ⟨blk_on h.b1 hb, blk_on h.b2 hb, blk_on h.b3 hb, blk_on h.bk hb⟩
theorem blk_set {W : World} {g : Nat} {cs : Array Value} {ty : TypeId} (h : Blk W g cs ty) {p : Addr} (hp : g ≠ p.block) (v : Value) : Blk (W.setCell p v) g cs ty := (Below.heap_setCell _ _ _ _ hp).trans h
def exM (a b : Nat) : MA := ⟨some ⟨a, 0, none⟩, some ⟨a + 1, 0, none⟩, some ⟨b, 0, none⟩, some ⟨b + 1, 0, none⟩, some ⟨a + 1 + 1, 0, none⟩, some ⟨b + 1 + 1, 0, none⟩, 3, 2, 4, 2, 2, 2⟩
theorem mead_wk {W : World} {a b D : Nat} {ty1 ty2 ty3 ty4 ty5 ty6 ty7 : TypeId} (h1 : Blk W a ((mo1 (exM a b)).ps.map (Value.int .i64)).toArray ty1) (h2 : Blk W (a + 1) ((mo2 (exM a b)).ps.map (Value.int .i64)).toArray ty2)
  (h3 : Blk W (a + 1 + 1) ((mo1 (exM a b)).cells ++ (mo2 (exM a b)).cells).toArray ty3) (h4 : Blk W b ((mo3 (exM a b)).ps.map (Value.int .i64)).toArray ty4) (h5 : Blk W (b + 1) ((mo4 (exM a b)).ps.map (Value.int .i64)).toArray ty5)
  (h6 : Blk W (b + 1 + 1) ((mo3 (exM a b)).cells ++ (mo4 (exM a b)).cells).toArray ty6) (h7 : Blk W D #[.slice (some ⟨a + 1 + 1, 0, none⟩) 2 2, .slice (some ⟨b + 1 + 1, 0, none⟩) 2 2] ty7) : Wk W (some ⟨D, 0, none⟩) (mead (exM a b)) := by
 refine ⟨fun _ => ⟨D, 0, rfl, (Array.getElem?_eq_some_iff.1 h7).1, fun i hi => ?_⟩, by show (2 : Nat) ≤ 1000; omega, by show (4 : Nat) ≤ 1000; omega, fun i hi => ?_⟩
 ·have hi2 : i < 2 := hi
  rcases (show i = 0 ∨ i = 1 by omega) with rfl | rfl
  ·exact ⟨by rw [cell_of_row W D _ _ _ _ h7]; rfl, rdO_of_blk (x := mo1 (exM a b)) (y := mo2 (exM a b)) h3 (rd_of_blk h1) (rd_of_blk h2)⟩
  ·exact ⟨by rw [cell_of_row W D _ _ _ _ h7]; rfl, rdO_of_blk (x := mo3 (exM a b)) (y := mo4 (exM a b)) h6 (rd_of_blk h4) (rd_of_blk h5)⟩
 ·have hi4 : i < 4 := hi
  rcases (show i = 0 ∨ i = 1 ∨ i = 2 ∨ i = 3 by omega) with rfl | rfl | rfl | rfl
  ·show (3 : Nat) ≤ maxLen; unfold maxLen; omega
  ·show (2 : Nat) ≤ maxLen; unfold maxLen; omega
  ·show (4 : Nat) ≤ maxLen; unfold maxLen; omega
  ·show (2 : Nat) ≤ maxLen; unfold maxLen; omega

set_option maxRecDepth 100000 in
set_option maxHeartbeats 1600000 in
theorem Meadow_any (w : World) : Calls Tryz.prog 11 #[] w fun e w' => ∃ (m : MA) (A : Option Addr) (c : Nat), e = .returned (.agg #[.slice A (mead m).length c]) ∧ Wk w' A (mead m) ∧ Below w.heap.size w w' := by
 have hb0 : Below w.heap.size w (w.alloc (.cells #[.slice none 0 0] 24)) := (Below.refl _ w).alloc (Nat.le_refl _) _
 have q0 : Blk (w.alloc (.cells #[.slice none 0 0] 24)) w.heap.size #[.slice none 0 0] 24 := blk_new _ _ _ rfl
 have hs0 : (w.alloc (.cells #[.slice none 0 0] 24)).heap.size = w.heap.size + 1 := by simp
 have H0 := hd3 hb0 q0 hs0
 clear hb0 q0 hs0
 go_enter Tryz.func11, Tryz.ntmps11
 go_upto_region 1 with fail
 generalize w.alloc (.cells #[.slice none 0 0] 24) = w0 at *
 go_upto_region 2 with fail
 have H1 : Hid (CarK w0 ((((w0.alloc (.cells #[.int .i64 0, .int .i64 40, .int .i64 80] 3)).alloc (.cells #[.int .i64 0, .int .i64 30] 3)).alloc (.cells #[.int .i64 1, .int .i64 1, .slice (some ⟨w0.heap.size, 0, none⟩) 3 3, .int .i64 0, .int .i64 5, .int .i64 2, .int .i64 4, .int .i64 2, .int .i64 (-1), .slice (some ⟨w0.heap.size + 1, 0, none⟩) 2 2, .int .i64 1, .int .i64 1, .int .i64 0, .int .i64 10] 69)).alloc (.cells #[.slice (some ⟨w0.heap.size + 1 + 1, 0, none⟩) 2 2] 34)) (mo1 (exM w0.heap.size 0)) (mo2 (exM w0.heap.size 0))) := Lib.hid (car_known w0 (mo1 (exM w0.heap.size 0)) (mo2 (exM w0.heap.size 0)))
 generalize (((w0.alloc (.cells #[.int .i64 0, .int .i64 40, .int .i64 80] 3)).alloc (.cells #[.int .i64 0, .int .i64 30] 3)).alloc (.cells #[.int .i64 1, .int .i64 1, .slice (some ⟨w0.heap.size, 0, none⟩) 3 3, .int .i64 0, .int .i64 5, .int .i64 2, .int .i64 4, .int .i64 2, .int .i64 (-1), .slice (some ⟨w0.heap.size + 1, 0, none⟩) 2 2, .int .i64 1, .int .i64 1, .int .i64 0, .int .i64 10] 69)).alloc (.cells #[.slice (some ⟨w0.heap.size + 1 + 1, 0, none⟩) 2 2] 34) = w1 at *
 go_upto_region 3 with fail
 have H2 : Hid (CarK w1 ((((w1.alloc (.cells #[.int .i64 0, .int .i64 10, .int .i64 20, .int .i64 50] 3)).alloc (.cells #[.int .i64 0, .int .i64 20] 3)).alloc (.cells #[.int .i64 3, .int .i64 (-1), .slice (some ⟨w1.heap.size, 0, none⟩) 4 4, .int .i64 0, .int .i64 0, .int .i64 1, .int .i64 3, .int .i64 4, .int .i64 (-1), .slice (some ⟨w1.heap.size + 1, 0, none⟩) 2 2, .int .i64 0, .int .i64 2, .int .i64 0, .int .i64 0] 69)).alloc (.cells #[.slice (some ⟨w1.heap.size + 1 + 1, 0, none⟩) 2 2] 34)) (mo3 (exM 0 w1.heap.size)) (mo4 (exM 0 w1.heap.size))) := Lib.hid (car_known w1 (mo3 (exM 0 w1.heap.size)) (mo4 (exM 0 w1.heap.size)))
 generalize (((w1.alloc (.cells #[.int .i64 0, .int .i64 10, .int .i64 20, .int .i64 50] 3)).alloc (.cells #[.int .i64 0, .int .i64 20] 3)).alloc (.cells #[.int .i64 3, .int .i64 (-1), .slice (some ⟨w1.heap.size, 0, none⟩) 4 4, .int .i64 0, .int .i64 0, .int .i64 1, .int .i64 3, .int .i64 4, .int .i64 (-1), .slice (some ⟨w1.heap.size + 1, 0, none⟩) 2 2, .int .i64 0, .int .i64 2, .int .i64 0, .int .i64 0] 69)).alloc (.cells #[.slice (some ⟨w1.heap.size + 1 + 1, 0, none⟩) 2 2] 34) = w2 at *
 have r0 := blk_on (blk_on H0.out.2.1 (H1.out.bl)) H2.out.bl
 have rA := blk_alloc r0 (.cells #[.slice (some ⟨w0.heap.size + 1 + 1, 0, none⟩) 2 2, .slice (some ⟨w1.heap.size + 1 + 1, 0, none⟩) 2 2] 34)
 have p0 := cr 0 rA
 have f0 := bf 0 rA
 have p1 := cr 0 (H1.out.on H2.out.bl).2.2.2
 have p2 := cr 0 H2.out.bk
 have HF : Hid (((w2.alloc (.cells #[.slice (some ⟨w0.heap.size + 1 + 1, 0, none⟩) 2 2, .slice (some ⟨w1.heap.size + 1 + 1, 0, none⟩) 2 2] 34)).setCell ⟨w.heap.size, 0, none⟩ (.slice (some ⟨w2.heap.size, 0, none⟩) 2 2)).cell? ⟨w.heap.size, 0, none⟩ = some (.slice (some ⟨w2.heap.size, 0, none⟩) 2 2) ∧ Wk ((w2.alloc (.cells #[.slice (some ⟨w0.heap.size + 1 + 1, 0, none⟩) 2 2, .slice (some ⟨w1.heap.size + 1 + 1, 0, none⟩) 2 2] 34)).setCell ⟨w.heap.size, 0, none⟩ (.slice (some ⟨w2.heap.size, 0, none⟩) 2 2)) (some ⟨w2.heap.size, 0, none⟩) (mead (exM w0.heap.size w1.heap.size)) ∧ Below w.heap.size w ((w2.alloc (.cells #[.slice (some ⟨w0.heap.size + 1 + 1, 0, none⟩) 2 2, .slice (some ⟨w1.heap.size + 1 + 1, 0, none⟩) 2 2] 34)).setCell ⟨w.heap.size, 0, none⟩ (.slice (some ⟨w2.heap.size, 0, none⟩) 2 2))) := by
  have s0 := H0.out.2.2
  have s1 := H1.out.sz
  have s2 := H2.out.sz
  obtain ⟨a1, a2, a3, _⟩ := H1.out.on H2.out.bl
  have bA := blk_new w2 #[.slice (some ⟨w0.heap.size + 1 + 1, 0, none⟩) 2 2, .slice (some ⟨w1.heap.size + 1 + 1, 0, none⟩) 2 2] 34 rfl
  refine Lib.hid ⟨?_, mead_wk (blk_set (blk_alloc a1 _) (by show _ ≠ w.heap.size; omega) _) (blk_set (blk_alloc a2 _) (by show _ ≠ w.heap.size; omega) _) (blk_set (blk_alloc a3 _) (by show _ ≠ w.heap.size; omega) _) (blk_set (blk_alloc H2.out.b1 _) (by show _ ≠ w.heap.size; omega) _) (blk_set (blk_alloc H2.out.b2 _) (by show _ ≠ w.heap.size; omega) _) (blk_set (blk_alloc H2.out.b3 _) (by show _ ≠ w.heap.size; omega) _) (blk_set bA (by show _ ≠ w.heap.size; omega) _), ?_⟩
  ·exact World.cell?_setCell_same' _ _ _ (by rw [cr 0 (blk_alloc r0 _)]; rfl)
  ·exact ((((H0.out.1.trans (H1.out.bl.mono (by omega))).trans (H2.out.bl.mono (by omega)))).alloc (by omega) _).setCell (p := ⟨w.heap.size, 0, none⟩) (Nat.le_refl _) _
 clear H0 H1 H2 r0 rA
 go_wp2
 have q1 := HF.out.1
 exact bodyPost_ret (v := .agg #[.slice (some ⟨w2.heap.size, 0, none⟩) 2 2]) (by simp [results, Tryz.results11, go_sem, q1]) rfl ⟨exM w0.heap.size w1.heap.size, _, 2, rfl, HF.out.2.1, HF.out.2.2⟩
end Go.Proofs.YtegmniphgahblaaGreat
namespace Go.Proofs.YtegmniphgahblaaGreat
open Go.RowKit Go.Shelf

theorem blk_set4 {W : World} {g : Nat} {ty : TypeId} {z0 z1 z2 z3 : Value} (h : Blk W g #[z0, z1, z2, z3] ty) (v0 v1 v2 v3 : Value) : Blk ((((W.setCell ⟨g, 0, none⟩ v0).setCell ⟨g, 1, none⟩ v1).setCell ⟨g, 2, none⟩ v2).setCell ⟨g, 3, none⟩ v3) g #[v0, v1, v2, v3] ty := by
 have h1 : Blk (W.setCell ⟨g, 0, none⟩ v0) g #[v0, z1, z2, z3] ty := heap_setCell_same _ _ 0 _ _ _ h
 have h2 : Blk ((W.setCell ⟨g, 0, none⟩ v0).setCell ⟨g, 1, none⟩ v1) g #[v0, v1, z2, z3] ty := heap_setCell_same _ _ 1 _ _ _ h1
 have h3 : Blk (((W.setCell ⟨g, 0, none⟩ v0).setCell ⟨g, 1, none⟩ v1).setCell ⟨g, 2, none⟩ v2) g #[v0, v1, v2, z3] ty := heap_setCell_same _ _ 2 _ _ _ h2
 exact heap_setCell_same _ _ 3 _ _ _ h3
theorem blk_set2 {W : World} {g : Nat} {ty : TypeId} {z0 z1 : Value} (h : Blk W g #[z0, z1] ty) (v0 v1 : Value) : Blk ((W.setCell ⟨g, 0, none⟩ v0).setCell ⟨g, 1, none⟩ v1) g #[v0, v1] ty := by
 have h1 : Blk (W.setCell ⟨g, 0, none⟩ v0) g #[v0, z1] ty := heap_setCell_same _ _ 0 _ _ _ h
 exact heap_setCell_same _ _ 1 _ _ _ h1
theorem blk_other4 {W : World} {g b : Nat} {cs : Array Value} {ty : TypeId} (h : Blk W b cs ty) (hb : b ≠ g) (v0 v1 v2 v3 : Value) : Blk ((((W.setCell ⟨g, 0, none⟩ v0).setCell ⟨g, 1, none⟩ v1).setCell ⟨g, 2, none⟩ v2).setCell ⟨g, 3, none⟩ v3) b cs ty :=
 blk_set (p := ⟨g, 3, none⟩) (blk_set (p := ⟨g, 2, none⟩) (blk_set (p := ⟨g, 1, none⟩) (blk_set (p := ⟨g, 0, none⟩) h hb _) hb _) hb _) hb _
theorem blk_other2 {W : World} {g b : Nat} {cs : Array Value} {ty : TypeId} (h : Blk W b cs ty) (hb : b ≠ g) (v0 v1 : Value) : Blk ((W.setCell ⟨g, 0, none⟩ v0).setCell ⟨g, 1, none⟩ v1) b cs ty :=
 blk_set (p := ⟨g, 1, none⟩) (blk_set (p := ⟨g, 0, none⟩) h hb _) hb _

set_option maxRecDepth 100000 in
set_option maxHeartbeats 1600000 in
theorem Now_any (w : World) : Calls Tryz.prog 12 #[] w fun e w' => ∃ (s : Wt), e = .returned s.v ∧ (s.ri = [100] ∧ s.bo = [1, 1, 2, 1] ∧ s.lk = [5, 1, 0, 2] ∧ s.lo = [2, 10, 3, 0]) ∧ Wet w' s ∧ Below w.heap.size w w' := by
 have hb0 : Below w.heap.size w (w.alloc (.cells #[.slice none 0 0, .slice none 0 0, .slice none 0 0, .slice none 0 0] 30)) := (Below.refl _ w).alloc (Nat.le_refl _) _
 have q0 : Blk (w.alloc (.cells #[.slice none 0 0, .slice none 0 0, .slice none 0 0, .slice none 0 0] 30)) w.heap.size #[.slice none 0 0, .slice none 0 0, .slice none 0 0, .slice none 0 0] 30 := blk_new _ _ _ rfl
 have hs0 : (w.alloc (.cells #[.slice none 0 0, .slice none 0 0, .slice none 0 0, .slice none 0 0] 30)).heap.size = w.heap.size + 1 := by simp
 have H0 := hd3 hb0 q0 hs0
 clear hb0 q0 hs0
 go_enter Tryz.func12, Tryz.ntmps12
 go_upto_region 1 with fail
 generalize w.alloc (.cells #[.slice none 0 0, .slice none 0 0, .slice none 0 0, .slice none 0 0] 30) = w0 at *
 have H1 : Hid (Blk ((((w0.alloc (.cells #[.int .i64 100] 3)).alloc (.cells #[.int .i64 1, .int .i64 1, .int .i64 2, .int .i64 1] 3)).alloc (.cells #[.int .i64 5, .int .i64 1, .int .i64 0, .int .i64 2] 3)).alloc (.cells #[.int .i64 2, .int .i64 10, .int .i64 3, .int .i64 0] 3)) w.heap.size #[.slice none 0 0, .slice none 0 0, .slice none 0 0, .slice none 0 0] 30) := Lib.hid (blk_alloc (blk_alloc (blk_alloc (blk_alloc H0.out.2.1 _) _) _) _)
 have HF : Hid (Blk ((((((((w0.alloc (.cells #[.int .i64 100] 3)).alloc (.cells #[.int .i64 1, .int .i64 1, .int .i64 2, .int .i64 1] 3)).alloc (.cells #[.int .i64 5, .int .i64 1, .int .i64 0, .int .i64 2] 3)).alloc (.cells #[.int .i64 2, .int .i64 10, .int .i64 3, .int .i64 0] 3)).setCell ⟨w.heap.size, 0, none⟩ (.slice (some ⟨w0.heap.size, 0, none⟩) 1 1)).setCell ⟨w.heap.size, 1, none⟩ (.slice (some ⟨w0.heap.size + 1, 0, none⟩) 4 4)).setCell ⟨w.heap.size, 2, none⟩ (.slice (some ⟨w0.heap.size + 1 + 1, 0, none⟩) 4 4)).setCell ⟨w.heap.size, 3, none⟩ (.slice (some ⟨w0.heap.size + 1 + 1 + 1, 0, none⟩) 4 4)) w.heap.size #[.slice (some ⟨w0.heap.size, 0, none⟩) 1 1, .slice (some ⟨w0.heap.size + 1, 0, none⟩) 4 4, .slice (some ⟨w0.heap.size + 1 + 1, 0, none⟩) 4 4, .slice (some ⟨w0.heap.size + 1 + 1 + 1, 0, none⟩) 4 4] 30 ∧
   Wet ((((((((w0.alloc (.cells #[.int .i64 100] 3)).alloc (.cells #[.int .i64 1, .int .i64 1, .int .i64 2, .int .i64 1] 3)).alloc (.cells #[.int .i64 5, .int .i64 1, .int .i64 0, .int .i64 2] 3)).alloc (.cells #[.int .i64 2, .int .i64 10, .int .i64 3, .int .i64 0] 3)).setCell ⟨w.heap.size, 0, none⟩ (.slice (some ⟨w0.heap.size, 0, none⟩) 1 1)).setCell ⟨w.heap.size, 1, none⟩ (.slice (some ⟨w0.heap.size + 1, 0, none⟩) 4 4)).setCell ⟨w.heap.size, 2, none⟩ (.slice (some ⟨w0.heap.size + 1 + 1, 0, none⟩) 4 4)).setCell ⟨w.heap.size, 3, none⟩ (.slice (some ⟨w0.heap.size + 1 + 1 + 1, 0, none⟩) 4 4)) ⟨some ⟨w0.heap.size, 0, none⟩, some ⟨w0.heap.size + 1, 0, none⟩, some ⟨w0.heap.size + 1 + 1, 0, none⟩, some ⟨w0.heap.size + 1 + 1 + 1, 0, none⟩, 1, 4, 4, 4, [100], [1, 1, 2, 1], [5, 1, 0, 2], [2, 10, 3, 0]⟩ ∧ Below w.heap.size w ((((((((w0.alloc (.cells #[.int .i64 100] 3)).alloc (.cells #[.int .i64 1, .int .i64 1, .int .i64 2, .int .i64 1] 3)).alloc (.cells #[.int .i64 5, .int .i64 1, .int .i64 0, .int .i64 2] 3)).alloc (.cells #[.int .i64 2, .int .i64 10, .int .i64 3, .int .i64 0] 3)).setCell ⟨w.heap.size, 0, none⟩ (.slice (some ⟨w0.heap.size, 0, none⟩) 1 1)).setCell ⟨w.heap.size, 1, none⟩ (.slice (some ⟨w0.heap.size + 1, 0, none⟩) 4 4)).setCell ⟨w.heap.size, 2, none⟩ (.slice (some ⟨w0.heap.size + 1 + 1, 0, none⟩) 4 4)).setCell ⟨w.heap.size, 3, none⟩ (.slice (some ⟨w0.heap.size + 1 + 1 + 1, 0, none⟩) 4 4))) := by
  have s0 := H0.out.2.2
  have b0 : Blk ((((w0.alloc (.cells #[.int .i64 100] 3)).alloc (.cells #[.int .i64 1, .int .i64 1, .int .i64 2, .int .i64 1] 3)).alloc (.cells #[.int .i64 5, .int .i64 1, .int .i64 0, .int .i64 2] 3)).alloc (.cells #[.int .i64 2, .int .i64 10, .int .i64 3, .int .i64 0] 3)) w0.heap.size #[.int .i64 100] 3 := blk_alloc (blk_alloc (blk_alloc (blk_new _ _ _ rfl) _) _) _
  have b1 : Blk ((((w0.alloc (.cells #[.int .i64 100] 3)).alloc (.cells #[.int .i64 1, .int .i64 1, .int .i64 2, .int .i64 1] 3)).alloc (.cells #[.int .i64 5, .int .i64 1, .int .i64 0, .int .i64 2] 3)).alloc (.cells #[.int .i64 2, .int .i64 10, .int .i64 3, .int .i64 0] 3)) (w0.heap.size + 1) #[.int .i64 1, .int .i64 1, .int .i64 2, .int .i64 1] 3 := blk_alloc (blk_alloc (blk_new _ _ _ (by simp)) _) _
  have b2 : Blk ((((w0.alloc (.cells #[.int .i64 100] 3)).alloc (.cells #[.int .i64 1, .int .i64 1, .int .i64 2, .int .i64 1] 3)).alloc (.cells #[.int .i64 5, .int .i64 1, .int .i64 0, .int .i64 2] 3)).alloc (.cells #[.int .i64 2, .int .i64 10, .int .i64 3, .int .i64 0] 3)) (w0.heap.size + 1 + 1) #[.int .i64 5, .int .i64 1, .int .i64 0, .int .i64 2] 3 := blk_alloc (blk_new _ _ _ (by simp)) _
  have b3 : Blk ((((w0.alloc (.cells #[.int .i64 100] 3)).alloc (.cells #[.int .i64 1, .int .i64 1, .int .i64 2, .int .i64 1] 3)).alloc (.cells #[.int .i64 5, .int .i64 1, .int .i64 0, .int .i64 2] 3)).alloc (.cells #[.int .i64 2, .int .i64 10, .int .i64 3, .int .i64 0] 3)) (w0.heap.size + 1 + 1 + 1) #[.int .i64 2, .int .i64 10, .int .i64 3, .int .i64 0] 3 := blk_new _ _ _ (by simp)
  have hb : Below w.heap.size w ((((w0.alloc (.cells #[.int .i64 100] 3)).alloc (.cells #[.int .i64 1, .int .i64 1, .int .i64 2, .int .i64 1] 3)).alloc (.cells #[.int .i64 5, .int .i64 1, .int .i64 0, .int .i64 2] 3)).alloc (.cells #[.int .i64 2, .int .i64 10, .int .i64 3, .int .i64 0] 3)) := (((H0.out.1.alloc (by omega) _).alloc (by simp; omega) _).alloc (by simp; omega) _).alloc (by simp; omega) _
  exact Lib.hid ⟨blk_set4 H1.out _ _ _ _, ⟨rd_of_blk (xs := [100]) (blk_other4 b0 (by omega) _ _ _ _), rd_of_blk (xs := [1, 1, 2, 1]) (blk_other4 b1 (by omega) _ _ _ _), rd_of_blk (xs := [5, 1, 0, 2]) (blk_other4 b2 (by omega) _ _ _ _), rd_of_blk (xs := [2, 10, 3, 0]) (blk_other4 b3 (by omega) _ _ _ _), by show (1 : Nat) ≤ 1000; omega, by show (4 : Nat) ≤ 1000; omega, by show (4 : Nat) ≤ 1000; omega, by show (4 : Nat) ≤ 1000; omega⟩,
   (((hb.setCell (p := ⟨w.heap.size, 0, none⟩) (Nat.le_refl _) _).setCell (p := ⟨w.heap.size, 1, none⟩) (Nat.le_refl _) _).setCell (p := ⟨w.heap.size, 2, none⟩) (Nat.le_refl _) _).setCell (p := ⟨w.heap.size, 3, none⟩) (Nat.le_refl _) _⟩
 have p0 := cr 0 H1.out
 have p1 := cr 1 H1.out
 have p2 := cr 2 H1.out
 have p3 := cr 3 H1.out
 have f0 := bf 0 H1.out
 have f1 := bf 1 H1.out
 have f2 := bf 2 H1.out
 have f3 := bf 3 H1.out
 clear H0 H1
 go_wp2
 clear p0 p1 p2 p3 f0 f1 f2 f3
 have q0 := cr 0 HF.out.1
 have q1 := cr 1 HF.out.1
 have q2 := cr 2 HF.out.1
 have q3 := cr 3 HF.out.1
 generalize (((((((w0.alloc (.cells #[.int .i64 100] 3)).alloc (.cells #[.int .i64 1, .int .i64 1, .int .i64 2, .int .i64 1] 3)).alloc (.cells #[.int .i64 5, .int .i64 1, .int .i64 0, .int .i64 2] 3)).alloc (.cells #[.int .i64 2, .int .i64 10, .int .i64 3, .int .i64 0] 3)).setCell ⟨w.heap.size, 0, none⟩ (.slice (some ⟨w0.heap.size, 0, none⟩) 1 1)).setCell ⟨w.heap.size, 1, none⟩ (.slice (some ⟨w0.heap.size + 1, 0, none⟩) 4 4)).setCell ⟨w.heap.size, 2, none⟩ (.slice (some ⟨w0.heap.size + 1 + 1, 0, none⟩) 4 4)).setCell ⟨w.heap.size, 3, none⟩ (.slice (some ⟨w0.heap.size + 1 + 1 + 1, 0, none⟩) 4 4) = wz at *
 exact bodyPost_ret (v := .agg #[.slice (some ⟨w0.heap.size, 0, none⟩) 1 1, .slice (some ⟨w0.heap.size + 1, 0, none⟩) 4 4, .slice (some ⟨w0.heap.size + 1 + 1, 0, none⟩) 4 4, .slice (some ⟨w0.heap.size + 1 + 1 + 1, 0, none⟩) 4 4]) (by simp [results, Tryz.results12, go_sem, q0, q1, q2, q3]) rfl ⟨_, rfl, ⟨rfl, rfl, rfl, rfl⟩, HF.out.2.1, HF.out.2.2⟩

end Go.Proofs.YtegmniphgahblaaGreat
