/- Walks: the specification's cased, CheckCase. -/
import Derived.Test.YtdadoelajhemjaaC7
import Derived.Test.YtdadoelajhemjaaC3
import Derived.Test.YtdadoelajhemjaaM8
namespace Go.Proofs.Ytdadoelajhemjaa
open Go.RowKit Go.Shelf

def casS (g g1 : Nat) (v u0 u1 : Value) (k : Nat) (X : World) : Prop := match k with
 | 0 => X.cell? ⟨g, 0, none⟩ = some v
 | 1 => X.cell? ⟨g1, 0, none⟩ = some u0 ∧ X.cell? ⟨g1, 1, none⟩ = some u1
 | _ => True
theorem casS_on {g g1 : Nat} {v u0 u1 : Value} {k : Nat} {X Y : World} (hb : Below X.heap.size X Y) (h : casS g g1 v u0 u1 k X) : casS g g1 v u0 u1 k Y := by
 have c := fun {a : Addr} {u : Value} (e : X.cell? a = some u) => (hb.cell (p := a) (lt_of_cell e)).trans e
 match k, h with
 | 0, h => exact c h
 | 1, h => exact ⟨c h.1, c h.2⟩
 | _ + 2, _ => trivial
def casN (gx b o : Nat) (v0 v1 v2 : Value) (k : Nat) (X : World) : Prop := match k with
 | 0 => X.cell? ⟨gx, 0, none⟩ = some v0
 | 1 => X.cell? ⟨gx, 1, none⟩ = some v1
 | 2 => X.cell? ⟨b, o + 2, none⟩ = some v2
 | _ => True
set_option maxRecDepth 100000 in
set_option maxHeartbeats 6400000 in
theorem rCased_any (A : Option Addr) (c : Nat) (ws : List Car) (s : Cs) (w : World) (h : Wk w A ws) (hs : Csd w s) :
  Calls Try.prog 109 #[.agg #[.slice A ws.length c], s.v] w fun e w' => e = .returned (.int .i64 (caseE ws s)) ∧ Below w.heap.size w w' := by
 obtain ⟨A0, B1, d0, d1, ri, bo⟩ := s
 have n1 := h.n1
 have n2 := h.n2
 show Calls _ _ #[.agg #[.slice A ws.length c], .agg #[.slice A0 ri.length d0, .slice B1 bo.length d1]] _ _
 have hb : Below w.heap.size w ((w.alloc (.cells #[.slice A ws.length c] 24)).alloc (.cells #[.slice A0 ri.length d0, .slice B1 bo.length d1] 51)) := ((Below.refl _ w).alloc (Nat.le_refl _) _).alloc (by simp) _
 have K := Lib.hid ((((stays_bl hb).and (stays_blk (blk_alloc (blk_new w #[.slice A ws.length c] 24 rfl) _))).and (stays_blk (g := w.heap.size + 1) (blk_new (w.alloc (.cells #[.slice A ws.length c] 24)) #[.slice A0 ri.length d0, .slice B1 bo.length d1] 51 (by simp)))).and ((stays_wk (h.ext hb)).and (stays_csd (hs.ext hb))))
 have hm := hs.m0
 dsimp only at hm
 clear hb h hs
 obtain ⟨R, hR⟩ : ∃ R, caseE ws ⟨A0, B1, d0, d1, ri, bo⟩ = R := ⟨_, rfl⟩
 have HR := hd2 (fun (h : ¬ CsOk ws ⟨A0, B1, d0, d1, ri, bo⟩) => (show R = 1 by rcases caseE_cases ws ⟨A0, B1, d0, d1, ri, bo⟩ with e | e; exact absurd (caseE_zero.1 e) h; exact hR.symm.trans e)) (fun (h : CsOk ws ⟨A0, B1, d0, d1, ri, bo⟩) => hR.symm.trans (caseE_zero.2 h))
 rw [hR]
 clear hR
 by_cases e0 : ri.length = (headsTo ws ws.length).length
 rotate_left
 ·obtain rfl := HR.out.1 (fun ok => e0 ok.l0)
  have z0 : ((ri.length : Int) != ((headsTo ws ws.length).length : Int)) = true := by simp; omega
  clear HR e0
  go_enter Try.func109, Try.ntmps109
  go_upto_region 1 with fail
  generalize (w.alloc (.cells #[.slice A ws.length c] 24)).alloc (.cells #[.slice A0 ri.length d0, .slice B1 bo.length d1] 51) = W0 at *
  have p0 := cr 0 K.out.1.1.1.2
  go_upto_region 2 with (go_at_call 90; refine (rOutlets_any A c ws _ K.out.1.2.1).mono ?_; rintro e w1 ⟨A5, c5, rfl, hr, -, hb⟩; have K1 := Lib.hid ((K.out.on hb).push (show Stays (fun X => RdO X X.heap.size A5 (outs ws)) _ from ⟨hr, fun _ _ a b => a.ext b⟩)); clear hr hb)
  clear p0 K
  have K2 := Lib.hid (K1.out.on ((Below.refl _ w1).drew))
  clear K1
  refine wp_region_K (by kernel_rfl) (casS w.heap.size (w.heap.size + 1) (.slice A ws.length c) (.slice A0 ri.length d0) (.slice B1 bo.length d1)) (fun _ _ => true) ?_
  generalize w1.drew = X0 at *
  have s0 : casS w.heap.size (w.heap.size + 1) (.slice A ws.length c) (.slice A0 ri.length d0) (.slice B1 bo.length d1) 0 X0 := cr 0 K2.out.1.1.1.2
  have s1 : casS w.heap.size (w.heap.size + 1) (.slice A ws.length c) (.slice A0 ri.length d0) (.slice B1 bo.length d1) 1 X0 := ⟨cr 0 K2.out.1.1.2, cr 1 K2.out.1.1.2⟩
  refine kF 5 0 rfl ?_
  refine kT 1 1 rfl ?_
  refine kF 5 2 rfl ?_
  refine kT 0 3 rfl ?_
  refine kR 4 rfl fun K hK => ?_
  go_simp
  refine (rHeads_any A c ws X0 K2.out.1.2.2.1).mono ?_
  rintro e X1 ⟨A6, c6, rfl, hr, -, hb⟩
  dsimp only
  rw [hInt_length]
  refine hK.out _ _ (fun k _ h => casS_on hb h) ?_
  have K3 := Lib.hid (K2.out.on hb)
  replace s1 := casS_on hb s1
  clear hK hb hr K2 s0
  refine kF 5 5 rfl ?_
  refine kF 5 6 rfl ?_
  refine kF 5 7 rfl ?_
  refine kS 5 8 rfl ?_
  refine kS 5 9 rfl ?_
  refine kS 5 10 rfl ?_
  refine kS 5 11 rfl ?_
  refine kS 5 12 rfl ?_
  refine kS 5 13 rfl ?_
  refine kF 5 14 rfl ?_
  refine kD ?_
  clear s1
  go_wp2
  go_ret
  exact ⟨rfl, K3.out.1.1.1.1⟩
 have z0 : ((ri.length : Int) != ((headsTo ws ws.length).length : Int)) = false := by simp; omega
 by_cases e1 : bo.length = (outs ws).length
 rotate_left
 ·obtain rfl := HR.out.1 (fun ok => e1 ok.l1)
  have z1 : ((bo.length : Int) != ((outs ws).length : Int)) = true := by simp; omega
  clear HR e1 e0
  go_enter Try.func109, Try.ntmps109
  go_upto_region 1 with fail
  generalize (w.alloc (.cells #[.slice A ws.length c] 24)).alloc (.cells #[.slice A0 ri.length d0, .slice B1 bo.length d1] 51) = W0 at *
  have p0 := cr 0 K.out.1.1.1.2
  go_upto_region 2 with (go_at_call 90; refine (rOutlets_any A c ws _ K.out.1.2.1).mono ?_; rintro e w1 ⟨A5, c5, rfl, hr, -, hb⟩; have K1 := Lib.hid ((K.out.on hb).push (show Stays (fun X => RdO X X.heap.size A5 (outs ws)) _ from ⟨hr, fun _ _ a b => a.ext b⟩)); clear hr hb)
  clear p0 K
  have K2 := Lib.hid (K1.out.on ((Below.refl _ w1).drew))
  clear K1
  refine wp_region_K (by kernel_rfl) (casS w.heap.size (w.heap.size + 1) (.slice A ws.length c) (.slice A0 ri.length d0) (.slice B1 bo.length d1)) (fun _ _ => true) ?_
  generalize w1.drew = X0 at *
  have s0 : casS w.heap.size (w.heap.size + 1) (.slice A ws.length c) (.slice A0 ri.length d0) (.slice B1 bo.length d1) 0 X0 := cr 0 K2.out.1.1.1.2
  have s1 : casS w.heap.size (w.heap.size + 1) (.slice A ws.length c) (.slice A0 ri.length d0) (.slice B1 bo.length d1) 1 X0 := ⟨cr 0 K2.out.1.1.2, cr 1 K2.out.1.1.2⟩
  refine kF 5 0 rfl ?_
  refine kT 1 1 rfl ?_
  refine kF 5 2 rfl ?_
  refine kT 0 3 rfl ?_
  refine kR 4 rfl fun K hK => ?_
  go_simp
  refine (rHeads_any A c ws X0 K2.out.1.2.2.1).mono ?_
  rintro e X1 ⟨A6, c6, rfl, hr, -, hb⟩
  dsimp only
  rw [hInt_length]
  refine hK.out _ _ (fun k _ h => casS_on hb h) ?_
  have K3 := Lib.hid (K2.out.on hb)
  replace s1 := casS_on hb s1
  clear hK hb hr K2 s0
  refine kF 5 5 rfl ?_
  refine kF 5 6 rfl ?_
  refine kF 5 7 rfl ?_
  refine kF 5 8 rfl ?_
  refine kT 1 9 rfl ?_
  refine kF 5 10 rfl ?_
  refine kF 5 11 rfl ?_
  refine kF 5 12 rfl ?_
  refine kF 5 13 rfl ?_
  refine kF 5 14 rfl ?_
  refine kD ?_
  clear s1
  go_wp2
  go_ret
  exact ⟨rfl, K3.out.1.1.1.1⟩
 have z1 : ((bo.length : Int) != ((outs ws).length : Int)) = false := by simp; omega
 have HE := hd2 e0 e1
 clear e0 e1
 go_enter Try.func109, Try.ntmps109
 go_upto_region 1 with fail
 generalize (w.alloc (.cells #[.slice A ws.length c] 24)).alloc (.cells #[.slice A0 ri.length d0, .slice B1 bo.length d1] 51) = W0 at *
 have p0 := cr 0 K.out.1.1.1.2
 go_upto_region 2 with (go_at_call 90; refine (rOutlets_any A c ws _ K.out.1.2.1).mono ?_; rintro e w1 ⟨A5, c5, rfl, hr, -, hb⟩; have K1 := Lib.hid ((K.out.on hb).push (show Stays (fun X => RdO X X.heap.size A5 (outs ws)) _ from ⟨hr, fun _ _ a b => a.ext b⟩)); clear hr hb)
 clear p0 K
 have K2 := Lib.hid (K1.out.on ((Below.refl _ w1).drew))
 clear K1
 refine wp_region_K (by kernel_rfl) (casS w.heap.size (w.heap.size + 1) (.slice A ws.length c) (.slice A0 ri.length d0) (.slice B1 bo.length d1)) (fun _ _ => true) ?_
 generalize w1.drew = X0 at *
 have s0 : casS w.heap.size (w.heap.size + 1) (.slice A ws.length c) (.slice A0 ri.length d0) (.slice B1 bo.length d1) 0 X0 := cr 0 K2.out.1.1.1.2
 have s1 : casS w.heap.size (w.heap.size + 1) (.slice A ws.length c) (.slice A0 ri.length d0) (.slice B1 bo.length d1) 1 X0 := ⟨cr 0 K2.out.1.1.2, cr 1 K2.out.1.1.2⟩
 refine kF 5 0 rfl ?_
 refine kT 1 1 rfl ?_
 refine kF 5 2 rfl ?_
 refine kT 0 3 rfl ?_
 refine kR 4 rfl fun K hK => ?_
 go_simp
 refine (rHeads_any A c ws X0 K2.out.1.2.2.1).mono ?_
 rintro e X1 ⟨A6, c6, rfl, hr, -, hb⟩
 dsimp only
 rw [hInt_length]
 refine hK.out _ _ (fun k _ h => casS_on hb h) ?_
 have K3 := Lib.hid (K2.out.on hb)
 replace s1 := casS_on hb s1
 clear hK hb hr K2 s0
 refine kF 5 5 rfl ?_
 refine kF 5 6 rfl ?_
 refine kF 5 7 rfl ?_
 refine kF 5 8 rfl ?_
 refine kT 1 9 rfl ?_
 refine kF 5 10 rfl ?_
 refine kF 5 11 rfl ?_
 refine kF 5 12 rfl ?_
 refine kF 5 13 rfl ?_
 refine kF 5 14 rfl ?_
 refine kD ?_
 clear s1
 clear z0 z1
 go_upto_region 5 with fail
 go_loopg [6, 7] ri.length (fun gg i _ wr => ∃ t : Nat, t ≤ ri.length ∧ ri.length - t ≤ gg ∧ i = .int .i64 t ∧ Aside (Below X1.heap.size X1 wr ∧ ∀ j, j < t → 0 ≤ (sAt ri j).1 ∧ (sAt ri j).1 ≤ (sAt ri j).2 ∧ (sAt ri j).2 ≤ 1048576))
 case atStart => exact ⟨0, Nat.zero_le _, by omega, rfl, Below.refl _ _, fun j hj => absurd hj (Nat.not_lt_zero _)⟩
 case round =>
  obtain ⟨t, hlt0, hgg, rfl, hA⟩ := hrel
  have HA := Lib.hid hA.out
  clear hA
  have L := Lib.hid (K3.out.on HA.out.1)
  have p1 := cr 0 L.out.1.1.2
  by_cases hlt : t < ri.length
  ·have hltz : (t : Int) < (ri.length : Int) := by omega
   have hr0 : RdS wr wr.heap.size A0 ri := L.out.1.2.2.2.r0
   obtain ⟨b0, o0, rfl, _, hc⟩ := hr0 (by omega)
   have p2 := (hc t hlt).c0
   have p2' := (hc t hlt).c1
   clear hc hr0
   cases hb : spanB (sAt ri t).1 (sAt ri t).2 1048576 with
   | false =>
    obtain rfl := HR.out.1 (fun ok => by
     have := decide_eq_true (ok.r0 t hlt)
     rw [show decide (0 ≤ (sAt ri t).1 ∧ (sAt ri t).1 ≤ (sAt ri t).2 ∧ (sAt ri t).2 ≤ 1048576) = false from hb] at this
     cases this)
    have G := Lib.hid hb
    clear hb
    go_wp2_with (go_at_call 137; refine (rFlows_any _ _ _).mono ?_; rw [G.out]; rintro e w7 ⟨rfl, hb⟩; have L7 := Lib.hid (L.out.on hb); clear hb)
    go_ret
    exact ⟨rfl, L7.out.1.1.1.1⟩
   | true =>
    have G := Lib.hid hb
    clear hb
    go_wp2_with (go_at_call 137; refine (rFlows_any _ _ _).mono ?_; rw [G.out]; rintro e w7 ⟨rfl, hb⟩; have HB := Lib.hid (HA.out.1.trans (hb.mono HA.out.1.size)); clear hb)
    go_roundg (ri.length - (t + 1))
    case measure => omega
    case rel => exact ⟨t + 1, by omega, by omega, by go_num, (show _ ∧ _ from ⟨HB.out, fun j hj => by
     by_cases e : j = t
     ·subst e; exact of_decide_eq_true G.out
     ·exact HA.out.2 j (by omega)⟩)⟩
  ·have hltz : ¬ (t : Int) < (ri.length : Int) := by omega
   obtain rfl : t = ri.length := by omega
   clear hlt hlt0 hgg
   go_upto_region 11 with fail
   clear hltz p1
   have HI := Lib.hid HA.out.2
   have HX := Lib.hid HA.out.1
   clear HA L
   generalize wr = w5 at *
   go_loopg [8, 9] (outs ws).length (fun gg i _ wr => ∃ t : Nat, t ≤ (outs ws).length ∧ (outs ws).length - t ≤ gg ∧ i = .int .i64 t ∧ Aside (Below X1.heap.size X1 wr ∧ ∀ j, j < t → 0 ≤ (sAt bo j).1 ∧ (sAt bo j).1 ≤ (sAt bo j).2 ∧ (sAt bo j).2 ≤ ((oAt (outs ws) j).ps.length : Int) - 1))
   case atStart => exact ⟨0, Nat.zero_le _, by omega, rfl, HX.out, fun j hj => absurd hj (Nat.not_lt_zero _)⟩
   case round =>
    obtain ⟨t, hlt0, hgg, rfl, hA⟩ := hrel
    have HA := Lib.hid hA.out
    clear hA
    by_cases hlt : t < (outs ws).length
    ·have hltz : (t : Int) < ((outs ws).length : Int) := by omega
     have hltb : (t : Int) < (bo.length : Int) := by rw [HE.out.2]; omega
     have HB := Lib.hid HA.out.1
     have hr1 : RdS wr wr.heap.size B1 bo := (K3.out.on HB.out).1.2.2.2.r1
     have hrO := (K3.out.on HB.out).1.2.1
     have p1 := cr 1 (K3.out.on HB.out).1.1.2
     obtain ⟨b1, o1, rfl, _, hc1⟩ := hr1 (by rw [HE.out.2]; omega)
     obtain ⟨b, o, rfl, _, hcO⟩ := hrO (by omega)
     have p2 := (hc1 t (by rw [HE.out.2]; exact hlt)).c0
     have p2' := (hc1 t (by rw [HE.out.2]; exact hlt)).c1
     have p3 := (hcO t hlt).c2
     clear hr1 hrO hc1 hcO
     by_cases c1 : (sAt bo t).1 < 0
     ·obtain rfl := HR.out.1 (fun ok => by have := ok.r1 t hlt; dsimp only at this; omega)
      go_upto_region 14 with fail
      have HX := hd3 (HB.out.trans (((Below.refl _ wr).alloc (Nat.le_refl _) (.cells #[.int .i64 (sAt bo t).1, .int .i64 (sAt bo t).2] 40)).mono HB.out.size)) (blk_new wr #[.int .i64 (sAt bo t).1, .int .i64 (sAt bo t).2] 40 rfl) (cell_alloc p3 (.cells #[.int .i64 (sAt bo t).1, .int .i64 (sAt bo t).2] 40))
      clear p1 p2 p2' p3
      generalize wr.alloc (.cells #[.int .i64 (sAt bo t).1, .int .i64 (sAt bo t).2] 40) = x9 at *
      generalize wr.heap.size = gx at *
      have s0 : casN gx b (o + t * 7) (.int .i64 (sAt bo t).1) (.int .i64 (sAt bo t).2) (.slice (oAt (outs ws) t).P (oAt (outs ws) t).ps.length (oAt (outs ws) t).c) 0 x9.drew := cr 0 HX.out.2.1
      have s1 : casN gx b (o + t * 7) (.int .i64 (sAt bo t).1) (.int .i64 (sAt bo t).2) (.slice (oAt (outs ws) t).P (oAt (outs ws) t).ps.length (oAt (outs ws) t).c) 1 x9.drew := cr 1 HX.out.2.1
      have s2 : casN gx b (o + t * 7) (.int .i64 (sAt bo t).1) (.int .i64 (sAt bo t).2) (.slice (oAt (outs ws) t).P (oAt (outs ws) t).ps.length (oAt (outs ws) t).c) 2 x9.drew := HX.out.2.2
      have HB2 := Lib.hid (HX.out.1.drew)
      clear HX HB
      refine wp_region_K (by kernel_rfl) (casN gx b (o + t * 7) (.int .i64 (sAt bo t).1) (.int .i64 (sAt bo t).2) (.slice (oAt (outs ws) t).P (oAt (outs ws) t).ps.length (oAt (outs ws) t).c)) (fun _ _ => true) ?_
      generalize x9.drew = X2 at *
      refine kF 5 0 rfl ?_
      refine kT 0 1 rfl ?_
      refine kF 5 2 rfl ?_
      refine kF 5 3 rfl ?_
      refine kS 5 4 rfl ?_
      refine kS 5 5 rfl ?_
      refine kS 5 6 rfl ?_
      refine kS 5 7 rfl ?_
      refine kS 5 8 rfl ?_
      refine kF 5 9 rfl ?_
      refine kF 5 10 rfl ?_
      refine kS 5 11 rfl ?_
      refine kS 5 12 rfl ?_
      refine kS 5 13 rfl ?_
      refine kS 5 14 rfl ?_
      refine kS 5 15 rfl ?_
      refine kS 5 16 rfl ?_
      refine kS 5 17 rfl ?_
      refine kS 5 18 rfl ?_
      refine kS 5 19 rfl ?_
      refine kF 5 20 rfl ?_
      refine kD ?_
      clear s0 s1 s2
      go_wp2
      go_ret
      exact ⟨rfl, K3.out.1.1.1.1.trans (HB2.out.mono K3.out.1.1.1.1.size)⟩
     have c1' : ¬ (sAt bo t).1 < 0 := c1
     by_cases c2 : (sAt bo t).2 < (sAt bo t).1
     ·obtain rfl := HR.out.1 (fun ok => by have := ok.r1 t hlt; dsimp only at this; omega)
      go_upto_region 14 with fail
      have HX := hd3 (HB.out.trans (((Below.refl _ wr).alloc (Nat.le_refl _) (.cells #[.int .i64 (sAt bo t).1, .int .i64 (sAt bo t).2] 40)).mono HB.out.size)) (blk_new wr #[.int .i64 (sAt bo t).1, .int .i64 (sAt bo t).2] 40 rfl) (cell_alloc p3 (.cells #[.int .i64 (sAt bo t).1, .int .i64 (sAt bo t).2] 40))
      clear p1 p2 p2' p3
      generalize wr.alloc (.cells #[.int .i64 (sAt bo t).1, .int .i64 (sAt bo t).2] 40) = x9 at *
      generalize wr.heap.size = gx at *
      have s0 : casN gx b (o + t * 7) (.int .i64 (sAt bo t).1) (.int .i64 (sAt bo t).2) (.slice (oAt (outs ws) t).P (oAt (outs ws) t).ps.length (oAt (outs ws) t).c) 0 x9.drew := cr 0 HX.out.2.1
      have s1 : casN gx b (o + t * 7) (.int .i64 (sAt bo t).1) (.int .i64 (sAt bo t).2) (.slice (oAt (outs ws) t).P (oAt (outs ws) t).ps.length (oAt (outs ws) t).c) 1 x9.drew := cr 1 HX.out.2.1
      have s2 : casN gx b (o + t * 7) (.int .i64 (sAt bo t).1) (.int .i64 (sAt bo t).2) (.slice (oAt (outs ws) t).P (oAt (outs ws) t).ps.length (oAt (outs ws) t).c) 2 x9.drew := HX.out.2.2
      have HB2 := Lib.hid (HX.out.1.drew)
      clear HX HB
      refine wp_region_K (by kernel_rfl) (casN gx b (o + t * 7) (.int .i64 (sAt bo t).1) (.int .i64 (sAt bo t).2) (.slice (oAt (outs ws) t).P (oAt (outs ws) t).ps.length (oAt (outs ws) t).c)) (fun _ _ => true) ?_
      generalize x9.drew = X2 at *
      refine kF 5 0 rfl ?_
      refine kT 0 1 rfl ?_
      refine kF 5 2 rfl ?_
      refine kF 5 3 rfl ?_
      refine kF 5 4 rfl ?_
      refine kT 0 5 rfl ?_
      refine kF 5 6 rfl ?_
      refine kT 1 7 rfl ?_
      refine kF 5 8 rfl ?_
      refine kF 5 9 rfl ?_
      refine kF 5 10 rfl ?_
      refine kS 5 11 rfl ?_
      refine kS 5 12 rfl ?_
      refine kS 5 13 rfl ?_
      refine kS 5 14 rfl ?_
      refine kS 5 15 rfl ?_
      refine kS 5 16 rfl ?_
      refine kS 5 17 rfl ?_
      refine kS 5 18 rfl ?_
      refine kS 5 19 rfl ?_
      refine kF 5 20 rfl ?_
      refine kD ?_
      clear s0 s1 s2
      go_wp2
      go_ret
      exact ⟨rfl, K3.out.1.1.1.1.trans (HB2.out.mono K3.out.1.1.1.1.size)⟩
     by_cases c3 : ((oAt (outs ws) t).ps.length : Int) ≤ (sAt bo t).2
     ·obtain rfl := HR.out.1 (fun ok => by have := ok.r1 t hlt; dsimp only at this; omega)
      go_upto_region 14 with fail
      have HX := hd3 (HB.out.trans (((Below.refl _ wr).alloc (Nat.le_refl _) (.cells #[.int .i64 (sAt bo t).1, .int .i64 (sAt bo t).2] 40)).mono HB.out.size)) (blk_new wr #[.int .i64 (sAt bo t).1, .int .i64 (sAt bo t).2] 40 rfl) (cell_alloc p3 (.cells #[.int .i64 (sAt bo t).1, .int .i64 (sAt bo t).2] 40))
      clear p1 p2 p2' p3
      generalize wr.alloc (.cells #[.int .i64 (sAt bo t).1, .int .i64 (sAt bo t).2] 40) = x9 at *
      generalize wr.heap.size = gx at *
      have s0 : casN gx b (o + t * 7) (.int .i64 (sAt bo t).1) (.int .i64 (sAt bo t).2) (.slice (oAt (outs ws) t).P (oAt (outs ws) t).ps.length (oAt (outs ws) t).c) 0 x9.drew := cr 0 HX.out.2.1
      have s1 : casN gx b (o + t * 7) (.int .i64 (sAt bo t).1) (.int .i64 (sAt bo t).2) (.slice (oAt (outs ws) t).P (oAt (outs ws) t).ps.length (oAt (outs ws) t).c) 1 x9.drew := cr 1 HX.out.2.1
      have s2 : casN gx b (o + t * 7) (.int .i64 (sAt bo t).1) (.int .i64 (sAt bo t).2) (.slice (oAt (outs ws) t).P (oAt (outs ws) t).ps.length (oAt (outs ws) t).c) 2 x9.drew := HX.out.2.2
      have HB2 := Lib.hid (HX.out.1.drew)
      clear HX HB
      refine wp_region_K (by kernel_rfl) (casN gx b (o + t * 7) (.int .i64 (sAt bo t).1) (.int .i64 (sAt bo t).2) (.slice (oAt (outs ws) t).P (oAt (outs ws) t).ps.length (oAt (outs ws) t).c)) (fun _ _ => true) ?_
      generalize x9.drew = X2 at *
      refine kF 5 0 rfl ?_
      refine kT 0 1 rfl ?_
      refine kF 5 2 rfl ?_
      refine kF 5 3 rfl ?_
      refine kF 5 4 rfl ?_
      refine kT 0 5 rfl ?_
      refine kF 5 6 rfl ?_
      refine kT 1 7 rfl ?_
      refine kF 5 8 rfl ?_
      refine kF 5 9 rfl ?_
      refine kF 5 10 rfl ?_
      refine kF 5 11 rfl ?_
      refine kT 1 12 rfl ?_
      refine kF 5 13 rfl ?_
      refine kF 5 14 rfl ?_
      refine kF 5 15 rfl ?_
      refine kF 5 16 rfl ?_
      refine kT 2 17 rfl ?_
      refine kF 5 18 rfl ?_
      refine kF 5 19 rfl ?_
      refine kF 5 20 rfl ?_
      refine kD ?_
      clear s0 s1 s2
      go_wp2
      go_ret
      exact ⟨rfl, K3.out.1.1.1.1.trans (HB2.out.mono K3.out.1.1.1.1.size)⟩
     ·have HN := Lib.hid (show 0 ≤ (sAt bo t).1 ∧ (sAt bo t).1 ≤ (sAt bo t).2 ∧ (sAt bo t).2 ≤ ((oAt (outs ws) t).ps.length : Int) - 1 by omega)
      go_upto_region 14 with fail
      have HX := hd3 (HB.out.trans (((Below.refl _ wr).alloc (Nat.le_refl _) (.cells #[.int .i64 (sAt bo t).1, .int .i64 (sAt bo t).2] 40)).mono HB.out.size)) (blk_new wr #[.int .i64 (sAt bo t).1, .int .i64 (sAt bo t).2] 40 rfl) (cell_alloc p3 (.cells #[.int .i64 (sAt bo t).1, .int .i64 (sAt bo t).2] 40))
      clear p1 p2 p2' p3
      generalize wr.alloc (.cells #[.int .i64 (sAt bo t).1, .int .i64 (sAt bo t).2] 40) = x9 at *
      generalize wr.heap.size = gx at *
      have s0 : casN gx b (o + t * 7) (.int .i64 (sAt bo t).1) (.int .i64 (sAt bo t).2) (.slice (oAt (outs ws) t).P (oAt (outs ws) t).ps.length (oAt (outs ws) t).c) 0 x9.drew := cr 0 HX.out.2.1
      have s1 : casN gx b (o + t * 7) (.int .i64 (sAt bo t).1) (.int .i64 (sAt bo t).2) (.slice (oAt (outs ws) t).P (oAt (outs ws) t).ps.length (oAt (outs ws) t).c) 1 x9.drew := cr 1 HX.out.2.1
      have s2 : casN gx b (o + t * 7) (.int .i64 (sAt bo t).1) (.int .i64 (sAt bo t).2) (.slice (oAt (outs ws) t).P (oAt (outs ws) t).ps.length (oAt (outs ws) t).c) 2 x9.drew := HX.out.2.2
      have HB2 := Lib.hid (HX.out.1.drew)
      clear HX HB
      refine wp_region_K (by kernel_rfl) (casN gx b (o + t * 7) (.int .i64 (sAt bo t).1) (.int .i64 (sAt bo t).2) (.slice (oAt (outs ws) t).P (oAt (outs ws) t).ps.length (oAt (outs ws) t).c)) (fun _ _ => true) ?_
      generalize x9.drew = X2 at *
      refine kF 5 0 rfl ?_
      refine kT 0 1 rfl ?_
      refine kF 5 2 rfl ?_
      refine kF 5 3 rfl ?_
      refine kF 5 4 rfl ?_
      refine kT 0 5 rfl ?_
      refine kF 5 6 rfl ?_
      refine kT 1 7 rfl ?_
      refine kF 5 8 rfl ?_
      refine kF 5 9 rfl ?_
      refine kF 5 10 rfl ?_
      refine kF 5 11 rfl ?_
      refine kT 1 12 rfl ?_
      refine kF 5 13 rfl ?_
      refine kF 5 14 rfl ?_
      refine kF 5 15 rfl ?_
      refine kF 5 16 rfl ?_
      refine kT 2 17 rfl ?_
      refine kF 5 18 rfl ?_
      refine kF 5 19 rfl ?_
      refine kF 5 20 rfl ?_
      refine kD ?_
      clear s0 s1 s2
      go_wp2
      go_roundg ((outs ws).length - (t + 1))
      case measure => omega
      case rel => exact ⟨t + 1, by omega, by omega, by go_num, (show _ ∧ _ from ⟨HB2.out, fun j hj => by
       by_cases e : j = t
       ·subst e; exact HN.out
       ·exact HA.out.2 j (by omega)⟩)⟩
    ·have hltz : ¬ (t : Int) < ((outs ws).length : Int) := by omega
     obtain rfl : t = (outs ws).length := by omega
     obtain rfl := HR.out.2 ⟨HE.out.1, HE.out.2, HI.out, HA.out.2⟩
     go_wp2
     go_ret
     exact ⟨rfl, K3.out.1.1.1.1.trans (HA.out.1.mono K3.out.1.1.1.1.size)⟩

set_option maxRecDepth 100000 in
set_option maxHeartbeats 1600000 in
theorem rCheckCase_any (A : Option Addr) (c : Nat) (ws : List Car) (s : Cs) (w : World) (h : Wk w A ws) (hs : Csd w s) :
  Calls Try.prog 49 #[.agg #[.slice A ws.length c], s.v] w fun e w' => e = .returned (.int .i64 (ccE ws s)) ∧ Below w.heap.size w w' := by
 obtain ⟨A0, B1, d0, d1, ri, bo⟩ := s
 show Calls _ _ #[.agg #[.slice A ws.length c], .agg #[.slice A0 ri.length d0, .slice B1 bo.length d1]] _ _
 have hb : Below w.heap.size w ((w.alloc (.cells #[.slice A ws.length c] 24)).alloc (.cells #[.slice A0 ri.length d0, .slice B1 bo.length d1] 51)) := ((Below.refl _ w).alloc (Nat.le_refl _) _).alloc (by simp) _
 have K := Lib.hid ((((stays_bl hb).and (stays_blk (blk_alloc (blk_new w #[.slice A ws.length c] 24 rfl) _))).and (stays_blk (g := w.heap.size + 1) (blk_new (w.alloc (.cells #[.slice A ws.length c] 24)) #[.slice A0 ri.length d0, .slice B1 bo.length d1] 51 (by simp)))).and ((stays_wk (h.ext hb)).and (stays_csd (hs.ext hb))))
 clear hb h hs
 have hE : ccE ws ⟨A0, B1, d0, d1, ri, bo⟩ = if checkE ws = 0 then caseE ws ⟨A0, B1, d0, d1, ri, bo⟩ else checkE ws := rfl
 rw [hE]
 clear hE
 have HC := Lib.hid (fun W hW => rCheck_any A c ws W hW)
 have HW := Lib.hid (fun W hW hs => rCased_any A c ws ⟨A0, B1, d0, d1, ri, bo⟩ W hW hs)
 by_cases h0 : checkE ws = 0
 ·have H0 := Lib.hid h0
  rw [if_pos h0]
  clear h0
  generalize caseE ws ⟨A0, B1, d0, d1, ri, bo⟩ = E at *
  go_enter Try.func49, Try.ntmps49
  go_upto_region 1 with fail
  generalize (w.alloc (.cells #[.slice A ws.length c] 24)).alloc (.cells #[.slice A0 ri.length d0, .slice B1 bo.length d1] 51) = W0 at *
  have p0 := cr 0 K.out.1.1.1.2
  go_upto_region 4 with (go_at_call 75; refine (HC.out _ K.out.1.2.1).mono ?_; rw [H0.out]; rintro e w1 ⟨rfl, hb⟩; have K1 := Lib.hid (K.out.on hb); clear hb)
  clear p0
  have p0 := cr 0 K1.out.1.1.1.2
  have p1 := cr 0 K1.out.1.1.2
  have p2 := cr 1 K1.out.1.1.2
  go_wp2_with (go_at_call 109; refine (HW.out _ K1.out.1.2.1 K1.out.1.2.2).mono ?_; rintro e w2 ⟨rfl, hb⟩; have K2 := Lib.hid (K1.out.on hb); clear hb)
  go_ret
  exact ⟨rfl, K2.out.1.1.1.1⟩
 ·rw [if_neg h0]
  generalize checkE ws = E at *
  have hz : (E != 0) = true := by simpa using h0
  clear h0
  go_enter Try.func49, Try.ntmps49
  go_upto_region 1 with fail
  generalize (w.alloc (.cells #[.slice A ws.length c] 24)).alloc (.cells #[.slice A0 ri.length d0, .slice B1 bo.length d1] 51) = W0 at *
  have p0 := cr 0 K.out.1.1.1.2
  go_wp2_with (go_at_call 75; refine (HC.out _ K.out.1.2.1).mono ?_; rintro e w1 ⟨rfl, hb⟩; have K1 := Lib.hid (K.out.on hb); clear hb)
  go_ret
  exact ⟨rfl, K1.out.1.1.1.1⟩
end Go.Proofs.Ytdadoelajhemjaa
