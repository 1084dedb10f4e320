/- Walks: the specification's water, CheckWater. -/
import Derived.Test.YtdadoelajhemjaaC3
import Derived.Test.YtdadoelajhemjaaC7
namespace Go.Proofs.Ytdadoelajhemjaa
open Go.RowKit Go.Shelf

theorem water_iff {ws : List Car} {s : Wt} : waterE ws s = 0 ↔ Ok ws s := by
 refine ⟨ok_of_water, fun ok => ?_⟩
 unfold waterE
 refine if_pos ?_
 unfold waterB wB0 wB1 wB2 wB3
 simp only [Bool.and_eq_true, allB_iff]
 refine ⟨⟨⟨⟨ok.l0, fun i hi => ?_⟩, ⟨ok.l1, fun i hi => ?_⟩⟩, ⟨ok.l2, fun i hi => ?_⟩⟩, ⟨ok.l3, fun i hi => ?_⟩⟩
 ·exact decide_eq_true (ok.r0 i hi)
 ·exact decide_eq_true (ok.r1 i (by rw [← ok.l1]; exact hi))
 ·exact decide_eq_true (ok.r2 i (by rw [← ok.l2]; exact hi))
 ·exact decide_eq_true (ok.r3 i (by rw [← ok.l3]; exact hi))
theorem water_no {ws : List Car} {s : Wt} (h : ¬ Ok ws s) : waterE ws s = 1 := by
 have h0 : ¬ waterE ws s = 0 := fun e => h (water_iff.1 e)
 unfold waterE at h0 ⊢
 by_cases hb : waterB ws s = true
 ·rw [if_pos hb] at h0; exact absurd rfl h0
 ·exact if_neg hb
/-- The cells that a look at water reads. -/
def watS (g g1 b1 o1 b o b2 o2 b3 o3 : Nat) (v u0 u1 u2 u3 x2 x3 x4 x5 x6 x7 x8 x9 : Value) (k : Nat) (X : World) : Prop := match k with
 | 0 => X.cell? ⟨g, 0, none⟩ = some v
 | 1 => X.cell? ⟨g1, 0, none⟩ = some u0 ∧ X.cell? ⟨g1, 1, none⟩ = some u1 ∧ X.cell? ⟨g1, 2, none⟩ = some u2 ∧ X.cell? ⟨g1, 3, none⟩ = some u3
 | 2 => X.cell? ⟨b1, o1, none⟩ = some x2
 | 3 => X.cell? ⟨b, o + 2, none⟩ = some x3
 | 4 => X.cell? ⟨b2, o2, none⟩ = some x4
 | 5 => X.cell? ⟨b, o + 3, none⟩ = some x5
 | 6 => X.cell? ⟨b, o + 3 + 1, none⟩ = some x6
 | 7 => X.cell? ⟨b3, o3, none⟩ = some x7
 | 8 => X.cell? ⟨b, o + 5, none⟩ = some x8
 | 9 => X.cell? ⟨b, o + 5 + 1, none⟩ = some x9
 | _ => True
theorem watS_on {g g1 b1 o1 b o b2 o2 b3 o3 : Nat} {v u0 u1 u2 u3 x2 x3 x4 x5 x6 x7 x8 x9 : Value} {k : Nat} {X Y : World} (hb : Below X.heap.size X Y) (h : watS g g1 b1 o1 b o b2 o2 b3 o3 v u0 u1 u2 u3 x2 x3 x4 x5 x6 x7 x8 x9 k X) : watS g g1 b1 o1 b o b2 o2 b3 o3 v u0 u1 u2 u3 x2 x3 x4 x5 x6 x7 x8 x9 k Y := by
 have c := fun {a : Addr} {u : Value} (e : X.cell? a = some u) => (hb.cell (p := a) (lt_of_cell e)).trans e
 match k, h with
 | 0, h => exact c h
 | 1, h => exact ⟨c h.1, c h.2.1, c h.2.2.1, c h.2.2.2⟩
 | 2, h => exact c h
 | 3, h => exact c h
 | 4, h => exact c h
 | 5, h => exact c h
 | 6, h => exact c h
 | 7, h => exact c h
 | 8, h => exact c h
 | 9, h => exact c h
 | _ + 10, _ => trivial

set_option maxRecDepth 100000 in
set_option maxHeartbeats 6400000 in
theorem rWater_any (A : Option Addr) (c : Nat) (ws : List Car) (s : Wt) (w : World) (h : Wk w A ws) (hs : Wet w s) :
  Calls Try.prog 84 #[.agg #[.slice A ws.length c], s.v] w fun e w' => e = .returned (.int .i64 (waterE ws s)) ∧ Below w.heap.size w w' := by
 obtain ⟨A0, B1, A2, A3, d0, d1, d2, d3, ri, bo, lk, lo⟩ := s
 have n1 := h.n1
 have n2 := h.n2
 show Calls _ _ #[.agg #[.slice A ws.length c], .agg #[.slice A0 ri.length d0, .slice B1 bo.length d1, .slice A2 lk.length d2, .slice A3 lo.length d3]] _ _
 have hb : Below w.heap.size w ((w.alloc (.cells #[.slice A ws.length c] 24)).alloc (.cells #[.slice A0 ri.length d0, .slice B1 bo.length d1, .slice A2 lk.length d2, .slice A3 lo.length d3] 27)) := ((Below.refl _ w).alloc (Nat.le_refl _) _).alloc (by simp) _
 have K := Lib.hid ((((stays_bl hb).and (stays_blk (blk_alloc (blk_new w #[.slice A ws.length c] 24 rfl) _))).and (stays_blk (g := w.heap.size + 1) (blk_new (w.alloc (.cells #[.slice A ws.length c] 24)) #[.slice A0 ri.length d0, .slice B1 bo.length d1, .slice A2 lk.length d2, .slice A3 lo.length d3] 27 (by simp)))).and ((stays_wk (h.ext hb)).and (stays_wet (hs.ext hb))))
 have hm := hs.m0
 dsimp only at hm
 clear hb h hs
 obtain ⟨R, hR⟩ : ∃ R, waterE ws ⟨A0, B1, A2, A3, d0, d1, d2, d3, ri, bo, lk, lo⟩ = R := ⟨_, rfl⟩
 have HR := hd2 (fun (h : ¬ Ok ws ⟨A0, B1, A2, A3, d0, d1, d2, d3, ri, bo, lk, lo⟩) => hR.symm.trans (water_no h)) (fun (h : Ok ws ⟨A0, B1, A2, A3, d0, d1, d2, d3, ri, bo, lk, lo⟩) => hR.symm.trans (water_iff.2 h))
 rw [hR]
 clear hR
 by_cases e0 : ri.length = (headsTo ws ws.length).length
 rotate_left
 ·obtain rfl := HR.out.1 (fun ok => e0 ok.l0)
  have z0 : ((ri.length : Int) != ((headsTo ws ws.length).length : Int)) = true := by simp; omega
  clear HR e0
  go_enter Try.func84, Try.ntmps84
  go_upto_region 1 with fail
  generalize (w.alloc (.cells #[.slice A ws.length c] 24)).alloc (.cells #[.slice A0 ri.length d0, .slice B1 bo.length d1, .slice A2 lk.length d2, .slice A3 lo.length d3] 27) = W0 at *
  have p0 := cr 0 K.out.1.1.1.2
  go_upto_region 2 with (go_at_call 90; refine (rOutlets_any A c ws _ K.out.1.2.1).mono ?_; rintro e w1 ⟨A5, c5, rfl, hr, -, hb⟩; have K1 := Lib.hid ((K.out.on hb).push (show Stays (fun X => RdO X X.heap.size A5 (outs ws)) _ from ⟨hr, fun _ _ a b => a.ext b⟩)); clear hr hb)
  clear p0 K
  have K2 := Lib.hid (K1.out.on ((Below.refl _ w1).drew))
  clear K1
  refine wp_region_K (by kernel_rfl) (watS w.heap.size (w.heap.size + 1) 0 0 0 0 0 0 0 0 (.slice A ws.length c) (.slice A0 ri.length d0) (.slice B1 bo.length d1) (.slice A2 lk.length d2) (.slice A3 lo.length d3) undef undef undef undef undef undef undef undef) (fun _ _ => true) ?_
  generalize w1.drew = X0 at *
  have s0 : watS w.heap.size (w.heap.size + 1) 0 0 0 0 0 0 0 0 (.slice A ws.length c) (.slice A0 ri.length d0) (.slice B1 bo.length d1) (.slice A2 lk.length d2) (.slice A3 lo.length d3) undef undef undef undef undef undef undef undef 0 X0 := cr 0 K2.out.1.1.1.2
  have s1 : watS w.heap.size (w.heap.size + 1) 0 0 0 0 0 0 0 0 (.slice A ws.length c) (.slice A0 ri.length d0) (.slice B1 bo.length d1) (.slice A2 lk.length d2) (.slice A3 lo.length d3) undef undef undef undef undef undef undef undef 1 X0 := ⟨cr 0 K2.out.1.1.2, cr 1 K2.out.1.1.2, cr 2 K2.out.1.1.2, cr 3 K2.out.1.1.2⟩
  refine kF 10 0 rfl ?_
  refine kT 1 1 rfl ?_
  refine kF 10 2 rfl ?_
  refine kT 0 3 rfl ?_
  refine kR 4 rfl fun K hK => ?_
  go_simp
  refine (rHeads_any A c ws X0 K2.out.1.2.2.1).mono ?_
  rintro e X1 ⟨A6, c6, rfl, hr, -, hb⟩
  dsimp only
  rw [hInt_length]
  refine hK.out _ _ (fun k _ h => watS_on hb h) ?_
  have K3 := Lib.hid (K2.out.on hb)
  replace s1 := watS_on hb s1
  clear hK hb hr K2 s0
  refine kF 10 5 rfl ?_
  refine kF 10 6 rfl ?_
  refine kF 10 7 rfl ?_
  refine kS 10 8 rfl ?_
  refine kS 10 9 rfl ?_
  refine kS 10 10 rfl ?_
  refine kS 10 11 rfl ?_
  refine kS 10 12 rfl ?_
  refine kS 10 13 rfl ?_
  refine kF 10 14 rfl ?_
  refine kF 10 15 rfl ?_
  refine kS 10 16 rfl ?_
  refine kS 10 17 rfl ?_
  refine kS 10 18 rfl ?_
  refine kS 10 19 rfl ?_
  refine kS 10 20 rfl ?_
  refine kS 10 21 rfl ?_
  refine kF 10 22 rfl ?_
  refine kF 10 23 rfl ?_
  refine kS 10 24 rfl ?_
  refine kS 10 25 rfl ?_
  refine kS 10 26 rfl ?_
  refine kS 10 27 rfl ?_
  refine kS 10 28 rfl ?_
  refine kS 10 29 rfl ?_
  refine kF 10 30 rfl ?_
  refine kD ?_
  clear s1
  go_wp2
  go_ret
  exact ⟨rfl, K3.out.1.1.1.1⟩
 have z0 : ((ri.length : Int) != ((headsTo ws ws.length).length : Int)) = false := by simp; omega
 by_cases e1 : bo.length = (outs ws).length
 rotate_left
 ·obtain rfl := HR.out.1 (fun ok => e1 ok.l1)
  have z1 : ((bo.length : Int) != ((outs ws).length : Int)) = true := by simp; omega
  clear HR e1 e0
  go_enter Try.func84, Try.ntmps84
  go_upto_region 1 with fail
  generalize (w.alloc (.cells #[.slice A ws.length c] 24)).alloc (.cells #[.slice A0 ri.length d0, .slice B1 bo.length d1, .slice A2 lk.length d2, .slice A3 lo.length d3] 27) = W0 at *
  have p0 := cr 0 K.out.1.1.1.2
  go_upto_region 2 with (go_at_call 90; refine (rOutlets_any A c ws _ K.out.1.2.1).mono ?_; rintro e w1 ⟨A5, c5, rfl, hr, -, hb⟩; have K1 := Lib.hid ((K.out.on hb).push (show Stays (fun X => RdO X X.heap.size A5 (outs ws)) _ from ⟨hr, fun _ _ a b => a.ext b⟩)); clear hr hb)
  clear p0 K
  have K2 := Lib.hid (K1.out.on ((Below.refl _ w1).drew))
  clear K1
  refine wp_region_K (by kernel_rfl) (watS w.heap.size (w.heap.size + 1) 0 0 0 0 0 0 0 0 (.slice A ws.length c) (.slice A0 ri.length d0) (.slice B1 bo.length d1) (.slice A2 lk.length d2) (.slice A3 lo.length d3) undef undef undef undef undef undef undef undef) (fun _ _ => true) ?_
  generalize w1.drew = X0 at *
  have s0 : watS w.heap.size (w.heap.size + 1) 0 0 0 0 0 0 0 0 (.slice A ws.length c) (.slice A0 ri.length d0) (.slice B1 bo.length d1) (.slice A2 lk.length d2) (.slice A3 lo.length d3) undef undef undef undef undef undef undef undef 0 X0 := cr 0 K2.out.1.1.1.2
  have s1 : watS w.heap.size (w.heap.size + 1) 0 0 0 0 0 0 0 0 (.slice A ws.length c) (.slice A0 ri.length d0) (.slice B1 bo.length d1) (.slice A2 lk.length d2) (.slice A3 lo.length d3) undef undef undef undef undef undef undef undef 1 X0 := ⟨cr 0 K2.out.1.1.2, cr 1 K2.out.1.1.2, cr 2 K2.out.1.1.2, cr 3 K2.out.1.1.2⟩
  refine kF 10 0 rfl ?_
  refine kT 1 1 rfl ?_
  refine kF 10 2 rfl ?_
  refine kT 0 3 rfl ?_
  refine kR 4 rfl fun K hK => ?_
  go_simp
  refine (rHeads_any A c ws X0 K2.out.1.2.2.1).mono ?_
  rintro e X1 ⟨A6, c6, rfl, hr, -, hb⟩
  dsimp only
  rw [hInt_length]
  refine hK.out _ _ (fun k _ h => watS_on hb h) ?_
  have K3 := Lib.hid (K2.out.on hb)
  replace s1 := watS_on hb s1
  clear hK hb hr K2 s0
  refine kF 10 5 rfl ?_
  refine kF 10 6 rfl ?_
  refine kF 10 7 rfl ?_
  refine kF 10 8 rfl ?_
  refine kT 1 9 rfl ?_
  refine kF 10 10 rfl ?_
  refine kF 10 11 rfl ?_
  refine kF 10 12 rfl ?_
  refine kF 10 13 rfl ?_
  refine kF 10 14 rfl ?_
  refine kF 10 15 rfl ?_
  refine kS 10 16 rfl ?_
  refine kS 10 17 rfl ?_
  refine kS 10 18 rfl ?_
  refine kS 10 19 rfl ?_
  refine kS 10 20 rfl ?_
  refine kS 10 21 rfl ?_
  refine kF 10 22 rfl ?_
  refine kF 10 23 rfl ?_
  refine kS 10 24 rfl ?_
  refine kS 10 25 rfl ?_
  refine kS 10 26 rfl ?_
  refine kS 10 27 rfl ?_
  refine kS 10 28 rfl ?_
  refine kS 10 29 rfl ?_
  refine kF 10 30 rfl ?_
  refine kD ?_
  clear s1
  go_wp2
  go_ret
  exact ⟨rfl, K3.out.1.1.1.1⟩
 have z1 : ((bo.length : Int) != ((outs ws).length : Int)) = false := by simp; omega
 by_cases e2 : lk.length = (outs ws).length
 rotate_left
 ·obtain rfl := HR.out.1 (fun ok => e2 ok.l2)
  have z2 : ((lk.length : Int) != ((outs ws).length : Int)) = true := by simp; omega
  clear HR e2 e1 e0
  go_enter Try.func84, Try.ntmps84
  go_upto_region 1 with fail
  generalize (w.alloc (.cells #[.slice A ws.length c] 24)).alloc (.cells #[.slice A0 ri.length d0, .slice B1 bo.length d1, .slice A2 lk.length d2, .slice A3 lo.length d3] 27) = W0 at *
  have p0 := cr 0 K.out.1.1.1.2
  go_upto_region 2 with (go_at_call 90; refine (rOutlets_any A c ws _ K.out.1.2.1).mono ?_; rintro e w1 ⟨A5, c5, rfl, hr, -, hb⟩; have K1 := Lib.hid ((K.out.on hb).push (show Stays (fun X => RdO X X.heap.size A5 (outs ws)) _ from ⟨hr, fun _ _ a b => a.ext b⟩)); clear hr hb)
  clear p0 K
  have K2 := Lib.hid (K1.out.on ((Below.refl _ w1).drew))
  clear K1
  refine wp_region_K (by kernel_rfl) (watS w.heap.size (w.heap.size + 1) 0 0 0 0 0 0 0 0 (.slice A ws.length c) (.slice A0 ri.length d0) (.slice B1 bo.length d1) (.slice A2 lk.length d2) (.slice A3 lo.length d3) undef undef undef undef undef undef undef undef) (fun _ _ => true) ?_
  generalize w1.drew = X0 at *
  have s0 : watS w.heap.size (w.heap.size + 1) 0 0 0 0 0 0 0 0 (.slice A ws.length c) (.slice A0 ri.length d0) (.slice B1 bo.length d1) (.slice A2 lk.length d2) (.slice A3 lo.length d3) undef undef undef undef undef undef undef undef 0 X0 := cr 0 K2.out.1.1.1.2
  have s1 : watS w.heap.size (w.heap.size + 1) 0 0 0 0 0 0 0 0 (.slice A ws.length c) (.slice A0 ri.length d0) (.slice B1 bo.length d1) (.slice A2 lk.length d2) (.slice A3 lo.length d3) undef undef undef undef undef undef undef undef 1 X0 := ⟨cr 0 K2.out.1.1.2, cr 1 K2.out.1.1.2, cr 2 K2.out.1.1.2, cr 3 K2.out.1.1.2⟩
  refine kF 10 0 rfl ?_
  refine kT 1 1 rfl ?_
  refine kF 10 2 rfl ?_
  refine kT 0 3 rfl ?_
  refine kR 4 rfl fun K hK => ?_
  go_simp
  refine (rHeads_any A c ws X0 K2.out.1.2.2.1).mono ?_
  rintro e X1 ⟨A6, c6, rfl, hr, -, hb⟩
  dsimp only
  rw [hInt_length]
  refine hK.out _ _ (fun k _ h => watS_on hb h) ?_
  have K3 := Lib.hid (K2.out.on hb)
  replace s1 := watS_on hb s1
  clear hK hb hr K2 s0
  refine kF 10 5 rfl ?_
  refine kF 10 6 rfl ?_
  refine kF 10 7 rfl ?_
  refine kF 10 8 rfl ?_
  refine kT 1 9 rfl ?_
  refine kF 10 10 rfl ?_
  refine kF 10 11 rfl ?_
  refine kF 10 12 rfl ?_
  refine kF 10 13 rfl ?_
  refine kF 10 14 rfl ?_
  refine kF 10 15 rfl ?_
  refine kF 10 16 rfl ?_
  refine kT 1 17 rfl ?_
  refine kF 10 18 rfl ?_
  refine kF 10 19 rfl ?_
  refine kF 10 20 rfl ?_
  refine kF 10 21 rfl ?_
  refine kF 10 22 rfl ?_
  refine kF 10 23 rfl ?_
  refine kS 10 24 rfl ?_
  refine kS 10 25 rfl ?_
  refine kS 10 26 rfl ?_
  refine kS 10 27 rfl ?_
  refine kS 10 28 rfl ?_
  refine kS 10 29 rfl ?_
  refine kF 10 30 rfl ?_
  refine kD ?_
  clear s1
  go_wp2
  go_ret
  exact ⟨rfl, K3.out.1.1.1.1⟩
 have z2 : ((lk.length : Int) != ((outs ws).length : Int)) = false := by simp; omega
 by_cases e3 : lo.length = (outs ws).length
 rotate_left
 ·obtain rfl := HR.out.1 (fun ok => e3 ok.l3)
  have z3 : ((lo.length : Int) != ((outs ws).length : Int)) = true := by simp; omega
  clear HR e3 e2 e1 e0
  go_enter Try.func84, Try.ntmps84
  go_upto_region 1 with fail
  generalize (w.alloc (.cells #[.slice A ws.length c] 24)).alloc (.cells #[.slice A0 ri.length d0, .slice B1 bo.length d1, .slice A2 lk.length d2, .slice A3 lo.length d3] 27) = W0 at *
  have p0 := cr 0 K.out.1.1.1.2
  go_upto_region 2 with (go_at_call 90; refine (rOutlets_any A c ws _ K.out.1.2.1).mono ?_; rintro e w1 ⟨A5, c5, rfl, hr, -, hb⟩; have K1 := Lib.hid ((K.out.on hb).push (show Stays (fun X => RdO X X.heap.size A5 (outs ws)) _ from ⟨hr, fun _ _ a b => a.ext b⟩)); clear hr hb)
  clear p0 K
  have K2 := Lib.hid (K1.out.on ((Below.refl _ w1).drew))
  clear K1
  refine wp_region_K (by kernel_rfl) (watS w.heap.size (w.heap.size + 1) 0 0 0 0 0 0 0 0 (.slice A ws.length c) (.slice A0 ri.length d0) (.slice B1 bo.length d1) (.slice A2 lk.length d2) (.slice A3 lo.length d3) undef undef undef undef undef undef undef undef) (fun _ _ => true) ?_
  generalize w1.drew = X0 at *
  have s0 : watS w.heap.size (w.heap.size + 1) 0 0 0 0 0 0 0 0 (.slice A ws.length c) (.slice A0 ri.length d0) (.slice B1 bo.length d1) (.slice A2 lk.length d2) (.slice A3 lo.length d3) undef undef undef undef undef undef undef undef 0 X0 := cr 0 K2.out.1.1.1.2
  have s1 : watS w.heap.size (w.heap.size + 1) 0 0 0 0 0 0 0 0 (.slice A ws.length c) (.slice A0 ri.length d0) (.slice B1 bo.length d1) (.slice A2 lk.length d2) (.slice A3 lo.length d3) undef undef undef undef undef undef undef undef 1 X0 := ⟨cr 0 K2.out.1.1.2, cr 1 K2.out.1.1.2, cr 2 K2.out.1.1.2, cr 3 K2.out.1.1.2⟩
  refine kF 10 0 rfl ?_
  refine kT 1 1 rfl ?_
  refine kF 10 2 rfl ?_
  refine kT 0 3 rfl ?_
  refine kR 4 rfl fun K hK => ?_
  go_simp
  refine (rHeads_any A c ws X0 K2.out.1.2.2.1).mono ?_
  rintro e X1 ⟨A6, c6, rfl, hr, -, hb⟩
  dsimp only
  rw [hInt_length]
  refine hK.out _ _ (fun k _ h => watS_on hb h) ?_
  have K3 := Lib.hid (K2.out.on hb)
  replace s1 := watS_on hb s1
  clear hK hb hr K2 s0
  refine kF 10 5 rfl ?_
  refine kF 10 6 rfl ?_
  refine kF 10 7 rfl ?_
  refine kF 10 8 rfl ?_
  refine kT 1 9 rfl ?_
  refine kF 10 10 rfl ?_
  refine kF 10 11 rfl ?_
  refine kF 10 12 rfl ?_
  refine kF 10 13 rfl ?_
  refine kF 10 14 rfl ?_
  refine kF 10 15 rfl ?_
  refine kF 10 16 rfl ?_
  refine kT 1 17 rfl ?_
  refine kF 10 18 rfl ?_
  refine kF 10 19 rfl ?_
  refine kF 10 20 rfl ?_
  refine kF 10 21 rfl ?_
  refine kF 10 22 rfl ?_
  refine kF 10 23 rfl ?_
  refine kF 10 24 rfl ?_
  refine kT 1 25 rfl ?_
  refine kF 10 26 rfl ?_
  refine kF 10 27 rfl ?_
  refine kF 10 28 rfl ?_
  refine kF 10 29 rfl ?_
  refine kF 10 30 rfl ?_
  refine kD ?_
  clear s1
  go_wp2
  go_ret
  exact ⟨rfl, K3.out.1.1.1.1⟩
 have z3 : ((lo.length : Int) != ((outs ws).length : Int)) = false := by simp; omega
 have HE := hd4 e0 e1 e2 e3
 clear e0 e1 e2 e3
 go_enter Try.func84, Try.ntmps84
 go_upto_region 1 with fail
 generalize (w.alloc (.cells #[.slice A ws.length c] 24)).alloc (.cells #[.slice A0 ri.length d0, .slice B1 bo.length d1, .slice A2 lk.length d2, .slice A3 lo.length d3] 27) = W0 at *
 have p0 := cr 0 K.out.1.1.1.2
 go_upto_region 2 with (go_at_call 90; refine (rOutlets_any A c ws _ K.out.1.2.1).mono ?_; rintro e w1 ⟨A5, c5, rfl, hr, -, hb⟩; have K1 := Lib.hid ((K.out.on hb).push (show Stays (fun X => RdO X X.heap.size A5 (outs ws)) _ from ⟨hr, fun _ _ a b => a.ext b⟩)); clear hr hb)
 clear p0 K
 have K2 := Lib.hid (K1.out.on ((Below.refl _ w1).drew))
 clear K1
 refine wp_region_K (by kernel_rfl) (watS w.heap.size (w.heap.size + 1) 0 0 0 0 0 0 0 0 (.slice A ws.length c) (.slice A0 ri.length d0) (.slice B1 bo.length d1) (.slice A2 lk.length d2) (.slice A3 lo.length d3) undef undef undef undef undef undef undef undef) (fun _ _ => true) ?_
 generalize w1.drew = X0 at *
 have s0 : watS w.heap.size (w.heap.size + 1) 0 0 0 0 0 0 0 0 (.slice A ws.length c) (.slice A0 ri.length d0) (.slice B1 bo.length d1) (.slice A2 lk.length d2) (.slice A3 lo.length d3) undef undef undef undef undef undef undef undef 0 X0 := cr 0 K2.out.1.1.1.2
 have s1 : watS w.heap.size (w.heap.size + 1) 0 0 0 0 0 0 0 0 (.slice A ws.length c) (.slice A0 ri.length d0) (.slice B1 bo.length d1) (.slice A2 lk.length d2) (.slice A3 lo.length d3) undef undef undef undef undef undef undef undef 1 X0 := ⟨cr 0 K2.out.1.1.2, cr 1 K2.out.1.1.2, cr 2 K2.out.1.1.2, cr 3 K2.out.1.1.2⟩
 refine kF 10 0 rfl ?_
 refine kT 1 1 rfl ?_
 refine kF 10 2 rfl ?_
 refine kT 0 3 rfl ?_
 refine kR 4 rfl fun K hK => ?_
 go_simp
 refine (rHeads_any A c ws X0 K2.out.1.2.2.1).mono ?_
 rintro e X1 ⟨A6, c6, rfl, hr, -, hb⟩
 dsimp only
 rw [hInt_length]
 refine hK.out _ _ (fun k _ h => watS_on hb h) ?_
 have K3 := Lib.hid (K2.out.on hb)
 replace s1 := watS_on hb s1
 clear hK hb hr K2 s0
 refine kF 10 5 rfl ?_
 refine kF 10 6 rfl ?_
 refine kF 10 7 rfl ?_
 refine kF 10 8 rfl ?_
 refine kT 1 9 rfl ?_
 refine kF 10 10 rfl ?_
 refine kF 10 11 rfl ?_
 refine kF 10 12 rfl ?_
 refine kF 10 13 rfl ?_
 refine kF 10 14 rfl ?_
 refine kF 10 15 rfl ?_
 refine kF 10 16 rfl ?_
 refine kT 1 17 rfl ?_
 refine kF 10 18 rfl ?_
 refine kF 10 19 rfl ?_
 refine kF 10 20 rfl ?_
 refine kF 10 21 rfl ?_
 refine kF 10 22 rfl ?_
 refine kF 10 23 rfl ?_
 refine kF 10 24 rfl ?_
 refine kT 1 25 rfl ?_
 refine kF 10 26 rfl ?_
 refine kF 10 27 rfl ?_
 refine kF 10 28 rfl ?_
 refine kF 10 29 rfl ?_
 refine kF 10 30 rfl ?_
 refine kD ?_
 clear s1
 clear z0 z1 z2 z3
 go_upto_region 5 with fail
 go_loopg [6, 7] ri.length (fun gg i _ wr => ∃ t : Nat, t ≤ ri.length ∧ ri.length - t ≤ gg ∧ i = .int .i64 t ∧ Aside (Below X1.heap.size X1 wr ∧ ∀ j, j < t → 0 ≤ nth ri j ∧ nth ri j ≤ 1048576))
 case atStart => exact ⟨0, Nat.zero_le _, by omega, rfl, Below.refl _ _, fun j hj => absurd hj (Nat.not_lt_zero _)⟩
 case round =>
  obtain ⟨t, hlt0, hgg, rfl, hA⟩ := hrel
  have HA := Lib.hid hA.out
  clear hA
  have L := Lib.hid (K3.out.on HA.out.1)
  have p1 := cr 0 L.out.1.1.2
  by_cases hlt : t < ri.length
  ·have hltz : (t : Int) < (ri.length : Int) := by omega
   have hr0 : Rd wr wr.heap.size A0 ri := L.out.1.2.2.2.r0
   obtain ⟨b0, o0, rfl, _, hc⟩ := hr0 (by omega)
   have p2 := hc t hlt
   clear hc hr0
   cases hb : withinB (nth ri t) 0 1048576 with
   | false =>
    obtain rfl := HR.out.1 (fun ok => by
     have := decide_eq_true (ok.r0 t hlt)
     rw [show decide (0 ≤ nth ri t ∧ nth ri t ≤ 1048576) = false from hb] at this
     cases this)
    have G := Lib.hid hb
    clear hb
    go_wp2_with (go_at_call 110; refine (rWithin_any _ _ _ _).mono ?_; rw [G.out]; rintro e w7 ⟨rfl, hb⟩; have L7 := Lib.hid (L.out.on hb); clear hb)
    go_ret
    exact ⟨rfl, L7.out.1.1.1.1⟩
   | true =>
    have G := Lib.hid hb
    clear hb
    go_wp2_with (go_at_call 110; refine (rWithin_any _ _ _ _).mono ?_; rw [G.out]; rintro e w7 ⟨rfl, hb⟩; have HB := Lib.hid (HA.out.1.trans (hb.mono HA.out.1.size)); clear hb)
    go_roundg (ri.length - (t + 1))
    case measure => omega
    case rel => exact ⟨t + 1, by omega, by omega, by go_num, (show _ ∧ _ from ⟨HB.out, fun j hj => by
     by_cases e : j = t
     ·subst e; exact of_decide_eq_true G.out
     ·exact HA.out.2 j (by omega)⟩)⟩
  ·have hltz : ¬ (t : Int) < (ri.length : Int) := by omega
   obtain rfl : t = ri.length := by omega
   clear hlt hlt0 hgg
   go_upto_region 11 with fail
   clear hltz p1
   have HI := Lib.hid HA.out.2
   have HX := Lib.hid HA.out.1
   clear HA
   generalize wr = w5 at *
   rw [HE.out.2.1, HE.out.2.2.1, HE.out.2.2.2] at L
   go_loopg [8, 9, 10, 11] (outs ws).length (fun gg i _ _ _ wr => ∃ t : Nat, t ≤ (outs ws).length ∧ (outs ws).length - t ≤ gg ∧ i = .int .i64 t ∧ Aside (Below X1.heap.size X1 wr ∧ ∀ j, j < t → (0 ≤ nth bo j ∧ nth bo j ≤ ((oAt (outs ws) j).ps.length : Int) - 1) ∧ ((oAt (outs ws) j).kl ≤ nth lk j ∧ nth lk j ≤ (oAt (outs ws) j).kh) ∧ ((oAt (outs ws) j).sl ≤ nth lo j ∧ nth lo j ≤ (oAt (outs ws) j).sh)))
   case atStart => exact ⟨0, Nat.zero_le _, by omega, rfl, HX.out, fun j hj => absurd hj (Nat.not_lt_zero _)⟩
   case round =>
    obtain ⟨t, hlt0, hgg, rfl, hA⟩ := hrel
    have HA := Lib.hid hA.out
    clear hA
    by_cases hlt : t < (outs ws).length
    ·have hltz : (t : Int) < ((outs ws).length : Int) := by omega
     have HB := Lib.hid HA.out.1
     have hr1 : Rd wr wr.heap.size B1 bo := (K3.out.on HB.out).1.2.2.2.r1
     have hr2 : Rd wr wr.heap.size A2 lk := (K3.out.on HB.out).1.2.2.2.r2
     have hr3 : Rd wr wr.heap.size A3 lo := (K3.out.on HB.out).1.2.2.2.r3
     have hrO := (K3.out.on HB.out).1.2.1
     have hBX := (K3.out.on HB.out).1.1.2
     have hpn := (K3.out.on HB.out).1.2.2.1.n3 t hlt
     rw [HE.out.2.1, HE.out.2.2.1, HE.out.2.2.2] at hBX
     obtain ⟨b1, o1, rfl, _, hc1⟩ := hr1 (by rw [HE.out.2.1]; omega)
     obtain ⟨b2, o2, rfl, _, hc2⟩ := hr2 (by rw [HE.out.2.2.1]; omega)
     obtain ⟨b3, o3, rfl, _, hc3⟩ := hr3 (by rw [HE.out.2.2.2]; omega)
     obtain ⟨b, o, rfl, _, hcO⟩ := hrO (by omega)
     have s1 : watS w.heap.size (w.heap.size + 1) b1 (o1 + t) b (o + t * 7) b2 (o2 + t) b3 (o3 + t) (.slice A ws.length c) (.slice A0 ri.length d0) (.slice (some ⟨b1, o1, none⟩) (outs ws).length d1) (.slice (some ⟨b2, o2, none⟩) (outs ws).length d2) (.slice (some ⟨b3, o3, none⟩) (outs ws).length d3) (.int .i64 (nth bo t)) (.slice (oAt (outs ws) t).P (oAt (outs ws) t).ps.length (oAt (outs ws) t).c) (.int .i64 (nth lk t)) (.int .i64 (oAt (outs ws) t).kl) (.int .i64 (oAt (outs ws) t).kh) (.int .i64 (nth lo t)) (.int .i64 (oAt (outs ws) t).sl) (.int .i64 (oAt (outs ws) t).sh) 1 wr := ⟨cr 0 hBX, cr 1 hBX, cr 2 hBX, cr 3 hBX⟩
     have s2 : watS w.heap.size (w.heap.size + 1) b1 (o1 + t) b (o + t * 7) b2 (o2 + t) b3 (o3 + t) (.slice A ws.length c) (.slice A0 ri.length d0) (.slice (some ⟨b1, o1, none⟩) (outs ws).length d1) (.slice (some ⟨b2, o2, none⟩) (outs ws).length d2) (.slice (some ⟨b3, o3, none⟩) (outs ws).length d3) (.int .i64 (nth bo t)) (.slice (oAt (outs ws) t).P (oAt (outs ws) t).ps.length (oAt (outs ws) t).c) (.int .i64 (nth lk t)) (.int .i64 (oAt (outs ws) t).kl) (.int .i64 (oAt (outs ws) t).kh) (.int .i64 (nth lo t)) (.int .i64 (oAt (outs ws) t).sl) (.int .i64 (oAt (outs ws) t).sh) 2 wr := hc1 t (by rw [HE.out.2.1]; exact hlt)
     have s3 : watS w.heap.size (w.heap.size + 1) b1 (o1 + t) b (o + t * 7) b2 (o2 + t) b3 (o3 + t) (.slice A ws.length c) (.slice A0 ri.length d0) (.slice (some ⟨b1, o1, none⟩) (outs ws).length d1) (.slice (some ⟨b2, o2, none⟩) (outs ws).length d2) (.slice (some ⟨b3, o3, none⟩) (outs ws).length d3) (.int .i64 (nth bo t)) (.slice (oAt (outs ws) t).P (oAt (outs ws) t).ps.length (oAt (outs ws) t).c) (.int .i64 (nth lk t)) (.int .i64 (oAt (outs ws) t).kl) (.int .i64 (oAt (outs ws) t).kh) (.int .i64 (nth lo t)) (.int .i64 (oAt (outs ws) t).sl) (.int .i64 (oAt (outs ws) t).sh) 3 wr := (hcO t hlt).c2
     have s4 : watS w.heap.size (w.heap.size + 1) b1 (o1 + t) b (o + t * 7) b2 (o2 + t) b3 (o3 + t) (.slice A ws.length c) (.slice A0 ri.length d0) (.slice (some ⟨b1, o1, none⟩) (outs ws).length d1) (.slice (some ⟨b2, o2, none⟩) (outs ws).length d2) (.slice (some ⟨b3, o3, none⟩) (outs ws).length d3) (.int .i64 (nth bo t)) (.slice (oAt (outs ws) t).P (oAt (outs ws) t).ps.length (oAt (outs ws) t).c) (.int .i64 (nth lk t)) (.int .i64 (oAt (outs ws) t).kl) (.int .i64 (oAt (outs ws) t).kh) (.int .i64 (nth lo t)) (.int .i64 (oAt (outs ws) t).sl) (.int .i64 (oAt (outs ws) t).sh) 4 wr := hc2 t (by rw [HE.out.2.2.1]; exact hlt)
     have s5 : watS w.heap.size (w.heap.size + 1) b1 (o1 + t) b (o + t * 7) b2 (o2 + t) b3 (o3 + t) (.slice A ws.length c) (.slice A0 ri.length d0) (.slice (some ⟨b1, o1, none⟩) (outs ws).length d1) (.slice (some ⟨b2, o2, none⟩) (outs ws).length d2) (.slice (some ⟨b3, o3, none⟩) (outs ws).length d3) (.int .i64 (nth bo t)) (.slice (oAt (outs ws) t).P (oAt (outs ws) t).ps.length (oAt (outs ws) t).c) (.int .i64 (nth lk t)) (.int .i64 (oAt (outs ws) t).kl) (.int .i64 (oAt (outs ws) t).kh) (.int .i64 (nth lo t)) (.int .i64 (oAt (outs ws) t).sl) (.int .i64 (oAt (outs ws) t).sh) 5 wr := (hcO t hlt).c3
     have s6 : watS w.heap.size (w.heap.size + 1) b1 (o1 + t) b (o + t * 7) b2 (o2 + t) b3 (o3 + t) (.slice A ws.length c) (.slice A0 ri.length d0) (.slice (some ⟨b1, o1, none⟩) (outs ws).length d1) (.slice (some ⟨b2, o2, none⟩) (outs ws).length d2) (.slice (some ⟨b3, o3, none⟩) (outs ws).length d3) (.int .i64 (nth bo t)) (.slice (oAt (outs ws) t).P (oAt (outs ws) t).ps.length (oAt (outs ws) t).c) (.int .i64 (nth lk t)) (.int .i64 (oAt (outs ws) t).kl) (.int .i64 (oAt (outs ws) t).kh) (.int .i64 (nth lo t)) (.int .i64 (oAt (outs ws) t).sl) (.int .i64 (oAt (outs ws) t).sh) 6 wr := (hcO t hlt).c4
     have s7 : watS w.heap.size (w.heap.size + 1) b1 (o1 + t) b (o + t * 7) b2 (o2 + t) b3 (o3 + t) (.slice A ws.length c) (.slice A0 ri.length d0) (.slice (some ⟨b1, o1, none⟩) (outs ws).length d1) (.slice (some ⟨b2, o2, none⟩) (outs ws).length d2) (.slice (some ⟨b3, o3, none⟩) (outs ws).length d3) (.int .i64 (nth bo t)) (.slice (oAt (outs ws) t).P (oAt (outs ws) t).ps.length (oAt (outs ws) t).c) (.int .i64 (nth lk t)) (.int .i64 (oAt (outs ws) t).kl) (.int .i64 (oAt (outs ws) t).kh) (.int .i64 (nth lo t)) (.int .i64 (oAt (outs ws) t).sl) (.int .i64 (oAt (outs ws) t).sh) 7 wr := hc3 t (by rw [HE.out.2.2.2]; exact hlt)
     have s8 : watS w.heap.size (w.heap.size + 1) b1 (o1 + t) b (o + t * 7) b2 (o2 + t) b3 (o3 + t) (.slice A ws.length c) (.slice A0 ri.length d0) (.slice (some ⟨b1, o1, none⟩) (outs ws).length d1) (.slice (some ⟨b2, o2, none⟩) (outs ws).length d2) (.slice (some ⟨b3, o3, none⟩) (outs ws).length d3) (.int .i64 (nth bo t)) (.slice (oAt (outs ws) t).P (oAt (outs ws) t).ps.length (oAt (outs ws) t).c) (.int .i64 (nth lk t)) (.int .i64 (oAt (outs ws) t).kl) (.int .i64 (oAt (outs ws) t).kh) (.int .i64 (nth lo t)) (.int .i64 (oAt (outs ws) t).sl) (.int .i64 (oAt (outs ws) t).sh) 8 wr := (hcO t hlt).c5
     have s9 : watS w.heap.size (w.heap.size + 1) b1 (o1 + t) b (o + t * 7) b2 (o2 + t) b3 (o3 + t) (.slice A ws.length c) (.slice A0 ri.length d0) (.slice (some ⟨b1, o1, none⟩) (outs ws).length d1) (.slice (some ⟨b2, o2, none⟩) (outs ws).length d2) (.slice (some ⟨b3, o3, none⟩) (outs ws).length d3) (.int .i64 (nth bo t)) (.slice (oAt (outs ws) t).P (oAt (outs ws) t).ps.length (oAt (outs ws) t).c) (.int .i64 (nth lk t)) (.int .i64 (oAt (outs ws) t).kl) (.int .i64 (oAt (outs ws) t).kh) (.int .i64 (nth lo t)) (.int .i64 (oAt (outs ws) t).sl) (.int .i64 (oAt (outs ws) t).sh) 9 wr := (hcO t hlt).c6
     clear hr1 hr2 hr3 hrO hBX hc1 hc2 hc3 hcO L
     have HWR := Lib.hid (show IntKind.i64.wrap (((oAt (outs ws) t).ps.length : Int) - 1) = ((oAt (outs ws) t).ps.length : Int) - 1 by rw [IntKind.wrap_i64]; omega)
     obtain ⟨v1, g1⟩ : ∃ v, withinB (nth bo t) 0 (((oAt (outs ws) t).ps.length : Int) - 1) = v := ⟨_, rfl⟩
     obtain ⟨v2, g2⟩ : ∃ v, withinB (nth lk t) (oAt (outs ws) t).kl (oAt (outs ws) t).kh = v := ⟨_, rfl⟩
     obtain ⟨v3, g3⟩ : ∃ v, withinB (nth lo t) (oAt (outs ws) t).sl (oAt (outs ws) t).sh = v := ⟨_, rfl⟩
     have G1 := Lib.hid g1
     have G2 := Lib.hid g2
     have G3 := Lib.hid g3
     clear g1 g2 g3
     go_upto_region 13 with fail
     refine wp_region_K (by kernel_rfl) (watS w.heap.size (w.heap.size + 1) b1 (o1 + t) b (o + t * 7) b2 (o2 + t) b3 (o3 + t) (.slice A ws.length c) (.slice A0 ri.length d0) (.slice (some ⟨b1, o1, none⟩) (outs ws).length d1) (.slice (some ⟨b2, o2, none⟩) (outs ws).length d2) (.slice (some ⟨b3, o3, none⟩) (outs ws).length d3) (.int .i64 (nth bo t)) (.slice (oAt (outs ws) t).P (oAt (outs ws) t).ps.length (oAt (outs ws) t).c) (.int .i64 (nth lk t)) (.int .i64 (oAt (outs ws) t).kl) (.int .i64 (oAt (outs ws) t).kh) (.int .i64 (nth lo t)) (.int .i64 (oAt (outs ws) t).sl) (.int .i64 (oAt (outs ws) t).sh)) (fun _ _ => true) ?_
     replace s1 := watS_on ((Below.refl _ wr).drew) s1
     replace s2 := watS_on ((Below.refl _ wr).drew) s2
     replace s3 := watS_on ((Below.refl _ wr).drew) s3
     replace s4 := watS_on ((Below.refl _ wr).drew) s4
     replace s5 := watS_on ((Below.refl _ wr).drew) s5
     replace s6 := watS_on ((Below.refl _ wr).drew) s6
     replace s7 := watS_on ((Below.refl _ wr).drew) s7
     replace s8 := watS_on ((Below.refl _ wr).drew) s8
     replace s9 := watS_on ((Below.refl _ wr).drew) s9
     replace HB := Lib.hid (HB.out.drew)
     generalize wr.drew = Y0 at *
     refine kF 10 0 rfl ?_
     refine kT 1 1 rfl ?_
     refine kF 10 2 rfl ?_
     refine kF 10 3 rfl ?_
     refine kT 2 4 rfl ?_
     refine kF 10 5 rfl ?_
     refine kF 10 6 rfl ?_
     refine kF 10 7 rfl ?_
     refine kF 10 8 rfl ?_
     refine kT 3 9 rfl ?_
     refine kF 10 10 rfl ?_
     refine kF 10 11 rfl ?_
     refine kR 12 rfl fun K hK => ?_
     go_simp
     refine (rWithin_any _ _ _ Y0).mono ?_
     rw [HWR.out, G1.out]
     rintro e Y1 ⟨rfl, hb⟩
     dsimp only
     refine hK.out _ _ (fun k _ h => watS_on hb h) ?_
     replace HB := Lib.hid (HB.out.trans (hb.mono HB.out.size))
     replace s1 := watS_on hb s1
     replace s2 := watS_on hb s2
     replace s3 := watS_on hb s3
     replace s4 := watS_on hb s4
     replace s5 := watS_on hb s5
     replace s6 := watS_on hb s6
     replace s7 := watS_on hb s7
     replace s8 := watS_on hb s8
     replace s9 := watS_on hb s9
     clear hK hb
     refine kF 10 13 rfl ?_
     refine kD ?_
     go_upto_region 14 with fail
     refine wp_region_K (by kernel_rfl) (watS w.heap.size (w.heap.size + 1) b1 (o1 + t) b (o + t * 7) b2 (o2 + t) b3 (o3 + t) (.slice A ws.length c) (.slice A0 ri.length d0) (.slice (some ⟨b1, o1, none⟩) (outs ws).length d1) (.slice (some ⟨b2, o2, none⟩) (outs ws).length d2) (.slice (some ⟨b3, o3, none⟩) (outs ws).length d3) (.int .i64 (nth bo t)) (.slice (oAt (outs ws) t).P (oAt (outs ws) t).ps.length (oAt (outs ws) t).c) (.int .i64 (nth lk t)) (.int .i64 (oAt (outs ws) t).kl) (.int .i64 (oAt (outs ws) t).kh) (.int .i64 (nth lo t)) (.int .i64 (oAt (outs ws) t).sl) (.int .i64 (oAt (outs ws) t).sh)) (fun _ _ => true) ?_
     replace s1 := watS_on ((Below.refl _ Y1).drew) s1
     replace s2 := watS_on ((Below.refl _ Y1).drew) s2
     replace s3 := watS_on ((Below.refl _ Y1).drew) s3
     replace s4 := watS_on ((Below.refl _ Y1).drew) s4
     replace s5 := watS_on ((Below.refl _ Y1).drew) s5
     replace s6 := watS_on ((Below.refl _ Y1).drew) s6
     replace s7 := watS_on ((Below.refl _ Y1).drew) s7
     replace s8 := watS_on ((Below.refl _ Y1).drew) s8
     replace s9 := watS_on ((Below.refl _ Y1).drew) s9
     replace HB := Lib.hid (HB.out.drew)
     generalize Y1.drew = Y2 at *
     refine kF 10 0 rfl ?_
     refine kT 1 1 rfl ?_
     refine kF 10 2 rfl ?_
     refine kF 10 3 rfl ?_
     refine kT 4 4 rfl ?_
     refine kF 10 5 rfl ?_
     refine kF 10 6 rfl ?_
     refine kF 10 7 rfl ?_
     refine kF 10 8 rfl ?_
     refine kF 10 9 rfl ?_
     refine kT 5 10 rfl ?_
     refine kF 10 11 rfl ?_
     refine kF 10 12 rfl ?_
     refine kF 10 13 rfl ?_
     refine kF 10 14 rfl ?_
     refine kF 10 15 rfl ?_
     refine kT 6 16 rfl ?_
     refine kR 17 rfl fun K hK => ?_
     go_simp
     refine (rWithin_any _ _ _ Y2).mono ?_
     rw [G2.out]
     rintro e Y3 ⟨rfl, hb⟩
     dsimp only
     refine hK.out _ _ (fun k _ h => watS_on hb h) ?_
     replace HB := Lib.hid (HB.out.trans (hb.mono HB.out.size))
     replace s1 := watS_on hb s1
     replace s2 := watS_on hb s2
     replace s3 := watS_on hb s3
     replace s4 := watS_on hb s4
     replace s5 := watS_on hb s5
     replace s6 := watS_on hb s6
     replace s7 := watS_on hb s7
     replace s8 := watS_on hb s8
     replace s9 := watS_on hb s9
     clear hK hb
     refine kF 10 18 rfl ?_
     refine kD ?_
     go_upto_region 15 with fail
     refine wp_region_K (by kernel_rfl) (watS w.heap.size (w.heap.size + 1) b1 (o1 + t) b (o + t * 7) b2 (o2 + t) b3 (o3 + t) (.slice A ws.length c) (.slice A0 ri.length d0) (.slice (some ⟨b1, o1, none⟩) (outs ws).length d1) (.slice (some ⟨b2, o2, none⟩) (outs ws).length d2) (.slice (some ⟨b3, o3, none⟩) (outs ws).length d3) (.int .i64 (nth bo t)) (.slice (oAt (outs ws) t).P (oAt (outs ws) t).ps.length (oAt (outs ws) t).c) (.int .i64 (nth lk t)) (.int .i64 (oAt (outs ws) t).kl) (.int .i64 (oAt (outs ws) t).kh) (.int .i64 (nth lo t)) (.int .i64 (oAt (outs ws) t).sl) (.int .i64 (oAt (outs ws) t).sh)) (fun _ _ => true) ?_
     replace s1 := watS_on ((Below.refl _ Y3).drew) s1
     replace s2 := watS_on ((Below.refl _ Y3).drew) s2
     replace s3 := watS_on ((Below.refl _ Y3).drew) s3
     replace s4 := watS_on ((Below.refl _ Y3).drew) s4
     replace s5 := watS_on ((Below.refl _ Y3).drew) s5
     replace s6 := watS_on ((Below.refl _ Y3).drew) s6
     replace s7 := watS_on ((Below.refl _ Y3).drew) s7
     replace s8 := watS_on ((Below.refl _ Y3).drew) s8
     replace s9 := watS_on ((Below.refl _ Y3).drew) s9
     replace HB := Lib.hid (HB.out.drew)
     generalize Y3.drew = Y4 at *
     refine kF 10 0 rfl ?_
     refine kT 1 1 rfl ?_
     refine kF 10 2 rfl ?_
     refine kF 10 3 rfl ?_
     refine kT 7 4 rfl ?_
     refine kF 10 5 rfl ?_
     refine kF 10 6 rfl ?_
     refine kF 10 7 rfl ?_
     refine kF 10 8 rfl ?_
     refine kF 10 9 rfl ?_
     refine kT 8 10 rfl ?_
     refine kF 10 11 rfl ?_
     refine kF 10 12 rfl ?_
     refine kF 10 13 rfl ?_
     refine kF 10 14 rfl ?_
     refine kF 10 15 rfl ?_
     refine kT 9 16 rfl ?_
     refine kR 17 rfl fun K hK => ?_
     go_simp
     refine (rWithin_any _ _ _ Y4).mono ?_
     rw [G3.out]
     rintro e Y5 ⟨rfl, hb⟩
     dsimp only
     refine hK.out _ _ (fun k _ h => watS_on hb h) ?_
     replace HB := Lib.hid (HB.out.trans (hb.mono HB.out.size))
     replace s1 := watS_on hb s1
     replace s2 := watS_on hb s2
     replace s3 := watS_on hb s3
     replace s4 := watS_on hb s4
     replace s5 := watS_on hb s5
     replace s6 := watS_on hb s6
     replace s7 := watS_on hb s7
     replace s8 := watS_on hb s8
     replace s9 := watS_on hb s9
     clear hK hb
     refine kF 10 18 rfl ?_
     refine kD ?_
     clear s1 s2 s3 s4 s5 s6 s7 s8 s9
     cases v1 with
     | false =>
      obtain rfl := HR.out.1 (fun ok => by
       have h1 := decide_eq_true (ok.r1 t hlt)
       rw [show decide (0 ≤ nth bo t ∧ nth bo t ≤ ((oAt (outs ws) t).ps.length : Int) - 1) = false from G1.out] at h1
       cases h1)
      go_wp2
      go_ret
      exact ⟨rfl, K3.out.1.1.1.1.trans (HB.out.mono K3.out.1.1.1.1.size)⟩
     | true =>
     cases v2 with
     | false =>
      obtain rfl := HR.out.1 (fun ok => by
       have h1 := decide_eq_true (ok.r2 t hlt)
       rw [show decide ((oAt (outs ws) t).kl ≤ nth lk t ∧ nth lk t ≤ (oAt (outs ws) t).kh) = false from G2.out] at h1
       cases h1)
      go_wp2
      go_ret
      exact ⟨rfl, K3.out.1.1.1.1.trans (HB.out.mono K3.out.1.1.1.1.size)⟩
     | true =>
     cases v3 with
     | false =>
      obtain rfl := HR.out.1 (fun ok => by
       have h1 := decide_eq_true (ok.r3 t hlt)
       rw [show decide ((oAt (outs ws) t).sl ≤ nth lo t ∧ nth lo t ≤ (oAt (outs ws) t).sh) = false from G3.out] at h1
       cases h1)
      go_wp2
      go_ret
      exact ⟨rfl, K3.out.1.1.1.1.trans (HB.out.mono K3.out.1.1.1.1.size)⟩
     | true =>
      have HN := hd3 (of_decide_eq_true G1.out) (of_decide_eq_true G2.out) (of_decide_eq_true G3.out)
      go_wp2
      go_roundg ((outs ws).length - (t + 1))
      case measure => omega
      case rel => exact ⟨t + 1, by omega, by omega, by go_num, (show _ ∧ _ from ⟨HB.out, fun j hj => by
       by_cases e : j = t
       ·subst e; exact HN.out
       ·exact HA.out.2 j (by omega)⟩)⟩
    ·have hltz : ¬ (t : Int) < ((outs ws).length : Int) := by omega
     obtain rfl : t = (outs ws).length := by omega
     obtain rfl := HR.out.2 ⟨HE.out.1, HE.out.2.1, HE.out.2.2.1, HE.out.2.2.2, HI.out, fun i hi => (HA.out.2 i hi).1, fun i hi => (HA.out.2 i hi).2.1, fun i hi => (HA.out.2 i hi).2.2⟩
     go_wp2
     go_ret
     exact ⟨rfl, K3.out.1.1.1.1.trans (HA.out.1.mono K3.out.1.1.1.1.size)⟩

set_option maxRecDepth 100000 in
set_option maxHeartbeats 1600000 in
theorem rCheckWater_any (A : Option Addr) (c : Nat) (ws : List Car) (s : Wt) (w : World) (h : Wk w A ws) (hs : Wet w s) :
  Calls Try.prog 28 #[.agg #[.slice A ws.length c], s.v] w fun e w' => e = .returned (.int .i64 (cwE ws s)) ∧ Below w.heap.size w w' := by
 obtain ⟨A0, B1, A2, A3, d0, d1, d2, d3, ri, bo, lk, lo⟩ := s
 show Calls _ _ #[.agg #[.slice A ws.length c], .agg #[.slice A0 ri.length d0, .slice B1 bo.length d1, .slice A2 lk.length d2, .slice A3 lo.length d3]] _ _
 have hb : Below w.heap.size w ((w.alloc (.cells #[.slice A ws.length c] 24)).alloc (.cells #[.slice A0 ri.length d0, .slice B1 bo.length d1, .slice A2 lk.length d2, .slice A3 lo.length d3] 27)) := ((Below.refl _ w).alloc (Nat.le_refl _) _).alloc (by simp) _
 have K := Lib.hid ((((stays_bl hb).and (stays_blk (blk_alloc (blk_new w #[.slice A ws.length c] 24 rfl) _))).and (stays_blk (g := w.heap.size + 1) (blk_new (w.alloc (.cells #[.slice A ws.length c] 24)) #[.slice A0 ri.length d0, .slice B1 bo.length d1, .slice A2 lk.length d2, .slice A3 lo.length d3] 27 (by simp)))).and ((stays_wk (h.ext hb)).and (stays_wet (hs.ext hb))))
 clear hb h hs
 have hE : cwE ws ⟨A0, B1, A2, A3, d0, d1, d2, d3, ri, bo, lk, lo⟩ = if checkE ws = 0 then waterE ws ⟨A0, B1, A2, A3, d0, d1, d2, d3, ri, bo, lk, lo⟩ else checkE ws := rfl
 rw [hE]
 clear hE
 have HC := Lib.hid (fun W hW => rCheck_any A c ws W hW)
 have HW := Lib.hid (fun W hW hs => rWater_any A c ws ⟨A0, B1, A2, A3, d0, d1, d2, d3, ri, bo, lk, lo⟩ W hW hs)
 by_cases h0 : checkE ws = 0
 ·have H0 := Lib.hid h0
  rw [if_pos h0]
  clear h0
  generalize waterE ws ⟨A0, B1, A2, A3, d0, d1, d2, d3, ri, bo, lk, lo⟩ = E at *
  go_enter Try.func28, Try.ntmps28
  go_upto_region 1 with fail
  generalize (w.alloc (.cells #[.slice A ws.length c] 24)).alloc (.cells #[.slice A0 ri.length d0, .slice B1 bo.length d1, .slice A2 lk.length d2, .slice A3 lo.length d3] 27) = W0 at *
  have p0 := cr 0 K.out.1.1.1.2
  go_upto_region 4 with (go_at_call 75; refine (HC.out _ K.out.1.2.1).mono ?_; rw [H0.out]; rintro e w1 ⟨rfl, hb⟩; have K1 := Lib.hid (K.out.on hb); clear hb)
  clear p0
  have p0 := cr 0 K1.out.1.1.1.2
  have p1 := cr 0 K1.out.1.1.2
  have p2 := cr 1 K1.out.1.1.2
  have p3 := cr 2 K1.out.1.1.2
  have p4 := cr 3 K1.out.1.1.2
  go_wp2_with (go_at_call 84; refine (HW.out _ K1.out.1.2.1 K1.out.1.2.2).mono ?_; rintro e w2 ⟨rfl, hb⟩; have K2 := Lib.hid (K1.out.on hb); clear hb)
  go_ret
  exact ⟨rfl, K2.out.1.1.1.1⟩
 ·rw [if_neg h0]
  generalize checkE ws = E at *
  have hz : (E != 0) = true := by simpa using h0
  clear h0
  go_enter Try.func28, Try.ntmps28
  go_upto_region 1 with fail
  generalize (w.alloc (.cells #[.slice A ws.length c] 24)).alloc (.cells #[.slice A0 ri.length d0, .slice B1 bo.length d1, .slice A2 lk.length d2, .slice A3 lo.length d3] 27) = W0 at *
  have p0 := cr 0 K.out.1.1.1.2
  go_wp2_with (go_at_call 75; refine (HC.out _ K.out.1.2.1).mono ?_; rintro e w1 ⟨rfl, hb⟩; have K1 := Lib.hid (K.out.on hb); clear hb)
  go_ret
  exact ⟨rfl, K1.out.1.1.1.1⟩
end Go.Proofs.Ytdadoelajhemjaa
