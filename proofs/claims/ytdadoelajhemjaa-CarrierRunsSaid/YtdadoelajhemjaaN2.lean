/- Walks: Drunk. -/
import Derived.Test.YtdadoelajhemjaaN1
import Derived.OwnWalk
namespace Go.Proofs.Ytdadoelajhemjaa
open Go.RowKit Go.Shelf

set_option maxRecDepth 100000 in
set_option maxHeartbeats 3200000 in
theorem Drunk_any (A : Option Addr) (c : Nat) (ws : List Car) (B : Option Addr) (d : Nat) (l : List Rn) (w : World) (hW : Wk w A ws) (hl : RdR w B l) (hm : l.length ≤ 1000) :
  Calls Try.prog 45 #[.agg #[.slice A ws.length c], .slice B l.length d] w fun e w' => ∃ A' c', e = .returned (.tuple #[.slice A' (drkL ws l).length c', .int .i64 (drkE ws l)]) ∧ Rd w' w'.heap.size A' (drkL ws l) ∧ Fresh w.heap.size A' ∧ Below w.heap.size w w' := by
 obtain ⟨i0, hi0, hz0, hz1, hz2⟩ := info_parts info3
 have hb : Below w.heap.size w (w.alloc (.cells #[.slice A ws.length c] 24)) := (Below.refl _ w).alloc (Nat.le_refl _) _
 have KQ := Lib.hid (((stays_bl hb).and (stays_blk (blk_new w #[.slice A ws.length c] 24 rfl))).and ((stays_wk (hW.ext hb)).and (stays_rdr (hl.ext hb))))
 clear hb hW hl
 obtain ⟨E, hE⟩ : ∃ E, drkE ws l = E := ⟨_, rfl⟩
 obtain ⟨L, hL⟩ : ∃ L, drkL ws l = L := ⟨_, rfl⟩
 rw [hE, hL]
 have HR : Hid ((if checkE ws = 0 then (if 60 < l.length then 2 else runsE ws l) else checkE ws) = E ∧ (E ≠ 0 → L = []) ∧ (E = 0 → L = (List.range (outs ws).length).map (drkTo ws l l.length))) := by
  refine Lib.hid ⟨hE, fun h => ?_, fun h => ?_⟩
  ·rw [← hL]; exact if_neg (by rw [hE]; exact h)
  ·rw [← hL]; exact if_pos (by rw [hE]; exact h)
 clear hE hL
 go_enter Try.func45, Try.ntmps45
 go_upto_region 1 with fail
 generalize (w.alloc (.cells #[.slice A ws.length c] 24)) = W0 at *
 have p0 := cr 0 KQ.out.1.1.2
 have hmc := Check_any A c ws W0 KQ.out.1.2.1
 generalize hce : checkE ws = CE at hmc HR
 have HCC := Lib.hid hmc
 clear hmc
 by_cases h0 : CE = 0
 rotate_left
 ·have hz : (CE != 0) = true := by simpa using h0
  obtain ⟨e1, e2, -⟩ := HR.out
  rw [if_neg h0] at e1
  subst e1
  obtain rfl := e2 h0
  clear h0 e2 hce HR
  go_wp2_with (go_at_call 74; refine HCC.out.mono ?_; rintro e w1 ⟨rfl, hb⟩; have K1 := Lib.hid (KQ.out.on hb); clear hb)
  go_ret2
  exact ⟨none, 0, rfl, Rd.nil, (fun _ e => by cases e), K1.out.1.1.1⟩
 subst h0
 have HG := Lib.hid (good_of_check hce)
 clear hce
 rw [if_pos rfl] at HR
 by_cases h60 : 60 < l.length
 ·have hz : (60 : Int) < (l.length : Int) := by omega
  obtain ⟨e1, e2, -⟩ := HR.out
  rw [if_pos h60] at e1
  subst e1
  obtain rfl := e2 (by decide)
  clear h60 e2 HR
  go_wp2_with (go_at_call 74; refine HCC.out.mono ?_; rintro e w1 ⟨rfl, hb⟩; have K1 := Lib.hid (KQ.out.on hb); clear hb)
  go_ret2
  exact ⟨none, 0, rfl, Rd.nil, (fun _ e => by cases e), K1.out.1.1.1⟩
 rw [if_neg h60] at HR
 have hz60 : ¬ (60 : Int) < (l.length : Int) := by omega
 have hn2 := HG.out.n2
 go_upto_region 6 with (go_at_call 74; refine HCC.out.mono ?_; rintro e w1 ⟨rfl, hb⟩; have K1 := Lib.hid (KQ.out.on hb); clear hb)
 clear p0 h60
 have p0 := cr 0 K1.out.1.1.2
 have HMN := Lib.hid (many_any A c ws w1 K1.out.1.2.1.rd (by have := K1.out.1.2.1.n1; unfold maxLen; omega) (by omega))
 go_upto_region 8 with first
  | (go_at_call 81; refine HMN.out.mono ?_; rintro e w2 ⟨rfl, hb⟩; have K2 := Lib.hid (K1.out.on hb); clear hb)
  | (refine wpList_make_full _ rfl _ _ 25 rfl w2.heap.size 3 i0 (.int .i64 0) 1 Try.underlying25 hi0 hz0 hz1 .i64 .i64 ((outs ws).length : Int) ((outs ws).length : Int) (outs ws).length rfl rfl rfl rfl (by rw [hz2]; omega) (by unfold maxLen; omega) (Nat.le_refl _) ?_; intro w3 hown hg; have HO := hd2 (made_zero hown) ((Below.refl _ w2).grown hg (Nat.le_refl _) (fun k e => by cases e)); clear hown hg)
 clear p0 HMN HCC
 generalize hgo : w2.heap.size = go at *
 have HGO := Lib.hid hgo
 clear hgo
 go_loopg [9, 10, 11, 12, 26, 47] l.length (fun gg _ _ _ _ i _ wr => ∃ t : Nat, t ≤ l.length ∧ l.length - t ≤ gg ∧ i = .int .i64 t ∧ Aside (IntF wr go (outs ws).length (drkTo ws l t) ∧ Below go w2 wr ∧ go < wr.heap.size ∧ ∀ j, j < t → runE ws (rAt l j) = 0))
 case atStart => exact ⟨0, Nat.zero_le _, by omega, rfl, HO.out.1.1.congr (fun _ _ => rfl), HO.out.2, HO.out.1.2.2, fun j hj => absurd hj (Nat.not_lt_zero _)⟩
 case round =>
  obtain ⟨t, ht, hgg, rfl, hA⟩ := hrel
  have HA := Lib.hid hA.out
  clear hA
  have KA := Lib.hid (K2.out.on (by rw [HGO.out]; exact HA.out.2.1))
  by_cases hlt : t < l.length
  ·have hltz : (t : Int) < (l.length : Int) := by omega
   obtain ⟨b, off, rfl, hc⟩ := KA.out.1.2.2 (by omega)
   have hr := hc t hlt
   have hrun : Hid (runE ws (rAt l t) ≠ 0 → runsE ws l = runE ws (rAt l t)) := Lib.hid (runsE_first hlt HA.out.2.2.2)
   have hds : Hid (∀ i, drkTo ws l (t + 1) i = drkTo ws l t i + (rAt l t).m * flowF ws (rAt l t).s i) := Lib.hid (fun _ => rfl)
   have hdm : Hid (∀ x, x < (outs ws).length → 0 ≤ drkTo ws l t x ∧ drkTo ws l t x ≤ t * 1099511627776) := Lib.hid (fun x hx => drkTo_max HG.out hx HA.out.2.2.2)
   have hre : Hid (runE ws (rAt l t) = 0 → ∀ j, j < t + 1 → runE ws (rAt l j) = 0) := Lib.hid (fun h j hj => by
    by_cases e : j = t
    ·subst e; exact h
    ·exact HA.out.2.2.2 j (by omega))
   generalize rAt l t = r at *
   have z0 := hr.c0
   have z1 := hr.c1
   have z2 : wr.cell? ⟨b, off + t * 5 + 2, none⟩ = _ := hr.c2
   have z3 : wr.cell? ⟨b, off + t * 5 + 3, none⟩ = _ := hr.c3
   have z4 : wr.cell? ⟨b, off + t * 5 + 4, none⟩ = _ := hr.c4
   have hbx := (Below.refl _ wr).alloc (Nat.le_refl _) (.cells #[.int .i64 r.m, .slice r.s.A0 r.s.ri.length r.s.c0, .slice r.s.A1 r.s.bo.length r.s.c1, .slice r.s.A2 r.s.lk.length r.s.c2, .slice r.s.A3 r.s.lo.length r.s.c3] 76)
   have KX := Lib.hid ((KA.out.on hbx).and ((stays_blk (blk_new wr #[.int .i64 r.m, .slice r.s.A0 r.s.ri.length r.s.c0, .slice r.s.A1 r.s.bo.length r.s.c1, .slice r.s.A2 r.s.lk.length r.s.c2, .slice r.s.A3 r.s.lo.length r.s.c3] 76 rfl)).and (stays_wet (hr.wt.ext hbx))))
   have HF : Hid (IntF (wr.alloc (.cells #[.int .i64 r.m, .slice r.s.A0 r.s.ri.length r.s.c0, .slice r.s.A1 r.s.bo.length r.s.c1, .slice r.s.A2 r.s.lk.length r.s.c2, .slice r.s.A3 r.s.lo.length r.s.c3] 76)) go (outs ws).length (drkTo ws l t) ∧ go < wr.heap.size) := Lib.hid ⟨HA.out.1.heap (hbx.block go HA.out.2.2.1), HA.out.2.2.1⟩
   have hbw2 := Lib.hid (HA.out.2.1.trans (hbx.mono (by rw [← HGO.out]; exact HA.out.2.1.size)))
   go_upto_region 10 with fail
   clear z0 z1 z2 z3 z4
   have hsx : wr.heap.size + 1 = (wr.alloc (.cells #[.int .i64 r.m, .slice r.s.A0 r.s.ri.length r.s.c0, .slice r.s.A1 r.s.bo.length r.s.c1, .slice r.s.A2 r.s.lk.length r.s.c2, .slice r.s.A3 r.s.lo.length r.s.c3] 76)).heap.size := by simp
   generalize (wr.alloc (.cells #[.int .i64 r.m, .slice r.s.A0 r.s.ri.length r.s.c0, .slice r.s.A1 r.s.bo.length r.s.c1, .slice r.s.A2 r.s.lk.length r.s.c2, .slice r.s.A3 r.s.lo.length r.s.c3] 76)) = X0 at *
   clear hc hr hbx HA KA HO K2 KQ K1
   have hgr : go < wr.heap.size := HF.out.2
   have HGR : Hid (wr.heap.size + 1 = X0.heap.size) := Lib.hid hsx
   clear hsx
   generalize wr.heap.size = gr at *
   have q0 := cr 0 KX.out.1.2.1
   by_cases hw : withinB r.m 1 1048576 = true
   rotate_left
   ·obtain ⟨e1, e2, -⟩ := HR.out
    have he : runE ws r = 1 := by unfold runE; rw [if_neg hw]
    rw [hrun.out (by rw [he]; decide), he] at e1
    subst e1
    obtain rfl := e2 (by decide)
    rw [Bool.not_eq_true] at hw
    go_wp2_with (go_at_call 105; refine (within_any _ _ _ _).mono ?_; rintro e y ⟨rfl, rfl⟩)
    go_ret2
    exact ⟨none, 0, rfl, Rd.nil, (fun _ e => by cases e), KX.out.1.1.1.1⟩
   have p0 := cr 0 KX.out.1.1.1.2
   have q1 := cr 1 KX.out.1.2.1
   have q2 := cr 2 KX.out.1.2.1
   have q3 := cr 3 KX.out.1.2.1
   have q4 := cr 4 KX.out.1.2.1
   have HCW := Lib.hid (checkWater_any A c ws r.s X0 KX.out.1.1.2.1 HG.out KX.out.1.2.2)
   unfold Wt.v at HCW
   by_cases hwe : waterE ws r.s = 0
   rotate_left
   ·obtain ⟨e1, e2, -⟩ := HR.out
    have he : runE ws r = waterE ws r.s := by unfold runE; rw [if_pos hw]
    rw [hrun.out (by rw [he]; exact hwe), he] at e1
    rw [e1] at hwe HCW
    obtain rfl := e2 hwe
    have hwz : (E != 0) = true := by simpa using hwe
    go_wp2_with first
     | (go_at_call 105; refine (within_any _ _ _ _).mono ?_; rintro e y ⟨rfl, rfl⟩)
     | (go_at_call 83; refine HCW.out.mono ?_; rintro e X1 ⟨rfl, hb⟩; have KY := Lib.hid (KX.out.on hb); clear hb)
    go_ret2
    exact ⟨none, 0, rfl, Rd.nil, (fun _ e => by cases e), KY.out.1.1.1.1⟩
   rw [hwe] at HCW
   have ok := ok_of_water hwe
   have hrw := hre.out (by unfold runE; rw [if_pos hw]; exact hwe)
   have hwr := within_iff.1 hw
   have hfm : Hid (∀ x, x < (outs ws).length → 0 ≤ flowF ws r.s x ∧ flowF ws r.s x ≤ 1048576) := Lib.hid (fun x hx => flow_max HG.out ok hx)
   have HFW := Lib.hid (fun W (hb : Below X0.heap.size X0 W) => flow_any A c ws r.s W (KX.out.on hb).1.1.2.1 HG.out (KX.out.on hb).1.2.2 ok)
   obtain ⟨cs, hcs, hlen, hone, hcs2⟩ := flows_cells (flowF ws r.s)
   rw [hcs] at HFW
   have hat := Lib.hid (fun W => flows_at W (flowF ws r.s) cs hcs2)
   have hsz77 : cs.toArray.size = 77 := by rw [List.size_toArray, hlen]
   have HS77 := hd2 hsz77 hone
   unfold Wt.v at HFW
   have HE := Lib.hid hrw
   obtain ⟨ff, hff⟩ : ∃ ff, flowF ws r.s = ff := ⟨_, rfl⟩
   have HFF := Lib.hid hff
   rw [hff] at hat
   clear hlen hone hcs2 hsz77 ok hwe hre hrun hrw hff
   go_upto_region 13 with first
    | (go_at_call 105; refine (within_any _ _ _ _).mono ?_; rintro e y ⟨rfl, rfl⟩)
    | (go_at_call 83; refine HCW.out.mono ?_; rintro e X1 ⟨rfl, hb⟩; have HB1 := Lib.hid hb; have KY := Lib.hid (KX.out.on hb); clear hb)
   have p1 := cr 0 KY.out.1.1.1.2
   have r1 := cr 1 KY.out.1.2.1
   have r2 := cr 2 KY.out.1.2.1
   have r3 := cr 3 KY.out.1.2.1
   have r4 := cr 4 KY.out.1.2.1
   clear p0 q0 q1 q2 q3 q4 HCW
   go_upto_region 16 with first
    | (go_at_call 79; go_loud (refine (HFW.out _ HB1.out).mono ?_; rintro e X2 ⟨rfl, hb⟩; have HB2 := Lib.hid (HB1.out.trans (hb.mono HB1.out.size)); have KZ := Lib.hid (KY.out.on hb); clear hb))
    | (refine wpList_store_mid rfl 123 _ _ rfl _ 0 _ (by rfl) (by rfl) (by rw [HS77.out.1]; exact there_zero _) (by rw [HS77.out.1]; exact info123) HS77.out.2 ?_)
   clear p1 r1 r2 r3 r4 HFW KY
   obtain ⟨a5, b5, z5⟩ := hat.out X2
   rw [← zero123] at a5 b5 z5
   have HB3 := Lib.hid (HB2.out.trans (b5.mono HB2.out.size))
   have K5 := Lib.hid (KZ.out.on b5)
   have hs2 := HB2.out.size
   clear HB1 HB2 KZ hat HS77
   generalize (X2.alloc (Obj.cells Try.zeroCells123 123)).setCells X2.heap.size 0 cs = X5 at *
   have hga : gr + 1 ≤ X2.heap.size := by have := HGR.out; omega
   generalize X2.heap.size = ga at *
   have HF5 := Lib.hid (HF.out.1.heap (HB3.out.block go (by have := HGR.out; omega)))
   have HA5 := hd2 a5 (show X5.heap.size = ga + 1 from z5)
   have hbw3 := Lib.hid (hbw2.out.trans (HB3.out.mono (by have := HGR.out; omega)))
   clear a5 b5 z5 HF hbw2 HB3 hs2
   have hn77 := HG.out.n2
   go_upto_region 17 with fail
   generalize hDT : drkTo ws l t = DT at *
   generalize hDT1 : drkTo ws l (t + 1) = DT1 at *
   have HDT := Lib.hid hDT1
   clear hDT hDT1
   go_loopg [12, 47] (outs ws).length (fun gg _ i wi => ∃ x : Nat, x ≤ (outs ws).length ∧ (outs ws).length - x ≤ gg ∧ i = .int .i64 x ∧ Aside (IntF wi go (outs ws).length (fun j => if j < x then DT1 j else DT j) ∧ OnlyB go X5 wi))
   case atStart => exact ⟨0, Nat.zero_le _, by omega, rfl, HF5.out.congr (fun j _ => by simp), ⟨rfl, fun _ _ => rfl, Below.refl _ _⟩⟩
   case round =>
    obtain ⟨x, hx, hxg, rfl, hB⟩ := hrel
    have HI := Lib.hid hB.out
    clear hB
    by_cases hxl : x < (outs ws).length
    ·have hxz : (x : Int) < ((outs ws).length : Int) := by omega
     have hxz77 : (x : Int) < 60 := by omega
     have z0 : wr.drew.cell? ⟨go, x, none⟩ = some (.int .i64 (DT x)) := by
      have := HI.out.1.at_ x hxl
      rw [if_neg (Nat.lt_irrefl x)] at this
      exact this
     have z1 : wr.drew.cell? ⟨gr, 0, none⟩ = some (.int .i64 r.m) := (cell_of_heap (HI.out.2.blk gr (by omega))).trans (cr 0 K5.out.1.2.1)
     have z2 : wr.drew.cell? ⟨ga, x, none⟩ = some (.int .i64 (ff x)) := (cell_of_heap (HI.out.2.blk ga (by omega))).trans (HA5.out.1.cell (by omega))
     have fz : wr.drew.frozen? ⟨go, x, none⟩ = false := HI.out.1.fz x
     have HD : Hid (IntF wr.drew go (outs ws).length (fun j => if j < x then DT1 j else DT j) ∧ OnlyB go X5 wr.drew) := Lib.hid ⟨HI.out.1.heap rfl, HI.out.2.drew⟩
     have h1 : IntKind.i64.wrap (r.m * ff x) = r.m * ff x := by
      have := hfm.out x hxl
      rw [HFF.out] at this
      have := mul_max hwr.1 hwr.2 this.1 this.2
      rw [IntKind.wrap_i64]; omega
     have h2 : IntKind.i64.wrap (DT x + r.m * ff x) = DT1 x := by
      have a := hfm.out x hxl
      rw [HFF.out] at a
      have a := mul_max hwr.1 hwr.2 a.1 a.2
      have b := hdm.out x hxl
      rw [hds.out x, HFF.out]
      rw [IntKind.wrap_i64]; omega
     have HW := hd2 h1 h2
     clear h1 h2
     go_upto_region 19 with fail
     refine wp_region_R (fun j => j != 13) ?_
     generalize wr.drew = X at *
     refine bF 0 rfl ?_
     refine bF 1 rfl ?_
     refine bF 2 rfl ?_
     refine bT z0 3 rfl ?_
     refine bF 4 rfl ?_
     refine bT z1 5 rfl ?_
     refine bF 6 rfl ?_
     refine bF 7 rfl ?_
     refine bF 8 rfl ?_
     refine bT z2 9 rfl ?_
     refine bF 10 rfl ?_
     refine bF 11 rfl ?_
     refine bF 12 rfl ?_
     refine bR 13 rfl fun K hK => ?_
     go_simp
     refine hK.out _ _ (fun h => by cases h) ?_
     clear hK
     refine bD ?_
     clear z0 z1 z2 fz
     rw [HW.out.1, HW.out.2]
     go_wp2
     go_roundg ((outs ws).length - (x + 1))
     case measure => omega
     case rel => exact ⟨x + 1, by omega, by omega, by go_num, (HD.out.1.set hxl (DT1 x)).congr (fun j _ => by
      show (if j = x then DT1 x else if j < x then DT1 j else DT j) = if j < x + 1 then DT1 j else DT j
      by_cases e : j = x
      ·subst e; rw [if_pos rfl, if_pos (by omega)]
      ·rw [if_neg e]
       by_cases h : j < x
       ·rw [if_pos h, if_pos (by omega)]
       ·rw [if_neg h, if_neg (by omega)]), HD.out.2.set _⟩
    ·have hxz : ¬ (x : Int) < ((outs ws).length : Int) := by omega
     obtain rfl : x = (outs ws).length := by omega
     go_wp2
     go_roundg (l.length - (t + 1))
     case measure => omega
     case rel => exact ⟨t + 1, by omega, by omega, by go_num, HI.out.1.congr (fun j hj => by rw [if_pos hj, HDT.out]), hbw3.out.trans HI.out.2.bl, by rw [HI.out.2.size, HA5.out.2]; omega, HE.out⟩
  ·obtain rfl : t = l.length := by omega
   have hltz : ¬ (l.length : Int) < (l.length : Int) := by omega
   obtain ⟨e1, -, e2⟩ := HR.out
   have hz0 : runsE ws l = 0 := runsE_zero.2 (fun r hr => by
    obtain ⟨j, hj, rfl⟩ := List.getElem_of_mem hr
    have := HA.out.2.2.2 j hj
    unfold rAt at this
    rw [List.getD_eq_getElem?_getD, List.getElem?_eq_getElem hj] at this
    exact this)
   rw [hz0] at e1
   subst e1
   have hL := e2 rfl
   have hLl : L.length = (outs ws).length := by rw [hL]; simp
   have hR : Rd wr wr.heap.size (some ⟨go, 0, none⟩) L := IntF.rd (f := drkTo ws l l.length) (by rw [hLl]; exact HA.out.1) HA.out.2.2.1 (fun j hj => by rw [hL, nth_range _ (by omega)])
   have HRR := Lib.hid hR
   rw [← hLl]
   clear hR hLl hL e2 hz0
   go_wp2
   go_ret2
   exact ⟨_, ⟨_, rfl⟩, HRR.out, (fun _ e => by cases e; have := K2.out.1.1.1.size; have := HGO.out; show w.heap.size ≤ go; omega), K2.out.1.1.1.trans (HA.out.2.1.mono (by have := K2.out.1.1.1.size; have := HGO.out; omega))⟩
end Go.Proofs.Ytdadoelajhemjaa
