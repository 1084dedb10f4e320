/- Walks: the specification's Drunk. -/
import Derived.Test.YtdadoelajhemjaaN1
import Derived.Test.YtdadoelajhemjaaC9
import Derived.Test.YtdadoelajhemjaaC8
import Derived.OwnWalk
namespace Go.Proofs.Ytdadoelajhemjaa
open Go.RowKit Go.Shelf

theorem drk_fl0 (A : Option Addr) (n c : Nat) (B : Option Addr) (m d : Nat) (k : Int) (w : World) : (Instr.field 128 (.agg #[.slice A n c, .slice B m d, .int .i64 k]) 0).run Try.prog w = .ok (.slice A n c) w := by kernel_rfl
theorem fin2 (W w : World) (V E : Value) {V' E' : Value} {ty : TypeId} (hk : Blk W (w.heap.size + 1) #[V', E'] ty) (hb : Below w.heap.size w W) :
  ((W.setCell ⟨(w.heap.size + 1), 0, none⟩ V).setCell ⟨(w.heap.size + 1), 1, none⟩ E).cell? ⟨(w.heap.size + 1), 0, none⟩ = some V ∧ ((W.setCell ⟨(w.heap.size + 1), 0, none⟩ V).setCell ⟨(w.heap.size + 1), 1, none⟩ E).cell? ⟨(w.heap.size + 1), 1, none⟩ = some E ∧ Below w.heap.size w ((W.setCell ⟨(w.heap.size + 1), 0, none⟩ V).setCell ⟨(w.heap.size + 1), 1, none⟩ E) :=
 ⟨cr 0 (blk_set2 hk V E), cr 1 (blk_set2 hk V E), (hb.setCell (p := ⟨(w.heap.size + 1), 0, none⟩) (by show w.heap.size ≤ (w.heap.size + 1); omega) _).setCell (p := ⟨(w.heap.size + 1), 1, none⟩) (by show w.heap.size ≤ (w.heap.size + 1); omega) _⟩

theorem stays_in {W w2 : World} {g n : Nat} {f : Nat → Int} (h : IntF W g n f) (hb : Below g w2 W) (hg : g < W.heap.size) : Stays (fun X => IntF X g n f ∧ Below g w2 X ∧ g < X.heap.size) W :=
 ⟨⟨h, hb, hg⟩, fun _ _ a b => ⟨a.1.heap (b.block g a.2.2), a.2.1.trans (b.mono (Nat.le_of_lt a.2.2)), Nat.lt_of_lt_of_le a.2.2 b.size⟩⟩
theorem stays_rn {W : World} {b off : Nat} {r : Rn} (h : RnAt W b off r) : Stays (fun X => RnAt X b off r) W := ⟨h, fun _ _ a b => a.ext b⟩
set_option maxRecDepth 100000 in
set_option maxHeartbeats 3200000 in
theorem rDrunk_any (A : Option Addr) (c : Nat) (ws : List Car) (B : Option Addr) (d : Nat) (l : List Rn) (w : World) (hW : Wk w A ws) (hl : RdR w B l) (hm : l.length ≤ 1000) :
  Calls Try.prog 50 #[.agg #[.slice A ws.length c], .slice B l.length d] w fun e w' => ∃ A' c', e = .returned (.agg #[.slice A' (drkL ws l).length c', .int .i64 (drkE ws l)]) ∧ Rd w' w'.heap.size A' (drkL ws l) ∧ Below w.heap.size w w' := by
 obtain ⟨i0, hi0, hzz0, hzz1, hzz2⟩ := info_parts info3
 have hb : Below w.heap.size w ((w.alloc (.cells #[.slice A ws.length c] 24)).alloc (.cells #[.slice none 0 0, .int .i64 0] 45)) := ((Below.refl _ w).alloc (Nat.le_refl _) _).alloc (by simp) _
 have KQ := Lib.hid (((stays_bl hb).and ((stays_blk (blk_alloc (blk_new w #[.slice A ws.length c] 24 rfl) _)).and (stays_blk (g := (w.heap.size + 1)) (blk_new (w.alloc (.cells #[.slice A ws.length c] 24)) #[.slice none 0 0, .int .i64 0] 45 (by simp))))).and ((stays_wk (hW.ext hb)).and (stays_rdr (hl.ext hb))))
 have HSZ := Lib.hid (show (w.heap.size + 1) + 1 = (((w.alloc (.cells #[.slice A ws.length c] 24)).alloc (.cells #[.slice none 0 0, .int .i64 0] 45))).heap.size by simp)
 clear hb hW hl
 obtain ⟨E, hE⟩ : ∃ E, drkE ws l = E := ⟨_, rfl⟩
 obtain ⟨L, hL⟩ : ∃ L, drkL ws l = L := ⟨_, rfl⟩
 rw [hE, hL]
 have HR : Hid ((if checkE ws = 0 then (if 60 < l.length then 2 else runsE ws l) else checkE ws) = E ∧ (E ≠ 0 → L = []) ∧ (E = 0 → L = (List.range (outs ws).length).map (drkTo ws l l.length))) := by
  refine Lib.hid ⟨hE, fun h => ?_, fun h => ?_⟩
  ·rw [← hL]; exact if_neg (by rw [hE]; exact h)
  ·rw [← hL]; exact if_pos (by rw [hE]; exact h)
 clear hE hL
 go_enter Try.func50, Try.ntmps50
 go_upto_region 1 with fail
 generalize ((w.alloc (.cells #[.slice A ws.length c] 24)).alloc (.cells #[.slice none 0 0, .int .i64 0] 45)) = W0 at *
 have p0 := cr 0 KQ.out.1.1.2.1
 have hmc := rCheck_any A c ws W0 KQ.out.1.2.1
 generalize hce : checkE ws = CE at hmc HR
 have HCC := Lib.hid hmc
 clear hmc
 by_cases h0 : CE = 0
 rotate_left
 ·obtain ⟨e1, e2, -⟩ := HR.out
  rw [if_neg h0] at e1
  rw [e1] at HCC h0
  have hz : (E != 0) = true := by simpa using h0
  obtain rfl := e2 h0
  clear h0 e2 hce HR
  go_upto_region 3 with (go_at_call 75; refine HCC.out.mono ?_; rintro e w1 ⟨rfl, hb⟩; have K1 := Lib.hid (KQ.out.on hb); clear hb)
  clear p0
  have y0 := cr 0 K1.out.1.1.2.2
  have y1 := cr 1 K1.out.1.1.2.2
  have z0 := bf 0 K1.out.1.1.2.2
  have z1 := bf 1 K1.out.1.1.2.2
  obtain ⟨v0, v1, HBL⟩ := fin2 w1 w (.slice none 0 0) (.int .i64 E) K1.out.1.1.2.2 K1.out.1.1.1
  have HBL := Lib.hid HBL
  go_wp2
  generalize ((w1.setCell ⟨(w.heap.size + 1), 0, none⟩ (.slice none 0 0)).setCell ⟨(w.heap.size + 1), 1, none⟩ (.int .i64 E)) = wz at *
  exact bodyPost_ret (v := .agg #[  .slice none 0 0, .int .i64 E]) (by simp [results, Try.results50, go_sem, v0, v1]) rfl ⟨none, 0, rfl, Rd.nil, HBL.out⟩
 subst h0
 have HG := Lib.hid (good_of_check hce)
 clear hce
 rw [if_pos rfl] at HR
 by_cases h60 : 60 < l.length
 ·have hz : (60 : Int) < (l.length : Int) := by omega
  obtain ⟨e1, e2, -⟩ := HR.out
  rw [if_pos h60] at e1
  subst e1
  obtain rfl := e2 (by decide)
  clear h60 e2 HR
  go_upto_region 5 with (go_at_call 75; refine HCC.out.mono ?_; rintro e w1 ⟨rfl, hb⟩; have K1 := Lib.hid (KQ.out.on hb); clear hb)
  clear p0
  have y0 := cr 0 K1.out.1.1.2.2
  have y1 := cr 1 K1.out.1.1.2.2
  have z0 := bf 0 K1.out.1.1.2.2
  have z1 := bf 1 K1.out.1.1.2.2
  obtain ⟨v0, v1, HBL⟩ := fin2 w1 w (.slice none 0 0) (.int .i64 2) K1.out.1.1.2.2 K1.out.1.1.1
  have HBL := Lib.hid HBL
  go_wp2
  generalize ((w1.setCell ⟨(w.heap.size + 1), 0, none⟩ (.slice none 0 0)).setCell ⟨(w.heap.size + 1), 1, none⟩ (.int .i64 2)) = wz at *
  exact bodyPost_ret (v := .agg #[  .slice none 0 0, .int .i64 2]) (by simp [results, Try.results50, go_sem, v0, v1]) rfl ⟨none, 0, rfl, Rd.nil, HBL.out⟩
 rw [if_neg h60] at HR
 have hz60 : ¬ (60 : Int) < (l.length : Int) := by omega
 have hn2 := HG.out.n2
 go_upto_region 6 with (go_at_call 75; refine HCC.out.mono ?_; rintro e w1 ⟨rfl, hb⟩; have HB1 := Lib.hid hb; have K1 := Lib.hid (KQ.out.on hb); clear hb)
 clear p0 h60
 have p0 := cr 0 K1.out.1.1.2.1
 go_upto_region 7 with first
  | (go_at_call 90; refine (rOutlets_any A c ws _ K1.out.1.2.1).mono ?_; rintro e w2 ⟨A5, c5, rfl, -, -, hb⟩; have HB2 := Lib.hid (Nat.le_trans HB1.out.size hb.size); have K2 := Lib.hid (K1.out.on hb); clear hb)
  | (refine wpList_make_full _ rfl _ _ 25 rfl w2.heap.size 3 i0 (.int .i64 0) 1 Try.underlying25 hi0 hzz0 hzz1 .i64 .i64 ((outs ws).length : Int) ((outs ws).length : Int) (outs ws).length rfl rfl rfl rfl (by rw [hzz2]; omega) (by unfold maxLen; omega) (Nat.le_refl _) ?_; intro w3 hown hg; have HO := hd2 (made_zero hown) ((Below.refl _ w2).grown hg (Nat.le_refl _) (fun k e => by cases e)); clear hown hg)
 clear p0 HCC HB1
 have HGS : Hid ((w.heap.size + 1) + 1 ≤ w2.heap.size) := Lib.hid (by rw [HSZ.out]; exact HB2.out)
 clear HSZ HB2
 generalize hgo : w2.heap.size = go at *
 have HGO := Lib.hid hgo
 clear hgo
 go_upto_region 8 with fail
 go_loopg [7, 8, 9, 10, 11] l.length (fun gg i _ _ _ _ wr => ∃ t : Nat, t ≤ l.length ∧ l.length - t ≤ gg ∧ i = .int .i64 t ∧ Aside (IntF wr go (outs ws).length (drkTo ws l t) ∧ Below go w2 wr ∧ go < wr.heap.size ∧ ∀ j, j < t → runE ws (rAt l j) = 0))
 case atStart => exact ⟨0, Nat.zero_le _, by omega, rfl, HO.out.1.1.congr (fun _ _ => rfl), HO.out.2, HO.out.1.2.2, fun j hj => absurd hj (Nat.not_lt_zero _)⟩
 case round =>
  obtain ⟨t, ht, hgg, rfl, hA⟩ := hrel
  have HA := Lib.hid hA.out
  clear hA
  have KA := Lib.hid (K2.out.on (by rw [HGO.out]; exact HA.out.2.1))
  by_cases hlt : t < l.length
  ·have hltz : (t : Int) < (l.length : Int) := by omega
   obtain ⟨b, off, rfl, hc⟩ := K2.out.1.2.2 (by omega)
   have hr0 := hc t hlt
   have hbg : b < go := by rw [← HGO.out]; exact lt_of_cell' hr0.c0
   have hrun : Hid (runE ws (rAt l t) ≠ 0 → runsE ws l = runE ws (rAt l t)) := Lib.hid (runsE_first hlt HA.out.2.2.2)
   have hds : Hid (∀ i, drkTo ws l (t + 1) i = drkTo ws l t i + (rAt l t).m * flowF ws (rAt l t).s i) := Lib.hid (fun _ => rfl)
   have hdm : Hid (∀ x, x < (outs ws).length → 0 ≤ drkTo ws l t x ∧ drkTo ws l t x ≤ t * 1099511627776) := Lib.hid (fun x hx => drkTo_max HG.out hx HA.out.2.2.2)
   have hre : Hid (runE ws (rAt l t) = 0 → ∀ j, j < t + 1 → runE ws (rAt l j) = 0) := Lib.hid (fun h j hj => by
    by_cases e : j = t
    ·subst e; exact h
    ·exact HA.out.2.2.2 j (by omega))
   generalize rAt l t = r at *
   have hr := hr0.ext (w' := wr) (by rw [HGO.out]; exact HA.out.2.1)
   have KX := Lib.hid (KA.out.and ((stays_in HA.out.1 HA.out.2.1 HA.out.2.2.1).and (stays_rn hr)))
   have HR0 := Lib.hid hr0
   have q0 := hr.c0
   clear hc hr hr0 HA KA HO KQ K1
   by_cases hw : withinB r.m 1 1048576 = true
   rotate_left
   ·obtain ⟨e1, e2, -⟩ := HR.out
    have he : runE ws r = 1 := by unfold runE; rw [if_neg hw]
    rw [hrun.out (by rw [he]; decide), he] at e1
    subst e1
    obtain rfl := e2 (by decide)
    rw [Bool.not_eq_true] at hw
    go_upto_region 12 with (go_at_call 110; refine (rWithin_any _ _ _ _).mono ?_; rintro e y ⟨rfl, hb⟩; have KY := Lib.hid (KX.out.on hb); clear hb)
    clear q0
    have y0 := cr 0 KY.out.1.1.1.2.2
    have y1 := cr 1 KY.out.1.1.1.2.2
    have z0 := bf 0 KY.out.1.1.1.2.2
    have z1 := bf 1 KY.out.1.1.1.2.2
    obtain ⟨v0, v1, HBL⟩ := fin2 y w (.slice none 0 0) (.int .i64 1) KY.out.1.1.1.2.2 KY.out.1.1.1.1
    have HBL := Lib.hid HBL
    go_wp2
    generalize ((y.setCell ⟨(w.heap.size + 1), 0, none⟩ (.slice none 0 0)).setCell ⟨(w.heap.size + 1), 1, none⟩ (.int .i64 1)) = wz at *
    exact bodyPost_ret (v := .agg #[  .slice none 0 0, .int .i64 1]) (by simp [results, Try.results50, go_sem, v0, v1]) rfl ⟨none, 0, rfl, Rd.nil, HBL.out⟩
   by_cases hwe : waterE ws r.s = 0
   rotate_left
   ·obtain ⟨e1, e2, -⟩ := HR.out
    have he : runE ws r = waterE ws r.s := by unfold runE; rw [if_pos hw]
    rw [hrun.out (by rw [he]; exact hwe), he] at e1
    rw [e1] at hwe
    obtain rfl := e2 hwe
    have HE1 := Lib.hid e1
    have hwz : (E != 0) = true := by simpa using hwe
    clear e1 e2 he hwe
    go_upto_region 13 with (go_at_call 110; refine (rWithin_any _ _ _ _).mono ?_; rintro e y ⟨rfl, hb⟩; have KY := Lib.hid (KX.out.on hb); clear hb)
    clear q0
    refine wp_region_R (fun _ => true) ?_
    have KD := Lib.hid (KY.out.on (Below.refl _ _).drew)
    generalize World.drew _ = X0 at *
    have p0 := cr 0 KD.out.1.1.1.2.1
    have q1 := KD.out.1.2.2.c1
    have q2 := KD.out.1.2.2.c2
    have q3 := KD.out.1.2.2.c3
    have q4 := KD.out.1.2.2.c4
    refine bT p0 0 rfl ?_
    refine bF 1 rfl ?_
    refine bF 2 rfl ?_
    refine bF 3 rfl ?_
    refine bF 4 rfl ?_
    refine bW q1 q2 q3 q4 5 rfl ?_
    clear p0 q1 q2 q3 q4
    refine bR 6 rfl fun K hK => ?_
    go_simp
    have hw3 := rWater_any A c ws r.s X0 KD.out.1.1.2.1 KD.out.1.2.2.wt
    rw [HE1.out] at hw3
    unfold Wt.v at hw3
    refine hw3.mono ?_
    clear hw3
    rintro e X1 ⟨rfl, hb⟩
    dsimp only
    refine hK.out _ _ (fun _ => hb) ?_
    have KZ := Lib.hid (KD.out.on hb)
    clear hK hb
    refine bF 7 rfl ?_
    refine bD ?_
    go_upto_region 15 with fail
    have y0 := cr 0 KZ.out.1.1.1.2.2
    have y1 := cr 1 KZ.out.1.1.1.2.2
    have z0 := bf 0 KZ.out.1.1.1.2.2
    have z1 := bf 1 KZ.out.1.1.1.2.2
    obtain ⟨v0, v1, HBL⟩ := fin2 X1 w (.slice none 0 0) (.int .i64 E) KZ.out.1.1.1.2.2 KZ.out.1.1.1.1
    have HBL := Lib.hid HBL
    go_wp2
    generalize ((X1.setCell ⟨(w.heap.size + 1), 0, none⟩ (.slice none 0 0)).setCell ⟨(w.heap.size + 1), 1, none⟩ (.int .i64 E)) = wz at *
    exact bodyPost_ret (v := .agg #[  .slice none 0 0, .int .i64 E]) (by simp [results, Try.results50, go_sem, v0, v1]) rfl ⟨none, 0, rfl, Rd.nil, HBL.out⟩
   have ok := ok_of_water hwe
   have hrw := hre.out (by unfold runE; rw [if_pos hw]; exact hwe)
   have hwr := within_iff.1 hw
   have hfm : Hid (∀ x, x < (outs ws).length → 0 ≤ flowF ws r.s x ∧ flowF ws r.s x ≤ 1048576) := Lib.hid (fun x hx => flow_max HG.out ok hx)
   have HE := Lib.hid hrw
   obtain ⟨ff, hff⟩ : ∃ ff, flowF ws r.s = ff := ⟨_, rfl⟩
   have HFF := Lib.hid hff
   have HOK := hd2 ok hwe
   clear ok hwe hre hrun hrw hff
   go_upto_region 13 with (go_at_call 110; refine (rWithin_any _ _ _ _).mono ?_; rintro e y ⟨rfl, hb⟩; have KY := Lib.hid (KX.out.on hb); clear hb)
   clear q0
   refine wp_region_R (fun _ => true) ?_
   have KD := Lib.hid (KY.out.on (Below.refl _ _).drew)
   generalize World.drew _ = X0 at *
   have p0 := cr 0 KD.out.1.1.1.2.1
   have q1 := KD.out.1.2.2.c1
   have q2 := KD.out.1.2.2.c2
   have q3 := KD.out.1.2.2.c3
   have q4 := KD.out.1.2.2.c4
   refine bT p0 0 rfl ?_
   refine bF 1 rfl ?_
   refine bF 2 rfl ?_
   refine bF 3 rfl ?_
   refine bF 4 rfl ?_
   refine bW q1 q2 q3 q4 5 rfl ?_
   clear p0 q1 q2 q3 q4
   refine bR 6 rfl fun K hK => ?_
   go_simp
   have hw3 := rWater_any A c ws r.s X0 KD.out.1.1.2.1 KD.out.1.2.2.wt
   rw [HOK.out.2] at hw3
   unfold Wt.v at hw3
   refine hw3.mono ?_
   clear hw3
   rintro e X1 ⟨rfl, hb⟩
   dsimp only
   refine hK.out _ _ (fun _ => hb) ?_
   have KZ := Lib.hid (KD.out.on hb)
   clear hK hb
   refine bF 7 rfl ?_
   refine bD ?_
   go_upto_region 16 with fail
   refine wp_region_R (fun _ => true) ?_
   have KE := Lib.hid (KZ.out.on (Below.refl _ _).drew)
   generalize World.drew _ = X2 at *
   have p0 := cr 0 KE.out.1.1.1.2.1
   have q1 := KE.out.1.2.2.c1
   have q2 := KE.out.1.2.2.c2
   have q3 := KE.out.1.2.2.c3
   have q4 := KE.out.1.2.2.c4
   refine bT p0 0 rfl ?_
   refine bF 1 rfl ?_
   refine bF 2 rfl ?_
   refine bF 3 rfl ?_
   refine bF 4 rfl ?_
   refine bW q1 q2 q3 q4 5 rfl ?_
   clear p0 q1 q2 q3 q4
   refine bR 6 rfl fun K hK => ?_
   go_simp
   have hfl := rFlow_any A c ws r.s X2 KE.out.1.1.2.1 KE.out.1.2.2.wt HG.out HOK.out.1
   unfold Wt.v at hfl
   refine hfl.mono ?_
   clear hfl
   rintro e X3 ⟨A1, c1, A2, c2, rfl, hr1, -, hf1, -, hb⟩
   dsimp only
   refine hK.out _ _ (fun _ => hb) ?_
   have KF := Lib.hid (KE.out.on hb)
   have HRd := hd2 hr1 (show Fresh (go + 1) A1 from fun ad e => Nat.le_trans (by have := KE.out.1.2.1.2.2; omega) (hf1 ad e))
   clear hK hb hr1 hf1
   have qf0 := drk_fl0
   refine bF 7 rfl ?_
   refine bF 8 rfl ?_
   refine bD ?_
   clear qf0
   go_upto_region 18 with fail
   clear KX KY KD KZ KE
   generalize hDT : drkTo ws l t = DT at *
   generalize hDT1 : drkTo ws l (t + 1) = DT1 at *
   have HDT := Lib.hid hDT1
   clear hDT hDT1
   go_loopg [11] (outs ws).length (fun gg i wi => ∃ x : Nat, x ≤ (outs ws).length ∧ (outs ws).length - x ≤ gg ∧ i = .int .i64 x ∧ Aside (IntF wi go (outs ws).length (fun j => if j < x then DT1 j else DT j) ∧ OnlyB go X3 wi))
   case atStart => exact ⟨0, Nat.zero_le _, by omega, rfl, KF.out.1.2.1.1.congr (fun j _ => by simp), ⟨rfl, fun _ _ => rfl, Below.refl _ _⟩⟩
   case round =>
    obtain ⟨x, hx, hxg, rfl, hB⟩ := hrel
    have HI := Lib.hid hB.out
    clear hB
    by_cases hxl : x < (outs ws).length
    ·have hxz : (x : Int) < ((outs ws).length : Int) := by omega
     obtain ⟨bf, of, rfl, -, hcf⟩ := HRd.out.1 (by rw [FLto_length]; omega)
     have hbf : go + 1 ≤ bf := HRd.out.2 _ rfl
     have z0 : wr.drew.cell? ⟨go, x, none⟩ = some (.int .i64 (DT x)) := by
      have := HI.out.1.at_ x hxl
      rw [if_neg (Nat.lt_irrefl x)] at this
      exact this
     have z1 : wr.drew.cell? ⟨b, off + t * 5, none⟩ = some (.int .i64 r.m) := (cell_of_heap (HI.out.2.blk b (by omega))).trans KF.out.1.2.2.c0
     have z2 : wr.drew.cell? ⟨bf, of + x, none⟩ = some (.int .i64 (ff x)) := (cell_of_heap (HI.out.2.blk bf (by omega))).trans ((hcf x (by rw [FLto_length]; omega)).trans (by rw [show nth (FLto ws r.s (outs ws).length) x = flowF ws r.s x from nth_range _ hxl, HFF.out]))
     have fz : wr.drew.frozen? ⟨go, x, none⟩ = false := HI.out.1.fz x
     have HD : Hid (IntF wr.drew go (outs ws).length (fun j => if j < x then DT1 j else DT j) ∧ OnlyB go X3 wr.drew) := Lib.hid ⟨HI.out.1.heap rfl, HI.out.2.drew⟩
     have h1 : IntKind.i64.wrap (r.m * ff x) = r.m * ff x := by
      have := hfm.out x hxl
      rw [HFF.out] at this
      have := mul_max hwr.1 hwr.2 this.1 this.2
      rw [IntKind.wrap_i64]; omega
     have h2 : IntKind.i64.wrap (DT x + r.m * ff x) = DT1 x := by
      have a := hfm.out x hxl
      rw [HFF.out] at a
      have a := mul_max hwr.1 hwr.2 a.1 a.2
      have b := hdm.out x hxl
      rw [hds.out x, HFF.out]
      rw [IntKind.wrap_i64]; omega
     have HW := hd2 h1 h2
     clear h1 h2 hcf
     go_upto_region 20 with fail
     refine wp_region_R (fun j => j != 18) ?_
     generalize wr.drew = X at *
     refine bF 0 rfl ?_
     refine bF 1 rfl ?_
     refine bF 2 rfl ?_
     refine bF 3 rfl ?_
     refine bF 4 rfl ?_
     refine bT z0 5 rfl ?_
     refine bF 6 rfl ?_
     refine bF 7 rfl ?_
     refine bF 8 rfl ?_
     refine bF 9 rfl ?_
     refine bT z1 10 rfl ?_
     refine bF 11 rfl ?_
     refine bF 12 rfl ?_
     refine bF 13 rfl ?_
     refine bT z2 14 rfl ?_
     refine bF 15 rfl ?_
     refine bF 16 rfl ?_
     refine bF 17 rfl ?_
     refine bR 18 rfl fun K hK => ?_
     go_simp
     refine hK.out _ _ (fun h => by cases h) ?_
     clear hK
     refine bD ?_
     clear z0 z1 z2 fz
     rw [HW.out.1, HW.out.2]
     go_wp2
     go_roundg ((outs ws).length - (x + 1))
     case measure => omega
     case rel => exact ⟨x + 1, by omega, by omega, by go_num, (HD.out.1.set hxl (DT1 x)).congr (fun j _ => by
      show (if j = x then DT1 x else if j < x then DT1 j else DT j) = if j < x + 1 then DT1 j else DT j
      by_cases e : j = x
      ·subst e; rw [if_pos rfl, if_pos (by omega)]
      ·rw [if_neg e]
       by_cases h : j < x
       ·rw [if_pos h, if_pos (by omega)]
       ·rw [if_neg h, if_neg (by omega)]), HD.out.2.set _⟩
    ·have hxz : ¬ (x : Int) < ((outs ws).length : Int) := by omega
     obtain rfl : x = (outs ws).length := by omega
     go_wp2
     go_roundg (l.length - (t + 1))
     case measure => omega
     case rel => exact ⟨t + 1, by omega, by omega, by go_num, HI.out.1.congr (fun j hj => by rw [if_pos hj, HDT.out]), KF.out.1.2.1.2.1.trans HI.out.2.bl, by rw [HI.out.2.size]; exact KF.out.1.2.1.2.2, HE.out⟩
  ·obtain rfl : t = l.length := by omega
   have hltz : ¬ (l.length : Int) < (l.length : Int) := by omega
   obtain ⟨e1, -, e2⟩ := HR.out
   have hz0 : runsE ws l = 0 := runsE_zero.2 (fun r hr => by
    obtain ⟨j, hj, rfl⟩ := List.getElem_of_mem hr
    have := HA.out.2.2.2 j hj
    unfold rAt at this
    rw [List.getD_eq_getElem?_getD, List.getElem?_eq_getElem hj] at this
    exact this)
   rw [hz0] at e1
   subst e1
   have hL := e2 rfl
   have hLl : L.length = (outs ws).length := by rw [hL]; simp
   obtain ⟨v0, v1, HBL⟩ := fin2 wr w (.slice (some ⟨go, 0, none⟩) (outs ws).length (outs ws).length) (.int .i64 0) KA.out.1.1.2.2 KA.out.1.1.1
   have HI2 : IntF ((wr.setCell ⟨(w.heap.size + 1), 0, none⟩ (.slice (some ⟨go, 0, none⟩) (outs ws).length (outs ws).length)).setCell ⟨(w.heap.size + 1), 1, none⟩ (.int .i64 0)) go (outs ws).length (drkTo ws l l.length) := HA.out.1.heap ((Below.heap_setCell _ _ _ _ (by have := HGS.out; have := HGO.out; show go ≠ (w.heap.size + 1); omega)).trans (Below.heap_setCell _ _ _ _ (by have := HGS.out; have := HGO.out; show go ≠ (w.heap.size + 1); omega)))
   have HSW : go < ((wr.setCell ⟨(w.heap.size + 1), 0, none⟩ (.slice (some ⟨go, 0, none⟩) (outs ws).length (outs ws).length)).setCell ⟨(w.heap.size + 1), 1, none⟩ (.int .i64 0)).heap.size := by rw [World.size_setCell, World.size_setCell]; exact HA.out.2.2.1
   have hR := IntF.rd (xs := L) (by rw [hLl]; exact HI2) HSW (fun j hj => by rw [hL, nth_range _ (by omega)])
   have HBL := hd2 HBL hR
   clear hR hL e2 hz0 HI2 HSW
   have y0 := cr 0 KA.out.1.1.2.2
   have y1 := cr 1 KA.out.1.1.2.2
   have z0 := bf 0 KA.out.1.1.2.2
   have z1 := bf 1 KA.out.1.1.2.2
   rw [← hLl] at *
   go_wp2
   generalize ((wr.setCell ⟨(w.heap.size + 1), 0, none⟩ (.slice (some ⟨go, 0, none⟩) L.length L.length)).setCell ⟨(w.heap.size + 1), 1, none⟩ (.int .i64 0)) = wz at *
   exact bodyPost_ret (v := .agg #[.slice (some ⟨go, 0, none⟩) L.length L.length, .int .i64 0]) (by simp [results, Try.results50, go_sem, v0, v1]) rfl ⟨_, ⟨_, rfl⟩, HBL.out.2, HBL.out.1⟩
end Go.Proofs.Ytdadoelajhemjaa
