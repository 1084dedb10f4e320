/- Walks: the specification's flow. -/
import Derived.Test.YtdadoelajhemjaaP5
import Derived.Test.YtdadoelajhemjaaC7
namespace Go.Proofs.Ytdadoelajhemjaa
open Go.RowKit Go.Shelf

/-- The cells that taking reads. -/
def flS (gx g1 bp op bb ob bk okk x bx : Nat) (v0 v1 v2 v3 v4 v5 : Value) (k : Nat) (X : World) : Prop := match k with
 | 0 => X.cell? ⟨gx, 2, none⟩ = some v0
 | 1 => X.cell? ⟨g1, 1, none⟩ = some v1 ∧ X.cell? ⟨g1, 2, none⟩ = some v2
 | 2 => X.cell? ⟨bb, ob + x, none⟩ = some v3
 | 3 => X.cell? ⟨bp, op + bx, none⟩ = some v4
 | 4 => X.cell? ⟨bk, okk + x, none⟩ = some v5
 | _ => True
theorem flS_on {gx g1 bp op bb ob bk okk x bx : Nat} {v0 v1 v2 v3 v4 v5 : Value} {k : Nat} {X Y : World} (hb : Below X.heap.size X Y) (h : flS gx g1 bp op bb ob bk okk x bx v0 v1 v2 v3 v4 v5 k X) : flS gx g1 bp op bb ob bk okk x bx v0 v1 v2 v3 v4 v5 k Y := by
 have c := fun {a : Addr} {u : Value} (e : X.cell? a = some u) => (hb.cell (p := a) (lt_of_cell e)).trans e
 match k, h with
 | 0, h => exact c h
 | 1, h => exact ⟨c h.1, c h.2⟩
 | 2, h => exact c h
 | 3, h => exact c h
 | 4, h => exact c h
 | _ + 5, _ => trivial
theorem g_fed {ws : List Car} (g : Good ws) {y : Nat} {t : Nat} (hy : y < (outs ws).length) (h : (oAt (outs ws) y).into = (t : Int)) : caAt ws y < t := by
 have := (g.fine hy).into
 omega
theorem LOto_zero (ws : List Car) (s : Wt) : LOto ws s 0 = 0 := by
 unfold LOto
 rw [flowK_zero, flow0_at, if_neg (by omega)]
theorem hInt_at {ws : List Car} {t j : Nat} (h : j < (headsTo ws t).length) : nth (hInt ws t) j = (((headsTo ws t).getD j 0 : Nat) : Int) := by
 unfold hInt nth
 simp [h]
set_option maxRecDepth 100000 in
set_option maxHeartbeats 6400000 in
theorem rFlow_any (A : Option Addr) (c : Nat) (ws : List Car) (s : Wt) (w : World) (h : Wk w A ws) (hs : Wet w s) (g : Good ws) (ok : Ok ws s) :
  Calls Try.prog 82 #[.agg #[.slice A ws.length c], s.v] w fun e w' => ∃ A1 c1 A2 c2, e = .returned (.agg #[.slice A1 (outs ws).length c1, .slice A2 ws.length c2, .int .i64 (LOto ws s (outs ws).length)]) ∧ Rd w' w'.heap.size A1 (FLto ws s (outs ws).length) ∧ Rd w' w'.heap.size A2 (TLto ws s ws.length) ∧ Fresh w.heap.size A1 ∧ Fresh w.heap.size A2 ∧ Below w.heap.size w w' := by
 obtain ⟨i0, hi0, hz0, hz1, hz2⟩ := info_parts info3
 obtain ⟨A0, B1, A2, A3, d0, d1, d2, d3, ri, bo, lk, lo⟩ := s
 have n1 := g.n1
 have n2 := g.n2
 show Calls _ _ #[.agg #[.slice A ws.length c], .agg #[.slice A0 ri.length d0, .slice B1 bo.length d1, .slice A2 lk.length d2, .slice A3 lo.length d3]] _ _
 have hb : Below w.heap.size w ((((w.alloc (.cells #[.slice A ws.length c] 24)).alloc (.cells #[.slice A0 ri.length d0, .slice B1 bo.length d1, .slice A2 lk.length d2, .slice A3 lo.length d3] 27)).alloc (.cells #[.slice none 0 0, .slice none 0 0, .int .i64 0] 128)).alloc (.cells #[.slice none 0 0, .slice none 0 0, .int .i64 0] 128)) := ((((Below.refl _ w).alloc (Nat.le_refl _) _).alloc (by simp) _).alloc (by simp; omega) _).alloc (by simp; omega) _
 have hsz : ((((w.alloc (.cells #[.slice A ws.length c] 24)).alloc (.cells #[.slice A0 ri.length d0, .slice B1 bo.length d1, .slice A2 lk.length d2, .slice A3 lo.length d3] 27)).alloc (.cells #[.slice none 0 0, .slice none 0 0, .int .i64 0] 128)).alloc (.cells #[.slice none 0 0, .slice none 0 0, .int .i64 0] 128)).heap.size = w.heap.size + 4 := by simp
 have q0 : Blk ((((w.alloc (.cells #[.slice A ws.length c] 24)).alloc (.cells #[.slice A0 ri.length d0, .slice B1 bo.length d1, .slice A2 lk.length d2, .slice A3 lo.length d3] 27)).alloc (.cells #[.slice none 0 0, .slice none 0 0, .int .i64 0] 128)).alloc (.cells #[.slice none 0 0, .slice none 0 0, .int .i64 0] 128)) w.heap.size #[.slice A ws.length c] 24 := blk_alloc (blk_alloc (blk_alloc (blk_new _ _ _ rfl) _) _) _
 have q1 : Blk ((((w.alloc (.cells #[.slice A ws.length c] 24)).alloc (.cells #[.slice A0 ri.length d0, .slice B1 bo.length d1, .slice A2 lk.length d2, .slice A3 lo.length d3] 27)).alloc (.cells #[.slice none 0 0, .slice none 0 0, .int .i64 0] 128)).alloc (.cells #[.slice none 0 0, .slice none 0 0, .int .i64 0] 128)) (w.heap.size + 1) #[.slice A0 ri.length d0, .slice B1 bo.length d1, .slice A2 lk.length d2, .slice A3 lo.length d3] 27 := blk_alloc (blk_alloc (blk_new _ _ _ (by simp)) _) _
 have q2 : Blk ((((w.alloc (.cells #[.slice A ws.length c] 24)).alloc (.cells #[.slice A0 ri.length d0, .slice B1 bo.length d1, .slice A2 lk.length d2, .slice A3 lo.length d3] 27)).alloc (.cells #[.slice none 0 0, .slice none 0 0, .int .i64 0] 128)).alloc (.cells #[.slice none 0 0, .slice none 0 0, .int .i64 0] 128)) (w.heap.size + 1 + 1) #[.slice none 0 0, .slice none 0 0, .int .i64 0] 128 := blk_alloc (blk_new _ _ _ (by simp)) _
 have q3 : Blk ((((w.alloc (.cells #[.slice A ws.length c] 24)).alloc (.cells #[.slice A0 ri.length d0, .slice B1 bo.length d1, .slice A2 lk.length d2, .slice A3 lo.length d3] 27)).alloc (.cells #[.slice none 0 0, .slice none 0 0, .int .i64 0] 128)).alloc (.cells #[.slice none 0 0, .slice none 0 0, .int .i64 0] 128)) (w.heap.size + 1 + 1 + 1) #[.slice none 0 0, .slice none 0 0, .int .i64 0] 128 := blk_new _ _ _ (by simp)
 have HQ := hd6 hb hsz q0 q1 q2 q3
 have HI := hd4 h hs g ok
 clear hb hsz q0 q1 q2 q3 h hs g ok
 go_enter Try.func82, Try.ntmps82
 go_upto_region 2 with fail
 generalize (((w.alloc (.cells #[.slice A ws.length c] 24)).alloc (.cells #[.slice A0 ri.length d0, .slice B1 bo.length d1, .slice A2 lk.length d2, .slice A3 lo.length d3] 27)).alloc (.cells #[.slice none 0 0, .slice none 0 0, .int .i64 0] 128)).alloc (.cells #[.slice none 0 0, .slice none 0 0, .int .i64 0] 128) = W1 at *
 have p0 := cr 0 HQ.out.2.2.1
 go_upto_region 5 with (go_at_call 116; refine (rHeads_any A c ws W1 (HI.out.1.ext HQ.out.1)).mono ?_; rintro e W2 ⟨A6, c6, rfl, hr, hfr, hb⟩; have HH := hd3 hr hfr hb; clear hr hfr hb)
 clear p0
 rw [hInt_length]
 have HJ : Hid (FlR W2 (w.heap.size + 1 + 1 + 1) (.slice none 0 0) (.slice none 0 0) (.slice none 0 0) (.slice none 0 0) [] [] 0 W2 ∧ Below w.heap.size w W2 ∧ Blk W2 w.heap.size #[.slice A ws.length c] 24 ∧ Blk W2 (w.heap.size + 1) #[.slice A0 ri.length d0, .slice B1 bo.length d1, .slice A2 lk.length d2, .slice A3 lo.length d3] 27 ∧ Blk W2 (w.heap.size + 1 + 1) #[.slice none 0 0, .slice none 0 0, .int .i64 0] 128) := by
  have hs2 := HH.out.2.2.size
  have hs1 := HQ.out.2.1
  exact Lib.hid ⟨⟨blk_on HQ.out.2.2.2.2.2 HH.out.2.2, Own.nil _ _, Own.nil _ _, fun k e => (by cases e), fun _ _ _ => rfl, Below.refl _ _, Nat.le_refl _, by omega⟩, HQ.out.1.trans (HH.out.2.2.mono HQ.out.1.size), blk_on HQ.out.2.2.1 HH.out.2.2, blk_on HQ.out.2.2.2.1 HH.out.2.2, blk_on HQ.out.2.2.2.2.1 HH.out.2.2⟩
 have HG := Lib.hid (show w.heap.size + 4 ≤ W2.heap.size by have := HH.out.2.2.size; have := HQ.out.2.1; omega)
 go_loopg [7, 8, 9, 10, 11, 12, 13, 14, 15] ws.length (fun gg n c _ _ _ _ _ _ _ wr => ∃ t : Nat, t ≤ ws.length ∧ ws.length - t ≤ gg ∧ c = .int .i64 t ∧ n = .int .i64 ((start ws t : Nat) : Int) ∧ Aside (∃ vO vT, FlR W2 (w.heap.size + 1 + 1 + 1) vO vT vO vT (FLto ws ⟨A0, B1, A2, A3, d0, d1, d2, d3, ri, bo, lk, lo⟩ (start ws t)) (TLto ws ⟨A0, B1, A2, A3, d0, d1, d2, d3, ri, bo, lk, lo⟩ t) (LOto ws ⟨A0, B1, A2, A3, d0, d1, d2, d3, ri, bo, lk, lo⟩ (start ws t)) wr))
 case atStart => exact ⟨0, Nat.zero_le _, by omega, rfl, rfl, .slice none 0 0, .slice none 0 0, by rw [start_zero, LOto_zero]; exact HJ.out.1⟩
 case round =>
  obtain ⟨t, hlt0, hgg, rfl, rfl, hA⟩ := hrel
  obtain ⟨vO, vT, hF⟩ := hA.out
  have HF := Lib.hid hF
  clear hA hF
  have p0 := cr 0 (show Blk wr w.heap.size _ _ from (HF.out.md _ (by have := HG.out; omega) (by omega)).trans HJ.out.2.2.1)
  by_cases hlt : t < ws.length
  ·have hltz : (t : Int) < (ws.length : Int) := by omega
   go_upto_region 9 with fail
   clear p0
   generalize wr = w3 at *
   have HJl := Lib.hid (headsTo_le ws ws.length)
   go_loopg [9, 10] (headsTo ws ws.length).length (fun gg f k wr => ∃ j : Nat, j ≤ (headsTo ws ws.length).length ∧ (headsTo ws ws.length).length - j ≤ gg ∧ k = .int .i64 j ∧ f = .int .i64 (begA ws ⟨A0, B1, A2, A3, d0, d1, d2, d3, ri, bo, lk, lo⟩ t j) ∧ Aside (wr = w3))
   case atStart => exact ⟨0, Nat.zero_le _, by omega, rfl, rfl, rfl⟩
   case round =>
    obtain ⟨j, hj0, hjg, rfl, rfl, hA⟩ := hrel
    have hA := hA.out
    subst hA
    generalize wr = w3 at *
    have HB := Lib.hid (HJ.out.2.1.trans (HF.out.bl.mono (by omega : w.heap.size ≤ w.heap.size + 1 + 1 + 1)))
    by_cases hjl : j < (headsTo ws ws.length).length
    ·have hjz : (j : Int) < ((headsTo ws ws.length).length : Int) := by omega
     have hjb : j ≤ 16 := by have := HJl.out; omega
     obtain ⟨b6, o6, rfl, hl6, hc6⟩ := HH.out.1 (by rw [hInt_length]; omega)
     have h6 := hc6 j (by rw [hInt_length]; exact hjl)
     rw [hInt_at hjl] at h6
     have hge : W1.heap.size ≤ b6 := HH.out.2.1 _ rfl
     have p6 := HF.out.cell h6 (by have := HQ.out.2.1; show b6 ≠ _; omega)
     clear hc6 h6 hge hl6
     have hbs := begA_succ ws ⟨A0, B1, A2, A3, d0, d1, d2, d3, ri, bo, lk, lo⟩ t j
     generalize (headsTo ws ws.length).getD j 0 = hj at *
     have HBS := Lib.hid hbs
     clear hbs
     by_cases he : hj = t
     ·have hez : ((hj : Int) == (t : Int)) = true := by rw [he]; simp
      have HE := Lib.hid he
      clear he
      have hl0 : ri.length = (headsTo ws ws.length).length := HI.out.2.2.2.l0
      have hr0 : Rd w w.heap.size A0 ri := HI.out.2.1.r0
      obtain ⟨b0, o0, rfl, hl0', hc0⟩ := hr0 (by omega)
      have p7 := (HB.out.cell (p := ⟨b0, o0 + j, none⟩) hl0').trans (hc0 j (by omega))
      have p8 := cr 0 (show Blk w3 (w.heap.size + 1) _ _ from (HF.out.md _ (by have := HG.out; omega) (by omega)).trans HJ.out.2.2.2.1)
      have hjr : (j : Int) < (ri.length : Int) := by omega
      clear hc0 hr0 hl0' hl0
      go_wp2
      go_roundg ((headsTo ws ws.length).length - (j + 1))
      case measure => omega
      case rel => exact ⟨j + 1, by omega, by omega, by go_num, by rw [HBS.out, if_pos HE.out.symm], rfl⟩
     ·have hez : ((hj : Int) == (t : Int)) = false := by simp; omega
      have HE := Lib.hid he
      clear he
      go_wp2
      go_roundg ((headsTo ws ws.length).length - (j + 1))
      case measure => omega
      case rel => exact ⟨j + 1, by omega, by omega, by go_num, by rw [HBS.out, if_neg (fun e => HE.out e.symm)], rfl⟩
    ·have hjz : ¬ (j : Int) < ((headsTo ws ws.length).length : Int) := by omega
     obtain rfl : j = (headsTo ws ws.length).length := by omega
     have hWk := HI.out.1.ext HB.out
     have HFD := Lib.hid (rFeeder_any A c ws (t : Int) w3 hWk)
     have p0 := cr 0 (show Blk w3 w.heap.size _ _ from (HF.out.md _ (by have := HG.out; omega) (by omega)).trans HJ.out.2.2.1)
     obtain ⟨b, off, rfl, hbl, hcs⟩ := HI.out.1.rd (by omega)
     have HR := hd3 hbl (hcs t hlt).1 (hcs t hlt).2
     clear hWk hbl hcs
     cases hu : upO ws (t : Int) with
     | none =>
      have eb : begA ws ⟨A0, B1, A2, A3, d0, d1, d2, d3, ri, bo, lk, lo⟩ t (headsTo ws ws.length).length = begF ws ⟨A0, B1, A2, A3, d0, d1, d2, d3, ri, bo, lk, lo⟩ t := (beg_unfed HI.out.2.2.1 hlt hu).symm
      have HU := Lib.hid (show idxI (upO ws (t : Int)) = -1 by rw [hu]; rfl)
      rw [eb]
      clear eb hu
      have HT0 := Lib.hid (show tailTo ws ⟨A0, B1, A2, A3, d0, d1, d2, d3, ri, bo, lk, lo⟩ t (begF ws ⟨A0, B1, A2, A3, d0, d1, d2, d3, ri, bo, lk, lo⟩ t) 0 = begF ws ⟨A0, B1, A2, A3, d0, d1, d2, d3, ri, bo, lk, lo⟩ t from rfl)
      go_upto_region 17 with (go_at_call 113; refine HFD.out.mono ?_; rw [HU.out]; rintro e w4 ⟨rfl, hb⟩; have HF4 := Lib.hid (HF.out.on hb); clear hb)
      clear p0
      obtain ⟨AT, cT, rfl⟩ := HF4.out.oT.slice (TLto_length _ _ _)
      obtain ⟨TT, hTT⟩ : ∃ TT, tailTo ws ⟨A0, B1, A2, A3, d0, d1, d2, d3, ri, bo, lk, lo⟩ t (begF ws ⟨A0, B1, A2, A3, d0, d1, d2, d3, ri, bo, lk, lo⟩ t) = TT := ⟨_, rfl⟩
      have hT := Lib.hid hTT
      rw [hTT] at HT0
      clear hTT
      go_loopg [7, 9, 12, 13, 14, 15] (cAt ws t).os.length (fun gg n f i _ _ _ wr => ∃ d : Nat, d ≤ (cAt ws t).os.length ∧ (cAt ws t).os.length - d ≤ gg ∧ i = .int .i64 d ∧ n = .int .i64 ((start ws t + d : Nat) : Int) ∧ f = .int .i64 (TT d) ∧ Aside (∃ vO, FlR W2 (w.heap.size + 1 + 1 + 1) vO (.slice AT t cT) vO (.slice AT t cT) (FLto ws ⟨A0, B1, A2, A3, d0, d1, d2, d3, ri, bo, lk, lo⟩ (start ws t + d)) (TLto ws ⟨A0, B1, A2, A3, d0, d1, d2, d3, ri, bo, lk, lo⟩ t) (LOto ws ⟨A0, B1, A2, A3, d0, d1, d2, d3, ri, bo, lk, lo⟩ (start ws t + d)) wr))
      case atStart => exact ⟨0, Nat.zero_le _, by omega, rfl, rfl, by rw [HT0.out], _, HF4.out⟩
      case round =>
       obtain ⟨d, hd0, hdg, rfl, rfl, rfl, hC⟩ := hrel
       obtain ⟨vO, hC⟩ := hC.out
       obtain ⟨AO, cO, rfl⟩ := hC.oO.slice (FLto_length _ _ _)
       have HC := Lib.hid hC
       clear hC
       have HB := Lib.hid (HJ.out.2.1.trans (HC.out.bl.mono (by omega : w.heap.size ≤ w.heap.size + 1 + 1 + 1)))
       have p0 := cr 0 (show Blk wr w.heap.size _ _ from (HC.out.md _ (by have := HG.out; omega) (by omega)).trans HJ.out.2.2.1)
       have p1 := (HB.out.cell (p := ⟨b, off + t, none⟩) HR.out.1).trans (HR.out.2.1)
       by_cases hdl : d < (cAt ws t).os.length
       ·have hdz : (d : Int) < ((cAt ws t).os.length : Int) := by omega
        obtain ⟨b2, o2, eO, hbl2, hc2⟩ := HR.out.2.2 (by omega)
        rw [eO] at p1
        have ot := (hc2 d hdl).below HB.out (Nat.le_refl _) hbl2
        have p20 := ot.c0
        have p21 := ot.c1
        have p22 := ot.c2
        have p23 := ot.c3
        have p24 := ot.c4
        have p25 := ot.c5
        have p26 := ot.c6
        have HO := Lib.hid (hc2 d hdl).rd
        clear ot hc2 eO
        go_upto_region 20 with fail
        have HX := hd4 (HC.out.on ((Below.refl _ wr).alloc (Nat.le_refl _) (.cells #[.int .i64 (oAt (cAt ws t).os d).id, .int .i64 (oAt (cAt ws t).os d).into, .slice (oAt (cAt ws t).os d).P (oAt (cAt ws t).os d).ps.length (oAt (cAt ws t).os d).c, .int .i64 (oAt (cAt ws t).os d).kl, .int .i64 (oAt (cAt ws t).os d).kh, .int .i64 (oAt (cAt ws t).os d).sl, .int .i64 (oAt (cAt ws t).os d).sh] 42))) (blk_new wr #[.int .i64 (oAt (cAt ws t).os d).id, .int .i64 (oAt (cAt ws t).os d).into, .slice (oAt (cAt ws t).os d).P (oAt (cAt ws t).os d).ps.length (oAt (cAt ws t).os d).c, .int .i64 (oAt (cAt ws t).os d).kl, .int .i64 (oAt (cAt ws t).os d).kh, .int .i64 (oAt (cAt ws t).os d).sl, .int .i64 (oAt (cAt ws t).os d).sh] 42 rfl) (HB.out.trans (((Below.refl _ wr).alloc (Nat.le_refl _) (.cells #[.int .i64 (oAt (cAt ws t).os d).id, .int .i64 (oAt (cAt ws t).os d).into, .slice (oAt (cAt ws t).os d).P (oAt (cAt ws t).os d).ps.length (oAt (cAt ws t).os d).c, .int .i64 (oAt (cAt ws t).os d).kl, .int .i64 (oAt (cAt ws t).os d).kh, .int .i64 (oAt (cAt ws t).os d).sl, .int .i64 (oAt (cAt ws t).os d).sh] 42)).mono HB.out.size)) HC.out.sz
        clear p0 p1 p20 p21 p22 p23 p24 p25 p26
        generalize wr.alloc (.cells #[.int .i64 (oAt (cAt ws t).os d).id, .int .i64 (oAt (cAt ws t).os d).into, .slice (oAt (cAt ws t).os d).P (oAt (cAt ws t).os d).ps.length (oAt (cAt ws t).os d).c, .int .i64 (oAt (cAt ws t).os d).kl, .int .i64 (oAt (cAt ws t).os d).kh, .int .i64 (oAt (cAt ws t).os d).sl, .int .i64 (oAt (cAt ws t).os d).sh] 42) = x9 at *
        generalize wr.heap.size = gx at *
        obtain ⟨x, hx⟩ : ∃ x, start ws t + d = x := ⟨_, rfl⟩
        have HXe := Lib.hid hx
        have hsk := stepK HI.out.2.2.1 HI.out.2.2.2 hlt hdl
        have hxl : start ws t + d < (outs ws).length := start_lt hlt hdl
        have hd100 : d ≤ 100 := by omega
        have hin := oAt_outs hlt hdl
        rw [hT.out, ← Nat.add_assoc, hx] at hsk
        rw [hx] at hxl HX hin ⊢
        clear hx
        obtain ⟨f0, l0, b0, pp0, k0, m0, thr, f1, m1⟩ := hsk
        dsimp only at l0 b0 pp0 k0 thr f1 m1
        rw [hin] at b0 pp0 thr
        obtain ⟨bx, hbx⟩ : ∃ bx : Nat, nth bo x = (bx : Int) := ⟨(nth bo x).toNat, by omega⟩
        rw [hbx, Int.toNat_natCast] at pp0 thr
        obtain ⟨ls, hls⟩ : ∃ ls, min (TT d) (nth lo x) = ls := ⟨_, rfl⟩
        rw [hls] at thr f1 m1
        have hls1 : 0 ≤ ls ∧ ls ≤ TT d := by omega
        have HSK := hd4 thr f1 m1 hls
        have HIN := Lib.hid hin
        have HBX := Lib.hid hbx
        clear thr f1 m1 hin
        have l3 : lo.length = (outs ws).length := HI.out.2.2.2.l3
        have l2 : lk.length = (outs ws).length := HI.out.2.2.2.l2
        have l1 : bo.length = (outs ws).length := HI.out.2.2.2.l1
        have hxlo : (x : Int) < (lo.length : Int) := by omega
        have hxlk : (x : Int) < (lk.length : Int) := by omega
        have hxbo : (x : Int) < (bo.length : Int) := by omega
        have hbxp : (bx : Int) < ((oAt (cAt ws t).os d).ps.length : Int) := by omega
        obtain ⟨bl, ol, eL, hl9, hc9⟩ := (show Rd w w.heap.size A3 lo from HI.out.2.1.r3) (by omega)
        obtain ⟨bk, okk, eK, hlk, hck⟩ := (show Rd w w.heap.size A2 lk from HI.out.2.1.r2) (by omega)
        obtain ⟨bb, ob, eB, hlb, hcb⟩ := (show Rd w w.heap.size B1 bo from HI.out.2.1.r1) (by omega)
        obtain ⟨bp, op, eP, hlp, hcp⟩ := HO.out (by omega)
        have k3 := (HX.out.2.2.1.cell (p := ⟨bl, ol + x, none⟩) hl9).trans (hc9 x (by omega))
        have hBX := show Blk x9 (w.heap.size + 1) _ _ from (HX.out.1.md _ (by have := HG.out; omega) (by omega)).trans HJ.out.2.2.2.1
        have w3c : x9.cell? ⟨w.heap.size + 1, 3, none⟩ = some (.slice (some ⟨bl, ol, none⟩) lo.length d3) := by rw [← eL]; exact cr 3 hBX
        have q2 := cr 2 HX.out.1.bx
        have fq := bf 2 HX.out.1.bx
        have HW : Hid (flS gx (w.heap.size + 1) bp op bb ob bk okk x bx (.slice (some ⟨bp, op, none⟩) (oAt (cAt ws t).os d).ps.length (oAt (cAt ws t).os d).c) (.slice (some ⟨bb, ob, none⟩) bo.length d1) (.slice (some ⟨bk, okk, none⟩) lk.length d2) (.int .i64 (bx : Int)) (.int .i64 (nth (oAt (cAt ws t).os d).ps bx)) (.int .i64 (nth lk x)) 0 x9 ∧ (x9.cell? ⟨w.heap.size + 1, 1, none⟩ = some (.slice (some ⟨bb, ob, none⟩) bo.length d1) ∧ x9.cell? ⟨w.heap.size + 1, 2, none⟩ = some (.slice (some ⟨bk, okk, none⟩) lk.length d2)) ∧ x9.cell? ⟨bb, ob + x, none⟩ = some (.int .i64 (bx : Int)) ∧ x9.cell? ⟨bp, op + bx, none⟩ = some (.int .i64 (nth (oAt (cAt ws t).os d).ps bx)) ∧ x9.cell? ⟨bk, okk + x, none⟩ = some (.int .i64 (nth lk x)) ∧ bp < w.heap.size ∧ bb < w.heap.size ∧ bk < w.heap.size) := by
         refine Lib.hid ⟨?_, ⟨?_, ?_⟩, ?_, ?_, ?_, hlp, hlb, hlk⟩
         ·show x9.cell? ⟨gx, 2, none⟩ = _
          rw [← eP]
          exact cr 2 HX.out.2.1
         ·rw [← eB]; exact cr 1 hBX
         ·rw [← eK]; exact cr 2 hBX
         ·rw [← HBX.out]; exact (HX.out.2.2.1.cell (p := ⟨bb, ob + x, none⟩) hlb).trans (hcb x (by omega))
         ·exact (HX.out.2.2.1.cell (p := ⟨bp, op + bx, none⟩) hlp).trans (hcp bx (by omega))
         ·exact (HX.out.2.2.1.cell (p := ⟨bk, okk + x, none⟩) hlk).trans (hck x (by omega))
        have HM := hd3 l1 l2 l3
        clear hBX hl9 hc9 eL hck eK hcb eB hcp eP hlp hlb hlk l1 l2 l3 hbx
        go_upto_region 21 with fail
        rw [show (if nth lo x < TT d then nth lo x else TT d) = ls by rw [← HSK.out.2.2.2, Int.min_def]; split <;> split <;> omega]
        clear k3 w3c
        go_upto_region 23 with fail
        clear q2 fq
        have HY : Hid (FlR W2 (w.heap.size + 1 + 1 + 1) (.slice AO x cO) (.slice AT t cT) (.slice AO x cO) (.slice AT t cT) (FLto ws ⟨A0, B1, A2, A3, d0, d1, d2, d3, ri, bo, lk, lo⟩ x) (TLto ws ⟨A0, B1, A2, A3, d0, d1, d2, d3, ri, bo, lk, lo⟩ t) (LOto ws ⟨A0, B1, A2, A3, d0, d1, d2, d3, ri, bo, lk, lo⟩ x + ls) (x9.setCell ⟨w.heap.size + 1 + 1 + 1, 2, none⟩ (.int .i64 (LOto ws ⟨A0, B1, A2, A3, d0, d1, d2, d3, ri, bo, lk, lo⟩ x + ls))) ∧ flS gx (w.heap.size + 1) bp op bb ob bk okk x bx (.slice (some ⟨bp, op, none⟩) (oAt (cAt ws t).os d).ps.length (oAt (cAt ws t).os d).c) (.slice (some ⟨bb, ob, none⟩) bo.length d1) (.slice (some ⟨bk, okk, none⟩) lk.length d2) (.int .i64 (bx : Int)) (.int .i64 (nth (oAt (cAt ws t).os d).ps bx)) (.int .i64 (nth lk x)) 0 (x9.setCell ⟨w.heap.size + 1 + 1 + 1, 2, none⟩ (.int .i64 (LOto ws ⟨A0, B1, A2, A3, d0, d1, d2, d3, ri, bo, lk, lo⟩ x + ls))) ∧ flS gx (w.heap.size + 1) bp op bb ob bk okk x bx (.slice (some ⟨bp, op, none⟩) (oAt (cAt ws t).os d).ps.length (oAt (cAt ws t).os d).c) (.slice (some ⟨bb, ob, none⟩) bo.length d1) (.slice (some ⟨bk, okk, none⟩) lk.length d2) (.int .i64 (bx : Int)) (.int .i64 (nth (oAt (cAt ws t).os d).ps bx)) (.int .i64 (nth lk x)) 1 (x9.setCell ⟨w.heap.size + 1 + 1 + 1, 2, none⟩ (.int .i64 (LOto ws ⟨A0, B1, A2, A3, d0, d1, d2, d3, ri, bo, lk, lo⟩ x + ls))) ∧ flS gx (w.heap.size + 1) bp op bb ob bk okk x bx (.slice (some ⟨bp, op, none⟩) (oAt (cAt ws t).os d).ps.length (oAt (cAt ws t).os d).c) (.slice (some ⟨bb, ob, none⟩) bo.length d1) (.slice (some ⟨bk, okk, none⟩) lk.length d2) (.int .i64 (bx : Int)) (.int .i64 (nth (oAt (cAt ws t).os d).ps bx)) (.int .i64 (nth lk x)) 2 (x9.setCell ⟨w.heap.size + 1 + 1 + 1, 2, none⟩ (.int .i64 (LOto ws ⟨A0, B1, A2, A3, d0, d1, d2, d3, ri, bo, lk, lo⟩ x + ls))) ∧ flS gx (w.heap.size + 1) bp op bb ob bk okk x bx (.slice (some ⟨bp, op, none⟩) (oAt (cAt ws t).os d).ps.length (oAt (cAt ws t).os d).c) (.slice (some ⟨bb, ob, none⟩) bo.length d1) (.slice (some ⟨bk, okk, none⟩) lk.length d2) (.int .i64 (bx : Int)) (.int .i64 (nth (oAt (cAt ws t).os d).ps bx)) (.int .i64 (nth lk x)) 3 (x9.setCell ⟨w.heap.size + 1 + 1 + 1, 2, none⟩ (.int .i64 (LOto ws ⟨A0, B1, A2, A3, d0, d1, d2, d3, ri, bo, lk, lo⟩ x + ls))) ∧ flS gx (w.heap.size + 1) bp op bb ob bk okk x bx (.slice (some ⟨bp, op, none⟩) (oAt (cAt ws t).os d).ps.length (oAt (cAt ws t).os d).c) (.slice (some ⟨bb, ob, none⟩) bo.length d1) (.slice (some ⟨bk, okk, none⟩) lk.length d2) (.int .i64 (bx : Int)) (.int .i64 (nth (oAt (cAt ws t).os d).ps bx)) (.int .i64 (nth lk x)) 4 (x9.setCell ⟨w.heap.size + 1 + 1 + 1, 2, none⟩ (.int .i64 (LOto ws ⟨A0, B1, A2, A3, d0, d1, d2, d3, ri, bo, lk, lo⟩ x + ls)))) := by
         have mv : ∀ {a : Addr} {v : Value}, x9.cell? a = some v → a.block ≠ w.heap.size + 1 + 1 + 1 → (x9.setCell ⟨w.heap.size + 1 + 1 + 1, 2, none⟩ (.int .i64 (LOto ws ⟨A0, B1, A2, A3, d0, d1, d2, d3, ri, bo, lk, lo⟩ x + ls))).cell? a = some v := fun {a} {v} h hn => by
          have e : (x9.setCell ⟨w.heap.size + 1 + 1 + 1, 2, none⟩ (.int .i64 (LOto ws ⟨A0, B1, A2, A3, d0, d1, d2, d3, ri, bo, lk, lo⟩ x + ls))).heap[a.block]? = x9.heap[a.block]? := Below.heap_setCell _ _ _ _ hn
          rw [← h]
          unfold World.cell?
          rw [e]
         have hw := HW.out
         have h2 := HX.out.2.2.2
         have h3 := HG.out
         exact Lib.hid ⟨HX.out.1.lost _, mv hw.1 (by show gx ≠ _; omega), ⟨mv hw.2.1.1 (by show w.heap.size + 1 ≠ _; omega), mv hw.2.1.2 (by show w.heap.size + 1 ≠ _; omega)⟩, mv hw.2.2.1 (by show bb ≠ _; omega), mv hw.2.2.2.1 (by show bp ≠ _; omega), mv hw.2.2.2.2.1 (by show bk ≠ _; omega)⟩
        clear HW HX
        generalize x9.setCell ⟨w.heap.size + 1 + 1 + 1, 2, none⟩ (.int .i64 (LOto ws ⟨A0, B1, A2, A3, d0, d1, d2, d3, ri, bo, lk, lo⟩ x + ls)) = x10 at *
        refine wp_region_K (by kernel_rfl) (flS gx (w.heap.size + 1) bp op bb ob bk okk x bx (.slice (some ⟨bp, op, none⟩) (oAt (cAt ws t).os d).ps.length (oAt (cAt ws t).os d).c) (.slice (some ⟨bb, ob, none⟩) bo.length d1) (.slice (some ⟨bk, okk, none⟩) lk.length d2) (.int .i64 (bx : Int)) (.int .i64 (nth (oAt (cAt ws t).os d).ps bx)) (.int .i64 (nth lk x))) (fun _ _ => true) ?_
        have hbd : Below x10.heap.size x10 x10.drew := (Below.refl _ _).drew
        have s0 := flS_on hbd HY.out.2.1
        have s1 := flS_on hbd HY.out.2.2.1
        have s2 := flS_on hbd HY.out.2.2.2.1
        have s3 := flS_on hbd HY.out.2.2.2.2.1
        have s4 := flS_on hbd HY.out.2.2.2.2.2
        have HZ := Lib.hid (HY.out.1.on hbd)
        clear HY hbd
        generalize x10.drew = x11 at *
        refine kF 5 0 rfl ?_
        refine kF 5 1 rfl ?_
        refine kT 0 2 rfl ?_
        refine kF 5 3 rfl ?_
        refine kT 1 4 rfl ?_
        refine kF 5 5 rfl ?_
        refine kF 5 6 rfl ?_
        refine kT 2 7 rfl ?_
        refine kF 5 8 rfl ?_
        refine kT 3 9 rfl ?_
        refine kF 5 10 rfl ?_
        refine kT 1 11 rfl ?_
        refine kF 5 12 rfl ?_
        refine kF 5 13 rfl ?_
        refine kT 4 14 rfl ?_
        refine kF 5 15 rfl ?_
        refine kF 5 16 rfl ?_
        refine kF 5 17 rfl ?_
        refine kD ?_
        clear s0 s1 s2 s3 s4
        obtain ⟨th, hth⟩ : ∃ th, flowF ws ⟨A0, B1, A2, A3, d0, d1, d2, d3, ri, bo, lk, lo⟩ x = th := ⟨_, rfl⟩
        have HTH := Lib.hid (show (if nth (oAt (cAt ws t).os d).ps bx + nth lk x < TT d - ls then nth (oAt (cAt ws t).os d).ps bx + nth lk x else TT d - ls) = th by rw [← hth, HSK.out.1, Int.min_def]; split <;> split <;> omega)
        have HTE := Lib.hid hth
        have hth0 : 0 ≤ th ∧ th ≤ TT d - ls := by rw [← hth, HSK.out.1]; omega
        clear hth
        have hwr : IntKind.i64.wrap (nth (oAt (cAt ws t).os d).ps bx + nth lk x) = nth (oAt (cAt ws t).os d).ps bx + nth lk x := by rw [IntKind.wrap_i64]; omega
        rw [hwr, HTH.out]
        clear HTH hwr
        have hl1 : x ≤ 100 := by omega
        have hbA := (Below.refl _ x11).alloc (Nat.le_refl _) (.cells #[.int .i64 th] 3)
        have HN := hd4 ((HZ.out.on hbA).oO.row (FLto_length _ _ _)) (World.news_of_block (cs := #[.int .i64 th]) (t := 3) (fr := (0, 0)) (World.alloc_heap_new x11 (.cells #[.int .i64 th] 3))) (HZ.out.on hbA).sz (HZ.out.on hbA)
        clear hbA
        go_upto_region 25 with fail
        have g0 := cr 0 HZ.out.bx
        go_wp2_with (at_builtin; refine wpList_append_own_at _ rfl _ _ 25 rfl W2.heap.size 3 i0 (.int .i64 0) 1 8 Try.underlying25 hi0 hz0 hz1 hz2 rfl (by decide) (.slice AO x cO) x _ rfl HN.out.1 ⟨x11.heap.size, 0, none⟩ 1 1 [.int .i64 th] rfl (by simp) HN.out.2.1 (by simp [Value.oneCell']) (by unfold maxLen; omega) (by omega) HN.out.2.2.1 ?_; intro v' w9 hown1 hgrow _ hbk; have HP := Lib.hid (HN.out.2.2.2.appO (Own.of_row hown1 (FLto_length _ _ _)) hgrow hbk); obtain ⟨A9, c9, rfl⟩ := HP.out.oO.slice (n := x + 1) (by rw [List.length_append, FLto_length]; rfl); have g9 := cr 0 HP.out.bx; have f9 := bf 0 HP.out.bx; clear hown1 hgrow hbk)
        go_roundg ((cAt ws t).os.length - (d + 1))
        case measure => omega
        case rel => exact ⟨d + 1, by omega, by omega, by go_num, by rw [← Nat.add_assoc, HXe.out]; go_num, by rw [HSK.out.2.1, HTE.out], .slice A9 (x + 1) c9, by
         have hp := HP.out.putO (.slice A9 (x + 1) c9)
         rw [← Nat.add_assoc, HXe.out, FLto_succ, HTE.out, HSK.out.2.2.1]
         exact hp⟩
       ·have hdz : ¬ (d : Int) < ((cAt ws t).os.length : Int) := by omega
        obtain rfl : d = (cAt ws t).os.length := by omega
        have hls := start_succ hlt
        have HE := hd2 hls (show flowF ws ⟨A0, B1, A2, A3, d0, d1, d2, d3, ri, bo, lk, lo⟩ (60 + t) = TT (cAt ws t).os.length by rw [end_at HI.out.2.2.1 hlt, hT.out])
        rw [← hls] at HC ⊢
        clear hls
        obtain ⟨x, hx⟩ : ∃ x, start ws (t + 1) = x := ⟨_, rfl⟩
        have HXe := Lib.hid hx
        rw [hx] at HC ⊢
        clear hx
        obtain ⟨th, hth⟩ : ∃ th, TT (cAt ws t).os.length = th := ⟨_, rfl⟩
        have HTE := Lib.hid hth
        rw [hth]
        clear hth
        go_upto_region 27 with fail
        have hbA := (Below.refl _ wr).alloc (Nat.le_refl _) (.cells #[.int .i64 th] 3)
        have HN := hd4 ((HC.out.on hbA).oT.row (TLto_length _ _ _)) (World.news_of_block (cs := #[.int .i64 th]) (t := 3) (fr := (0, 0)) (World.alloc_heap_new wr (.cells #[.int .i64 th] 3))) (HC.out.on hbA).sz (HC.out.on hbA)
        clear hbA
        have g0 := cr 1 HC.out.bx
        have hl1 : t ≤ 100 := by omega
        go_wp2_with (at_builtin; refine wpList_append_own_at _ rfl _ _ 25 rfl W2.heap.size 3 i0 (.int .i64 0) 1 8 Try.underlying25 hi0 hz0 hz1 hz2 rfl (by decide) (.slice AT t cT) t _ rfl HN.out.1 ⟨wr.heap.size, 0, none⟩ 1 1 [.int .i64 th] rfl (by simp) HN.out.2.1 (by simp [Value.oneCell']) (by unfold maxLen; omega) (by omega) HN.out.2.2.1 ?_; intro v' w9 hown1 hgrow _ hbk; have HP := Lib.hid (HN.out.2.2.2.appT (Own.of_row hown1 (TLto_length _ _ _)) hgrow hbk); obtain ⟨A9, c9, rfl⟩ := HP.out.oT.slice (n := t + 1) (by rw [List.length_append, TLto_length]; rfl); have g9 := cr 1 HP.out.bx; have f9 := bf 1 HP.out.bx; clear hown1 hgrow hbk)
        go_roundg (ws.length - (t + 1))
        case measure => omega
        case rel => exact ⟨t + 1, by omega, by omega, by go_num, by rw [HXe.out], .slice AO x cO, .slice A9 (t + 1) c9, by
         have hp := HP.out.putT (.slice A9 (t + 1) c9)
         rw [HXe.out, TLto_succ, HE.out.2, HTE.out]
         exact hp⟩
     | some y =>
      have HU := Lib.hid (show idxI (upO ws (t : Int)) = (y : Int) by rw [hu]; rfl)
      have hyl := upO_some hu
      have hca := (g_fed HI.out.2.2.1 hyl.1 hyl.2)
      have hys : y < start ws t := Classical.byContradiction fun hn => by
       have h1 := (caAt_of hlt hyl.1).1
       have h2 := (caAt_of (c := t) hlt hyl.1).2
       by_cases h3 : start ws (t + 1) ≤ y
       ·have := h2 h3; omega
       ·have h4 := start_succ hlt
        obtain ⟨k, hk⟩ : ∃ k, y = start ws t + k := ⟨y - start ws t, by omega⟩
        have h5 := caAt_start hlt (k := k) (by omega)
        rw [← hk] at h5
        omega
      have HBF := Lib.hid (show begF ws ⟨A0, B1, A2, A3, d0, d1, d2, d3, ri, bo, lk, lo⟩ t = nth (FLto ws ⟨A0, B1, A2, A3, d0, d1, d2, d3, ri, bo, lk, lo⟩ (start ws t)) y by rw [beg_fed HI.out.2.2.1 hlt hu, FLto_at hys])
      have hy0 : ¬ (y : Int) < 0 := by omega
      have hy1 : (y : Int) < ((start ws t : Nat) : Int) := by omega
      have hy2 : (0 : Int) ≤ (y : Int) := by omega
      have HT0 := Lib.hid (show tailTo ws ⟨A0, B1, A2, A3, d0, d1, d2, d3, ri, bo, lk, lo⟩ t (begF ws ⟨A0, B1, A2, A3, d0, d1, d2, d3, ri, bo, lk, lo⟩ t) 0 = nth (FLto ws ⟨A0, B1, A2, A3, d0, d1, d2, d3, ri, bo, lk, lo⟩ (start ws t)) y from HBF.out)
      have HYS := Lib.hid hys
      clear hu hyl hca hys
      obtain ⟨AO, cO, rfl⟩ := HF.out.oO.slice (FLto_length _ _ _)
      go_upto_region 15 with (go_at_call 113; refine HFD.out.mono ?_; rw [HU.out]; rintro e w4 ⟨rfl, hb⟩; have HF4 := Lib.hid (HF.out.on hb); clear hb)
      clear p0
      have g0 := cr 0 HF4.out.bx
      obtain ⟨A8, c8, e8, hr8, -⟩ := HF4.out.oO.rd
      rw [FLto_length] at e8
      cases e8
      obtain ⟨b8, o8, rfl, _, hc8⟩ := hr8 (by rw [FLto_length]; have := HYS.out; omega)
      have g1 := hc8 y (by rw [FLto_length]; exact HYS.out)
      clear hc8 hr8
      go_upto_region 17 with fail
      clear g0 g1 hy0 hy1 hy2
      obtain ⟨AT, cT, rfl⟩ := HF4.out.oT.slice (TLto_length _ _ _)
      obtain ⟨TT, hTT⟩ : ∃ TT, tailTo ws ⟨A0, B1, A2, A3, d0, d1, d2, d3, ri, bo, lk, lo⟩ t (begF ws ⟨A0, B1, A2, A3, d0, d1, d2, d3, ri, bo, lk, lo⟩ t) = TT := ⟨_, rfl⟩
      have hT := Lib.hid hTT
      rw [hTT] at HT0
      clear hTT
      go_loopg [7, 9, 12, 13, 14, 15] (cAt ws t).os.length (fun gg n f i _ _ _ wr => ∃ d : Nat, d ≤ (cAt ws t).os.length ∧ (cAt ws t).os.length - d ≤ gg ∧ i = .int .i64 d ∧ n = .int .i64 ((start ws t + d : Nat) : Int) ∧ f = .int .i64 (TT d) ∧ Aside (∃ vO, FlR W2 (w.heap.size + 1 + 1 + 1) vO (.slice AT t cT) vO (.slice AT t cT) (FLto ws ⟨A0, B1, A2, A3, d0, d1, d2, d3, ri, bo, lk, lo⟩ (start ws t + d)) (TLto ws ⟨A0, B1, A2, A3, d0, d1, d2, d3, ri, bo, lk, lo⟩ t) (LOto ws ⟨A0, B1, A2, A3, d0, d1, d2, d3, ri, bo, lk, lo⟩ (start ws t + d)) wr))
      case atStart => exact ⟨0, Nat.zero_le _, by omega, rfl, rfl, by rw [HT0.out], _, HF4.out⟩
      case round =>
       obtain ⟨d, hd0, hdg, rfl, rfl, rfl, hC⟩ := hrel
       obtain ⟨vO, hC⟩ := hC.out
       obtain ⟨AO, cO, rfl⟩ := hC.oO.slice (FLto_length _ _ _)
       have HC := Lib.hid hC
       clear hC
       have HB := Lib.hid (HJ.out.2.1.trans (HC.out.bl.mono (by omega : w.heap.size ≤ w.heap.size + 1 + 1 + 1)))
       have p0 := cr 0 (show Blk wr w.heap.size _ _ from (HC.out.md _ (by have := HG.out; omega) (by omega)).trans HJ.out.2.2.1)
       have p1 := (HB.out.cell (p := ⟨b, off + t, none⟩) HR.out.1).trans (HR.out.2.1)
       by_cases hdl : d < (cAt ws t).os.length
       ·have hdz : (d : Int) < ((cAt ws t).os.length : Int) := by omega
        obtain ⟨b2, o2, eO, hbl2, hc2⟩ := HR.out.2.2 (by omega)
        rw [eO] at p1
        have ot := (hc2 d hdl).below HB.out (Nat.le_refl _) hbl2
        have p20 := ot.c0
        have p21 := ot.c1
        have p22 := ot.c2
        have p23 := ot.c3
        have p24 := ot.c4
        have p25 := ot.c5
        have p26 := ot.c6
        have HO := Lib.hid (hc2 d hdl).rd
        clear ot hc2 eO
        go_upto_region 20 with fail
        have HX := hd4 (HC.out.on ((Below.refl _ wr).alloc (Nat.le_refl _) (.cells #[.int .i64 (oAt (cAt ws t).os d).id, .int .i64 (oAt (cAt ws t).os d).into, .slice (oAt (cAt ws t).os d).P (oAt (cAt ws t).os d).ps.length (oAt (cAt ws t).os d).c, .int .i64 (oAt (cAt ws t).os d).kl, .int .i64 (oAt (cAt ws t).os d).kh, .int .i64 (oAt (cAt ws t).os d).sl, .int .i64 (oAt (cAt ws t).os d).sh] 42))) (blk_new wr #[.int .i64 (oAt (cAt ws t).os d).id, .int .i64 (oAt (cAt ws t).os d).into, .slice (oAt (cAt ws t).os d).P (oAt (cAt ws t).os d).ps.length (oAt (cAt ws t).os d).c, .int .i64 (oAt (cAt ws t).os d).kl, .int .i64 (oAt (cAt ws t).os d).kh, .int .i64 (oAt (cAt ws t).os d).sl, .int .i64 (oAt (cAt ws t).os d).sh] 42 rfl) (HB.out.trans (((Below.refl _ wr).alloc (Nat.le_refl _) (.cells #[.int .i64 (oAt (cAt ws t).os d).id, .int .i64 (oAt (cAt ws t).os d).into, .slice (oAt (cAt ws t).os d).P (oAt (cAt ws t).os d).ps.length (oAt (cAt ws t).os d).c, .int .i64 (oAt (cAt ws t).os d).kl, .int .i64 (oAt (cAt ws t).os d).kh, .int .i64 (oAt (cAt ws t).os d).sl, .int .i64 (oAt (cAt ws t).os d).sh] 42)).mono HB.out.size)) HC.out.sz
        clear p0 p1 p20 p21 p22 p23 p24 p25 p26
        generalize wr.alloc (.cells #[.int .i64 (oAt (cAt ws t).os d).id, .int .i64 (oAt (cAt ws t).os d).into, .slice (oAt (cAt ws t).os d).P (oAt (cAt ws t).os d).ps.length (oAt (cAt ws t).os d).c, .int .i64 (oAt (cAt ws t).os d).kl, .int .i64 (oAt (cAt ws t).os d).kh, .int .i64 (oAt (cAt ws t).os d).sl, .int .i64 (oAt (cAt ws t).os d).sh] 42) = x9 at *
        generalize wr.heap.size = gx at *
        obtain ⟨x, hx⟩ : ∃ x, start ws t + d = x := ⟨_, rfl⟩
        have HXe := Lib.hid hx
        have hsk := stepK HI.out.2.2.1 HI.out.2.2.2 hlt hdl
        have hxl : start ws t + d < (outs ws).length := start_lt hlt hdl
        have hd100 : d ≤ 100 := by omega
        have hin := oAt_outs hlt hdl
        rw [hT.out, ← Nat.add_assoc, hx] at hsk
        rw [hx] at hxl HX hin ⊢
        clear hx
        obtain ⟨f0, l0, b0, pp0, k0, m0, thr, f1, m1⟩ := hsk
        dsimp only at l0 b0 pp0 k0 thr f1 m1
        rw [hin] at b0 pp0 thr
        obtain ⟨bx, hbx⟩ : ∃ bx : Nat, nth bo x = (bx : Int) := ⟨(nth bo x).toNat, by omega⟩
        rw [hbx, Int.toNat_natCast] at pp0 thr
        obtain ⟨ls, hls⟩ : ∃ ls, min (TT d) (nth lo x) = ls := ⟨_, rfl⟩
        rw [hls] at thr f1 m1
        have hls1 : 0 ≤ ls ∧ ls ≤ TT d := by omega
        have HSK := hd4 thr f1 m1 hls
        have HIN := Lib.hid hin
        have HBX := Lib.hid hbx
        clear thr f1 m1 hin
        have l3 : lo.length = (outs ws).length := HI.out.2.2.2.l3
        have l2 : lk.length = (outs ws).length := HI.out.2.2.2.l2
        have l1 : bo.length = (outs ws).length := HI.out.2.2.2.l1
        have hxlo : (x : Int) < (lo.length : Int) := by omega
        have hxlk : (x : Int) < (lk.length : Int) := by omega
        have hxbo : (x : Int) < (bo.length : Int) := by omega
        have hbxp : (bx : Int) < ((oAt (cAt ws t).os d).ps.length : Int) := by omega
        obtain ⟨bl, ol, eL, hl9, hc9⟩ := (show Rd w w.heap.size A3 lo from HI.out.2.1.r3) (by omega)
        obtain ⟨bk, okk, eK, hlk, hck⟩ := (show Rd w w.heap.size A2 lk from HI.out.2.1.r2) (by omega)
        obtain ⟨bb, ob, eB, hlb, hcb⟩ := (show Rd w w.heap.size B1 bo from HI.out.2.1.r1) (by omega)
        obtain ⟨bp, op, eP, hlp, hcp⟩ := HO.out (by omega)
        have k3 := (HX.out.2.2.1.cell (p := ⟨bl, ol + x, none⟩) hl9).trans (hc9 x (by omega))
        have hBX := show Blk x9 (w.heap.size + 1) _ _ from (HX.out.1.md _ (by have := HG.out; omega) (by omega)).trans HJ.out.2.2.2.1
        have w3c : x9.cell? ⟨w.heap.size + 1, 3, none⟩ = some (.slice (some ⟨bl, ol, none⟩) lo.length d3) := by rw [← eL]; exact cr 3 hBX
        have q2 := cr 2 HX.out.1.bx
        have fq := bf 2 HX.out.1.bx
        have HW : Hid (flS gx (w.heap.size + 1) bp op bb ob bk okk x bx (.slice (some ⟨bp, op, none⟩) (oAt (cAt ws t).os d).ps.length (oAt (cAt ws t).os d).c) (.slice (some ⟨bb, ob, none⟩) bo.length d1) (.slice (some ⟨bk, okk, none⟩) lk.length d2) (.int .i64 (bx : Int)) (.int .i64 (nth (oAt (cAt ws t).os d).ps bx)) (.int .i64 (nth lk x)) 0 x9 ∧ (x9.cell? ⟨w.heap.size + 1, 1, none⟩ = some (.slice (some ⟨bb, ob, none⟩) bo.length d1) ∧ x9.cell? ⟨w.heap.size + 1, 2, none⟩ = some (.slice (some ⟨bk, okk, none⟩) lk.length d2)) ∧ x9.cell? ⟨bb, ob + x, none⟩ = some (.int .i64 (bx : Int)) ∧ x9.cell? ⟨bp, op + bx, none⟩ = some (.int .i64 (nth (oAt (cAt ws t).os d).ps bx)) ∧ x9.cell? ⟨bk, okk + x, none⟩ = some (.int .i64 (nth lk x)) ∧ bp < w.heap.size ∧ bb < w.heap.size ∧ bk < w.heap.size) := by
         refine Lib.hid ⟨?_, ⟨?_, ?_⟩, ?_, ?_, ?_, hlp, hlb, hlk⟩
         ·show x9.cell? ⟨gx, 2, none⟩ = _
          rw [← eP]
          exact cr 2 HX.out.2.1
         ·rw [← eB]; exact cr 1 hBX
         ·rw [← eK]; exact cr 2 hBX
         ·rw [← HBX.out]; exact (HX.out.2.2.1.cell (p := ⟨bb, ob + x, none⟩) hlb).trans (hcb x (by omega))
         ·exact (HX.out.2.2.1.cell (p := ⟨bp, op + bx, none⟩) hlp).trans (hcp bx (by omega))
         ·exact (HX.out.2.2.1.cell (p := ⟨bk, okk + x, none⟩) hlk).trans (hck x (by omega))
        have HM := hd3 l1 l2 l3
        clear hBX hl9 hc9 eL hck eK hcb eB hcp eP hlp hlb hlk l1 l2 l3 hbx
        go_upto_region 21 with fail
        rw [show (if nth lo x < TT d then nth lo x else TT d) = ls by rw [← HSK.out.2.2.2, Int.min_def]; split <;> split <;> omega]
        clear k3 w3c
        go_upto_region 23 with fail
        clear q2 fq
        have HY : Hid (FlR W2 (w.heap.size + 1 + 1 + 1) (.slice AO x cO) (.slice AT t cT) (.slice AO x cO) (.slice AT t cT) (FLto ws ⟨A0, B1, A2, A3, d0, d1, d2, d3, ri, bo, lk, lo⟩ x) (TLto ws ⟨A0, B1, A2, A3, d0, d1, d2, d3, ri, bo, lk, lo⟩ t) (LOto ws ⟨A0, B1, A2, A3, d0, d1, d2, d3, ri, bo, lk, lo⟩ x + ls) (x9.setCell ⟨w.heap.size + 1 + 1 + 1, 2, none⟩ (.int .i64 (LOto ws ⟨A0, B1, A2, A3, d0, d1, d2, d3, ri, bo, lk, lo⟩ x + ls))) ∧ flS gx (w.heap.size + 1) bp op bb ob bk okk x bx (.slice (some ⟨bp, op, none⟩) (oAt (cAt ws t).os d).ps.length (oAt (cAt ws t).os d).c) (.slice (some ⟨bb, ob, none⟩) bo.length d1) (.slice (some ⟨bk, okk, none⟩) lk.length d2) (.int .i64 (bx : Int)) (.int .i64 (nth (oAt (cAt ws t).os d).ps bx)) (.int .i64 (nth lk x)) 0 (x9.setCell ⟨w.heap.size + 1 + 1 + 1, 2, none⟩ (.int .i64 (LOto ws ⟨A0, B1, A2, A3, d0, d1, d2, d3, ri, bo, lk, lo⟩ x + ls))) ∧ flS gx (w.heap.size + 1) bp op bb ob bk okk x bx (.slice (some ⟨bp, op, none⟩) (oAt (cAt ws t).os d).ps.length (oAt (cAt ws t).os d).c) (.slice (some ⟨bb, ob, none⟩) bo.length d1) (.slice (some ⟨bk, okk, none⟩) lk.length d2) (.int .i64 (bx : Int)) (.int .i64 (nth (oAt (cAt ws t).os d).ps bx)) (.int .i64 (nth lk x)) 1 (x9.setCell ⟨w.heap.size + 1 + 1 + 1, 2, none⟩ (.int .i64 (LOto ws ⟨A0, B1, A2, A3, d0, d1, d2, d3, ri, bo, lk, lo⟩ x + ls))) ∧ flS gx (w.heap.size + 1) bp op bb ob bk okk x bx (.slice (some ⟨bp, op, none⟩) (oAt (cAt ws t).os d).ps.length (oAt (cAt ws t).os d).c) (.slice (some ⟨bb, ob, none⟩) bo.length d1) (.slice (some ⟨bk, okk, none⟩) lk.length d2) (.int .i64 (bx : Int)) (.int .i64 (nth (oAt (cAt ws t).os d).ps bx)) (.int .i64 (nth lk x)) 2 (x9.setCell ⟨w.heap.size + 1 + 1 + 1, 2, none⟩ (.int .i64 (LOto ws ⟨A0, B1, A2, A3, d0, d1, d2, d3, ri, bo, lk, lo⟩ x + ls))) ∧ flS gx (w.heap.size + 1) bp op bb ob bk okk x bx (.slice (some ⟨bp, op, none⟩) (oAt (cAt ws t).os d).ps.length (oAt (cAt ws t).os d).c) (.slice (some ⟨bb, ob, none⟩) bo.length d1) (.slice (some ⟨bk, okk, none⟩) lk.length d2) (.int .i64 (bx : Int)) (.int .i64 (nth (oAt (cAt ws t).os d).ps bx)) (.int .i64 (nth lk x)) 3 (x9.setCell ⟨w.heap.size + 1 + 1 + 1, 2, none⟩ (.int .i64 (LOto ws ⟨A0, B1, A2, A3, d0, d1, d2, d3, ri, bo, lk, lo⟩ x + ls))) ∧ flS gx (w.heap.size + 1) bp op bb ob bk okk x bx (.slice (some ⟨bp, op, none⟩) (oAt (cAt ws t).os d).ps.length (oAt (cAt ws t).os d).c) (.slice (some ⟨bb, ob, none⟩) bo.length d1) (.slice (some ⟨bk, okk, none⟩) lk.length d2) (.int .i64 (bx : Int)) (.int .i64 (nth (oAt (cAt ws t).os d).ps bx)) (.int .i64 (nth lk x)) 4 (x9.setCell ⟨w.heap.size + 1 + 1 + 1, 2, none⟩ (.int .i64 (LOto ws ⟨A0, B1, A2, A3, d0, d1, d2, d3, ri, bo, lk, lo⟩ x + ls)))) := by
         have mv : ∀ {a : Addr} {v : Value}, x9.cell? a = some v → a.block ≠ w.heap.size + 1 + 1 + 1 → (x9.setCell ⟨w.heap.size + 1 + 1 + 1, 2, none⟩ (.int .i64 (LOto ws ⟨A0, B1, A2, A3, d0, d1, d2, d3, ri, bo, lk, lo⟩ x + ls))).cell? a = some v := fun {a} {v} h hn => by
          have e : (x9.setCell ⟨w.heap.size + 1 + 1 + 1, 2, none⟩ (.int .i64 (LOto ws ⟨A0, B1, A2, A3, d0, d1, d2, d3, ri, bo, lk, lo⟩ x + ls))).heap[a.block]? = x9.heap[a.block]? := Below.heap_setCell _ _ _ _ hn
          rw [← h]
          unfold World.cell?
          rw [e]
         have hw := HW.out
         have h2 := HX.out.2.2.2
         have h3 := HG.out
         exact Lib.hid ⟨HX.out.1.lost _, mv hw.1 (by show gx ≠ _; omega), ⟨mv hw.2.1.1 (by show w.heap.size + 1 ≠ _; omega), mv hw.2.1.2 (by show w.heap.size + 1 ≠ _; omega)⟩, mv hw.2.2.1 (by show bb ≠ _; omega), mv hw.2.2.2.1 (by show bp ≠ _; omega), mv hw.2.2.2.2.1 (by show bk ≠ _; omega)⟩
        clear HW HX
        generalize x9.setCell ⟨w.heap.size + 1 + 1 + 1, 2, none⟩ (.int .i64 (LOto ws ⟨A0, B1, A2, A3, d0, d1, d2, d3, ri, bo, lk, lo⟩ x + ls)) = x10 at *
        refine wp_region_K (by kernel_rfl) (flS gx (w.heap.size + 1) bp op bb ob bk okk x bx (.slice (some ⟨bp, op, none⟩) (oAt (cAt ws t).os d).ps.length (oAt (cAt ws t).os d).c) (.slice (some ⟨bb, ob, none⟩) bo.length d1) (.slice (some ⟨bk, okk, none⟩) lk.length d2) (.int .i64 (bx : Int)) (.int .i64 (nth (oAt (cAt ws t).os d).ps bx)) (.int .i64 (nth lk x))) (fun _ _ => true) ?_
        have hbd : Below x10.heap.size x10 x10.drew := (Below.refl _ _).drew
        have s0 := flS_on hbd HY.out.2.1
        have s1 := flS_on hbd HY.out.2.2.1
        have s2 := flS_on hbd HY.out.2.2.2.1
        have s3 := flS_on hbd HY.out.2.2.2.2.1
        have s4 := flS_on hbd HY.out.2.2.2.2.2
        have HZ := Lib.hid (HY.out.1.on hbd)
        clear HY hbd
        generalize x10.drew = x11 at *
        refine kF 5 0 rfl ?_
        refine kF 5 1 rfl ?_
        refine kT 0 2 rfl ?_
        refine kF 5 3 rfl ?_
        refine kT 1 4 rfl ?_
        refine kF 5 5 rfl ?_
        refine kF 5 6 rfl ?_
        refine kT 2 7 rfl ?_
        refine kF 5 8 rfl ?_
        refine kT 3 9 rfl ?_
        refine kF 5 10 rfl ?_
        refine kT 1 11 rfl ?_
        refine kF 5 12 rfl ?_
        refine kF 5 13 rfl ?_
        refine kT 4 14 rfl ?_
        refine kF 5 15 rfl ?_
        refine kF 5 16 rfl ?_
        refine kF 5 17 rfl ?_
        refine kD ?_
        clear s0 s1 s2 s3 s4
        obtain ⟨th, hth⟩ : ∃ th, flowF ws ⟨A0, B1, A2, A3, d0, d1, d2, d3, ri, bo, lk, lo⟩ x = th := ⟨_, rfl⟩
        have HTH := Lib.hid (show (if nth (oAt (cAt ws t).os d).ps bx + nth lk x < TT d - ls then nth (oAt (cAt ws t).os d).ps bx + nth lk x else TT d - ls) = th by rw [← hth, HSK.out.1, Int.min_def]; split <;> split <;> omega)
        have HTE := Lib.hid hth
        have hth0 : 0 ≤ th ∧ th ≤ TT d - ls := by rw [← hth, HSK.out.1]; omega
        clear hth
        have hwr : IntKind.i64.wrap (nth (oAt (cAt ws t).os d).ps bx + nth lk x) = nth (oAt (cAt ws t).os d).ps bx + nth lk x := by rw [IntKind.wrap_i64]; omega
        rw [hwr, HTH.out]
        clear HTH hwr
        have hl1 : x ≤ 100 := by omega
        have hbA := (Below.refl _ x11).alloc (Nat.le_refl _) (.cells #[.int .i64 th] 3)
        have HN := hd4 ((HZ.out.on hbA).oO.row (FLto_length _ _ _)) (World.news_of_block (cs := #[.int .i64 th]) (t := 3) (fr := (0, 0)) (World.alloc_heap_new x11 (.cells #[.int .i64 th] 3))) (HZ.out.on hbA).sz (HZ.out.on hbA)
        clear hbA
        go_upto_region 25 with fail
        have g0 := cr 0 HZ.out.bx
        go_wp2_with (at_builtin; refine wpList_append_own_at _ rfl _ _ 25 rfl W2.heap.size 3 i0 (.int .i64 0) 1 8 Try.underlying25 hi0 hz0 hz1 hz2 rfl (by decide) (.slice AO x cO) x _ rfl HN.out.1 ⟨x11.heap.size, 0, none⟩ 1 1 [.int .i64 th] rfl (by simp) HN.out.2.1 (by simp [Value.oneCell']) (by unfold maxLen; omega) (by omega) HN.out.2.2.1 ?_; intro v' w9 hown1 hgrow _ hbk; have HP := Lib.hid (HN.out.2.2.2.appO (Own.of_row hown1 (FLto_length _ _ _)) hgrow hbk); obtain ⟨A9, c9, rfl⟩ := HP.out.oO.slice (n := x + 1) (by rw [List.length_append, FLto_length]; rfl); have g9 := cr 0 HP.out.bx; have f9 := bf 0 HP.out.bx; clear hown1 hgrow hbk)
        go_roundg ((cAt ws t).os.length - (d + 1))
        case measure => omega
        case rel => exact ⟨d + 1, by omega, by omega, by go_num, by rw [← Nat.add_assoc, HXe.out]; go_num, by rw [HSK.out.2.1, HTE.out], .slice A9 (x + 1) c9, by
         have hp := HP.out.putO (.slice A9 (x + 1) c9)
         rw [← Nat.add_assoc, HXe.out, FLto_succ, HTE.out, HSK.out.2.2.1]
         exact hp⟩
       ·have hdz : ¬ (d : Int) < ((cAt ws t).os.length : Int) := by omega
        obtain rfl : d = (cAt ws t).os.length := by omega
        have hls := start_succ hlt
        have HE := hd2 hls (show flowF ws ⟨A0, B1, A2, A3, d0, d1, d2, d3, ri, bo, lk, lo⟩ (60 + t) = TT (cAt ws t).os.length by rw [end_at HI.out.2.2.1 hlt, hT.out])
        rw [← hls] at HC ⊢
        clear hls
        obtain ⟨x, hx⟩ : ∃ x, start ws (t + 1) = x := ⟨_, rfl⟩
        have HXe := Lib.hid hx
        rw [hx] at HC ⊢
        clear hx
        obtain ⟨th, hth⟩ : ∃ th, TT (cAt ws t).os.length = th := ⟨_, rfl⟩
        have HTE := Lib.hid hth
        rw [hth]
        clear hth
        go_upto_region 27 with fail
        have hbA := (Below.refl _ wr).alloc (Nat.le_refl _) (.cells #[.int .i64 th] 3)
        have HN := hd4 ((HC.out.on hbA).oT.row (TLto_length _ _ _)) (World.news_of_block (cs := #[.int .i64 th]) (t := 3) (fr := (0, 0)) (World.alloc_heap_new wr (.cells #[.int .i64 th] 3))) (HC.out.on hbA).sz (HC.out.on hbA)
        clear hbA
        have g0 := cr 1 HC.out.bx
        have hl1 : t ≤ 100 := by omega
        go_wp2_with (at_builtin; refine wpList_append_own_at _ rfl _ _ 25 rfl W2.heap.size 3 i0 (.int .i64 0) 1 8 Try.underlying25 hi0 hz0 hz1 hz2 rfl (by decide) (.slice AT t cT) t _ rfl HN.out.1 ⟨wr.heap.size, 0, none⟩ 1 1 [.int .i64 th] rfl (by simp) HN.out.2.1 (by simp [Value.oneCell']) (by unfold maxLen; omega) (by omega) HN.out.2.2.1 ?_; intro v' w9 hown1 hgrow _ hbk; have HP := Lib.hid (HN.out.2.2.2.appT (Own.of_row hown1 (TLto_length _ _ _)) hgrow hbk); obtain ⟨A9, c9, rfl⟩ := HP.out.oT.slice (n := t + 1) (by rw [List.length_append, TLto_length]; rfl); have g9 := cr 1 HP.out.bx; have f9 := bf 1 HP.out.bx; clear hown1 hgrow hbk)
        go_roundg (ws.length - (t + 1))
        case measure => omega
        case rel => exact ⟨t + 1, by omega, by omega, by go_num, by rw [HXe.out], .slice AO x cO, .slice A9 (t + 1) c9, by
         have hp := HP.out.putT (.slice A9 (t + 1) c9)
         rw [HXe.out, TLto_succ, HE.out.2, HTE.out]
         exact hp⟩
  ·have hltz : ¬ (t : Int) < (ws.length : Int) := by omega
   obtain rfl : t = ws.length := by omega
   rw [start_all] at HF
   obtain ⟨AO, cO, rfl⟩ := HF.out.oO.slice (FLto_length _ _ _)
   obtain ⟨AT, cT, rfl⟩ := HF.out.oT.slice (TLto_length _ _ _)
   have hq2 := show Blk wr (w.heap.size + 1 + 1) _ _ from (HF.out.md _ (by have := HG.out; omega) (by omega)).trans HJ.out.2.2.2.2
   have a0 := cr 0 HF.out.bx
   have a1 := cr 1 HF.out.bx
   have a2 := cr 2 HF.out.bx
   have z0 := cr 0 hq2
   have z1 := cr 1 hq2
   have z2 := cr 2 hq2
   have y0 := bf 0 hq2
   have y1 := bf 1 hq2
   have y2 := bf 2 hq2
   have HE := Lib.hid hq2
   clear hq2
   have HFin : Hid (Blk (((wr.setCell ⟨w.heap.size + 1 + 1, 0, none⟩ (.slice AO (outs ws).length cO)).setCell ⟨w.heap.size + 1 + 1, 1, none⟩ (.slice AT ws.length cT)).setCell ⟨w.heap.size + 1 + 1, 2, none⟩ (.int .i64 (LOto ws ⟨A0, B1, A2, A3, d0, d1, d2, d3, ri, bo, lk, lo⟩ (outs ws).length))) (w.heap.size + 1 + 1) #[.slice AO (outs ws).length cO, .slice AT ws.length cT, .int .i64 (LOto ws ⟨A0, B1, A2, A3, d0, d1, d2, d3, ri, bo, lk, lo⟩ (outs ws).length)] 128 ∧ Rd (((wr.setCell ⟨w.heap.size + 1 + 1, 0, none⟩ (.slice AO (outs ws).length cO)).setCell ⟨w.heap.size + 1 + 1, 1, none⟩ (.slice AT ws.length cT)).setCell ⟨w.heap.size + 1 + 1, 2, none⟩ (.int .i64 (LOto ws ⟨A0, B1, A2, A3, d0, d1, d2, d3, ri, bo, lk, lo⟩ (outs ws).length))) (((wr.setCell ⟨w.heap.size + 1 + 1, 0, none⟩ (.slice AO (outs ws).length cO)).setCell ⟨w.heap.size + 1 + 1, 1, none⟩ (.slice AT ws.length cT)).setCell ⟨w.heap.size + 1 + 1, 2, none⟩ (.int .i64 (LOto ws ⟨A0, B1, A2, A3, d0, d1, d2, d3, ri, bo, lk, lo⟩ (outs ws).length))).heap.size AO (FLto ws ⟨A0, B1, A2, A3, d0, d1, d2, d3, ri, bo, lk, lo⟩ (outs ws).length) ∧ Rd (((wr.setCell ⟨w.heap.size + 1 + 1, 0, none⟩ (.slice AO (outs ws).length cO)).setCell ⟨w.heap.size + 1 + 1, 1, none⟩ (.slice AT ws.length cT)).setCell ⟨w.heap.size + 1 + 1, 2, none⟩ (.int .i64 (LOto ws ⟨A0, B1, A2, A3, d0, d1, d2, d3, ri, bo, lk, lo⟩ (outs ws).length))) (((wr.setCell ⟨w.heap.size + 1 + 1, 0, none⟩ (.slice AO (outs ws).length cO)).setCell ⟨w.heap.size + 1 + 1, 1, none⟩ (.slice AT ws.length cT)).setCell ⟨w.heap.size + 1 + 1, 2, none⟩ (.int .i64 (LOto ws ⟨A0, B1, A2, A3, d0, d1, d2, d3, ri, bo, lk, lo⟩ (outs ws).length))).heap.size AT (TLto ws ⟨A0, B1, A2, A3, d0, d1, d2, d3, ri, bo, lk, lo⟩ ws.length) ∧ Fresh w.heap.size AO ∧ Fresh w.heap.size AT ∧ Below w.heap.size w (((wr.setCell ⟨w.heap.size + 1 + 1, 0, none⟩ (.slice AO (outs ws).length cO)).setCell ⟨w.heap.size + 1 + 1, 1, none⟩ (.slice AT ws.length cT)).setCell ⟨w.heap.size + 1 + 1, 2, none⟩ (.int .i64 (LOto ws ⟨A0, B1, A2, A3, d0, d1, d2, d3, ri, bo, lk, lo⟩ (outs ws).length)))) := by
    have hg := HG.out
    have oth : ∀ k, k ≠ w.heap.size + 1 + 1 → (((wr.setCell ⟨w.heap.size + 1 + 1, 0, none⟩ (.slice AO (outs ws).length cO)).setCell ⟨w.heap.size + 1 + 1, 1, none⟩ (.slice AT ws.length cT)).setCell ⟨w.heap.size + 1 + 1, 2, none⟩ (.int .i64 (LOto ws ⟨A0, B1, A2, A3, d0, d1, d2, d3, ri, bo, lk, lo⟩ (outs ws).length))).heap[k]? = wr.heap[k]? := fun k hk => (Below.heap_setCell _ _ _ _ hk).trans ((Below.heap_setCell _ _ _ _ hk).trans (Below.heap_setCell _ _ _ _ hk))
    have h1 : Blk (wr.setCell ⟨w.heap.size + 1 + 1, 0, none⟩ (.slice AO (outs ws).length cO)) (w.heap.size + 1 + 1) #[.slice AO (outs ws).length cO, .slice none 0 0, .int .i64 0] 128 := heap_setCell_same _ _ 0 _ _ _ HE.out
    have h2 : Blk ((wr.setCell ⟨w.heap.size + 1 + 1, 0, none⟩ (.slice AO (outs ws).length cO)).setCell ⟨w.heap.size + 1 + 1, 1, none⟩ (.slice AT ws.length cT)) (w.heap.size + 1 + 1) #[.slice AO (outs ws).length cO, .slice AT ws.length cT, .int .i64 0] 128 := heap_setCell_same _ _ 1 _ _ _ h1
    have hO : Own (((wr.setCell ⟨w.heap.size + 1 + 1, 0, none⟩ (.slice AO (outs ws).length cO)).setCell ⟨w.heap.size + 1 + 1, 1, none⟩ (.slice AT ws.length cT)).setCell ⟨w.heap.size + 1 + 1, 2, none⟩ (.int .i64 (LOto ws ⟨A0, B1, A2, A3, d0, d1, d2, d3, ri, bo, lk, lo⟩ (outs ws).length))) W2.heap.size (.slice AO (outs ws).length cO) (FLto ws ⟨A0, B1, A2, A3, d0, d1, d2, d3, ri, bo, lk, lo⟩ (outs ws).length) := HF.out.oO.blk (fun k e => oth k (by have := (HF.out.oO.blkIs e).1; omega))
    have hT : Own (((wr.setCell ⟨w.heap.size + 1 + 1, 0, none⟩ (.slice AO (outs ws).length cO)).setCell ⟨w.heap.size + 1 + 1, 1, none⟩ (.slice AT ws.length cT)).setCell ⟨w.heap.size + 1 + 1, 2, none⟩ (.int .i64 (LOto ws ⟨A0, B1, A2, A3, d0, d1, d2, d3, ri, bo, lk, lo⟩ (outs ws).length))) W2.heap.size (.slice AT ws.length cT) (TLto ws ⟨A0, B1, A2, A3, d0, d1, d2, d3, ri, bo, lk, lo⟩ ws.length) := HF.out.oT.blk (fun k e => oth k (by have := (HF.out.oT.blkIs e).1; omega))
    obtain ⟨A8, c8, e8, r8, f8⟩ := hO.rd
    rw [FLto_length] at e8
    cases e8
    obtain ⟨A7, c7, e7, r7, f7⟩ := hT.rd
    rw [TLto_length] at e7
    cases e7
    have hbw := HJ.out.2.1.trans (HF.out.bl.mono (by omega : w.heap.size ≤ w.heap.size + 1 + 1 + 1))
    exact Lib.hid ⟨heap_setCell_same _ _ 2 _ _ _ h2, r8, r7, f8.mono (by omega), f7.mono (by omega), ((hbw.setCell (p := ⟨w.heap.size + 1 + 1, 0, none⟩) (by show w.heap.size ≤ w.heap.size + 1 + 1; omega) _).setCell (p := ⟨w.heap.size + 1 + 1, 1, none⟩) (by show w.heap.size ≤ w.heap.size + 1 + 1; omega) _).setCell (p := ⟨w.heap.size + 1 + 1, 2, none⟩) (by show w.heap.size ≤ w.heap.size + 1 + 1; omega) _⟩
   go_wp2
   have v0 := cr 0 HFin.out.1
   have v1 := cr 1 HFin.out.1
   have v2 := cr 2 HFin.out.1
   generalize ((wr.setCell ⟨w.heap.size + 1 + 1, 0, none⟩ (.slice AO (outs ws).length cO)).setCell ⟨w.heap.size + 1 + 1, 1, none⟩ (.slice AT ws.length cT)).setCell ⟨w.heap.size + 1 + 1, 2, none⟩ (.int .i64 (LOto ws ⟨A0, B1, A2, A3, d0, d1, d2, d3, ri, bo, lk, lo⟩ (outs ws).length)) = wz at *
   exact bodyPost_ret (v := .agg #[.slice AO (outs ws).length cO, .slice AT ws.length cT, .int .i64 (LOto ws ⟨A0, B1, A2, A3, d0, d1, d2, d3, ri, bo, lk, lo⟩ (outs ws).length)]) (by simp [results, Try.results82, go_sem, v0, v1, v2]) rfl ⟨AO, cO, AT, ⟨cT, rfl⟩, HFin.out.2.1, HFin.out.2.2.1, HFin.out.2.2.2.1, HFin.out.2.2.2.2.1, HFin.out.2.2.2.2.2⟩
end Go.Proofs.Ytdadoelajhemjaa
