/- Walks: the specification's signs. -/
import Derived.Test.YtdadoelajhemjaaP6
import Derived.Test.YtdadoelajhemjaaC6
import Derived.Test.YtdadoelajhemjaaM5
namespace Go.Proofs.Ytdadoelajhemjaa
open Go.RowKit Go.Shelf

def hatTo (ws : List Car) (x k : Nat) : List Int := (List.range k).map (hatV ws x)
def reaTo (ws : List Car) (x k : Nat) : List Int := (List.range k).map (reaV ws x)
theorem hatTo_length (ws : List Car) (x k : Nat) : (hatTo ws x k).length = k := by simp [hatTo]
theorem reaTo_length (ws : List Car) (x k : Nat) : (reaTo ws x k).length = k := by simp [reaTo]
theorem hatTo_succ (ws : List Car) (x k : Nat) : hatTo ws x (k + 1) = hatTo ws x k ++ [hatV ws x k] := by simp [hatTo, List.range_succ]
theorem reaTo_succ (ws : List Car) (x k : Nat) : reaTo ws x (k + 1) = reaTo ws x k ++ [reaV ws x k] := by simp [reaTo, List.range_succ]
theorem hIntAt {ws : List Car} {t j : Nat} (h : j < (headsTo ws t).length) : nth (hInt ws t) j = (((headsTo ws t).getD j 0 : Nat) : Int) := by
 unfold hInt nth
 simp [h]
/-- The cells that a look at a head reads. -/
def sgnS (b7 o7 b6 o6 b5 o5 : Nat) (v0 v1 v2 : Value) (k : Nat) (X : World) : Prop := match k with
 | 0 => X.cell? ⟨b7, o7, none⟩ = some v0
 | 1 => X.cell? ⟨b6, o6, none⟩ = some v1
 | 2 => X.cell? ⟨b5, o5, none⟩ = some v2
 | _ => True
theorem sgnS_on {b7 o7 b6 o6 b5 o5 : Nat} {v0 v1 v2 : Value} {k : Nat} {X Y : World} (hb : Below X.heap.size X Y) (h : sgnS b7 o7 b6 o6 b5 o5 v0 v1 v2 k X) : sgnS b7 o7 b6 o6 b5 o5 v0 v1 v2 k Y := by
 have c := fun {a : Addr} {u : Value} (e : X.cell? a = some u) => (hb.cell (p := a) (lt_of_cell e)).trans e
 match k, h with
 | 0, h => exact c h
 | 1, h => exact c h
 | 2, h => exact c h
 | _ + 3, _ => trivial
/-- The cells that a look at a place ahead reads. -/
def lokS (b6 o6 b5 oy ok : Nat) (v0 v1 v2 v3 v4 : Value) (k : Nat) (X : World) : Prop := match k with
 | 0 => X.cell? ⟨b6, o6, none⟩ = some v0
 | 1 => X.cell? ⟨b5, oy, none⟩ = some v1 ∧ X.cell? ⟨b5, oy + 1, none⟩ = some v2
 | 2 => X.cell? ⟨b5, ok, none⟩ = some v3 ∧ X.cell? ⟨b5, ok + 1, none⟩ = some v4
 | _ => True
set_option maxRecDepth 100000 in
set_option maxHeartbeats 6400000 in
theorem rSigns0_any (A : Option Addr) (c : Nat) (ws : List Car) (x : Nat) (hx : x < (outs ws).length) (w : World) (h : Wk w A ws) (g : Good ws) :
  Calls Try.prog 101 #[.agg #[.slice A ws.length c], .int .i64 (x : Int)] w fun e w' => ∃ A1 c1 A2 c2 A3 c3, e = .returned (.agg #[.slice A1 (headsTo ws ws.length).length c1, .slice A2 (outs ws).length c2, .slice A3 (outs ws).length c3, .int .i64 0]) ∧
   (Rd w' w'.heap.size A1 (rivS ws x) ∧ Rd w' w'.heap.size A2 (hatS ws x) ∧ Rd w' w'.heap.size A3 (reaS ws x)) ∧ (Fresh w.heap.size A1 ∧ Fresh w.heap.size A2 ∧ Fresh w.heap.size A3) ∧ Below w.heap.size w w' := by
 obtain ⟨i0, hi0, hz0, hz1, hz2⟩ := info_parts info3
 have n1 := g.n1
 have n2 := g.n2
 have hb : Below w.heap.size w (((w.alloc (.cells #[.slice A ws.length c] 24)).alloc (.cells #[.slice none 0 0, .slice none 0 0, .slice none 0 0, .int .i64 0] 69)).alloc (.cells #[.slice none 0 0, .slice none 0 0, .slice none 0 0, .int .i64 0] 69)) := (((Below.refl _ w).alloc (Nat.le_refl _) _).alloc (by simp) _).alloc (by simp; omega) _
 have hsz : (((w.alloc (.cells #[.slice A ws.length c] 24)).alloc (.cells #[.slice none 0 0, .slice none 0 0, .slice none 0 0, .int .i64 0] 69)).alloc (.cells #[.slice none 0 0, .slice none 0 0, .slice none 0 0, .int .i64 0] 69)).heap.size = w.heap.size + 3 := by simp
 have q0 : Blk (((w.alloc (.cells #[.slice A ws.length c] 24)).alloc (.cells #[.slice none 0 0, .slice none 0 0, .slice none 0 0, .int .i64 0] 69)).alloc (.cells #[.slice none 0 0, .slice none 0 0, .slice none 0 0, .int .i64 0] 69)) w.heap.size #[.slice A ws.length c] 24 := blk_alloc (blk_alloc (blk_new _ _ _ rfl) _) _
 have q1 : Blk (((w.alloc (.cells #[.slice A ws.length c] 24)).alloc (.cells #[.slice none 0 0, .slice none 0 0, .slice none 0 0, .int .i64 0] 69)).alloc (.cells #[.slice none 0 0, .slice none 0 0, .slice none 0 0, .int .i64 0] 69)) (w.heap.size + 1) #[.slice none 0 0, .slice none 0 0, .slice none 0 0, .int .i64 0] 69 := blk_alloc (blk_new _ _ _ (by simp)) _
 have q2 : Blk (((w.alloc (.cells #[.slice A ws.length c] 24)).alloc (.cells #[.slice none 0 0, .slice none 0 0, .slice none 0 0, .int .i64 0] 69)).alloc (.cells #[.slice none 0 0, .slice none 0 0, .slice none 0 0, .int .i64 0] 69)) (w.heap.size + 1 + 1) #[.slice none 0 0, .slice none 0 0, .slice none 0 0, .int .i64 0] 69 := blk_new _ _ _ (by simp)
 have HQ := hd5 hb hsz q0 q1 q2
 have HI := hd3 h g hx
 clear hb hsz q0 q1 q2 h hx g
 go_enter Try.func101, Try.ntmps101
 go_upto_region 2 with fail
 generalize ((w.alloc (.cells #[.slice A ws.length c] 24)).alloc (.cells #[.slice none 0 0, .slice none 0 0, .slice none 0 0, .int .i64 0] 69)).alloc (.cells #[.slice none 0 0, .slice none 0 0, .slice none 0 0, .int .i64 0] 69) = W1 at *
 have p0 := cr 0 HQ.out.2.2.1
 go_upto_region 3 with (go_at_call 112; refine (rPlacesF_any A c ws W1 (HI.out.1.ext HQ.out.1)).mono ?_; rintro e Wa ⟨A5, c5, rfl, hr, hfr, hb⟩; have H5 := hd3 hr hfr hb; clear hr hfr hb)
 clear p0
 have p0 := cr 0 (blk_on HQ.out.2.2.1 H5.out.2.2)
 go_upto_region 4 with (go_at_call 121; refine (rPath_any A c ws x HI.out.2.2 Wa ((HI.out.1.ext HQ.out.1).ext H5.out.2.2) HI.out.2.1).mono ?_; rintro e Wb ⟨A6, c6, rfl, hr, hfr, hb⟩; have H6 := hd3 hr hfr hb; clear hr hfr hb)
 clear p0
 have p0 := cr 0 (blk_on (blk_on HQ.out.2.2.1 H5.out.2.2) H6.out.2.2)
 go_upto_region 6 with (go_at_call 116; refine (rHeads_any A c ws Wb (((HI.out.1.ext HQ.out.1).ext H5.out.2.2).ext H6.out.2.2)).mono ?_; rintro e W2 ⟨A7, c7, rfl, hr, hfr, hb⟩; have H7 := hd3 hr hfr hb; clear hr hfr hb)
 clear p0
 rw [hInt_length]
 have hpl : (pathI ws x).length = (pathN ws x).length := natI_length _
 rw [hpl]
 have HPL := Lib.hid hpl
 clear hpl
 have HJ : Hid (FlG W2 (w.heap.size + 1 + 1) 69 #[.slice none 0 0, .slice none 0 0, .slice none 0 0, .int .i64 0] (.slice none 0 0) (.slice none 0 0) [] [] W2 ∧ Below w.heap.size w W2 ∧ Blk W2 (w.heap.size + 1) #[.slice none 0 0, .slice none 0 0, .slice none 0 0, .int .i64 0] 69 ∧ (RdS W2 W2.heap.size A5 (plS ws (outs ws).length) ∧ Fresh (w.heap.size + 3) A5) ∧ (Rd W2 W2.heap.size A6 (pathI ws x) ∧ Fresh (w.heap.size + 3) A6) ∧ (Rd W2 W2.heap.size A7 (hInt ws ws.length) ∧ Fresh (w.heap.size + 3) A7) ∧ w.heap.size + 3 ≤ W2.heap.size) := by
  have s1 := HQ.out.2.1
  have s5 := H5.out.2.2.size
  have s6 := H6.out.2.2.size
  have s7 := H7.out.2.2.size
  have b1 := HQ.out.1.trans (H5.out.2.2.mono HQ.out.1.size)
  have b2 := b1.trans (H6.out.2.2.mono b1.size)
  exact Lib.hid ⟨⟨blk_on (blk_on (blk_on HQ.out.2.2.2.2 H5.out.2.2) H6.out.2.2) H7.out.2.2, Own.nil _ _, Own.nil _ _, fun k e => (by cases e), fun _ _ _ => rfl, Below.refl _ _, Nat.le_refl _, by omega⟩, b2.trans (H7.out.2.2.mono b2.size), blk_on (blk_on (blk_on HQ.out.2.2.2.1 H5.out.2.2) H6.out.2.2) H7.out.2.2,
   ⟨(H5.out.1.ext H6.out.2.2).ext H7.out.2.2, H5.out.2.1.mono (by omega)⟩, ⟨H6.out.1.ext H7.out.2.2, H6.out.2.1.mono (by omega)⟩, ⟨H7.out.1, H7.out.2.1.mono (by omega)⟩, by omega⟩
 clear H5 H6 H7 HQ
 have hNb : 0 < (outs ws).length := Nat.lt_of_le_of_lt (Nat.zero_le _) HI.out.2.2
 have hPb : 0 < (pathN ws x).length := pathN_pos HI.out.2.1 x
 obtain ⟨b5, o5, rfl, _, hc5⟩ := HJ.out.2.2.2.1.1 (by rw [plS_length]; exact hNb)
 obtain ⟨b6, o6, rfl, _, hc6⟩ := HJ.out.2.2.2.2.1.1 (by rw [pathI, natI_length]; exact hPb)
 have HC : Hid ((∀ j, j < (pathN ws x).length → W2.cell? ⟨b6, o6 + j, none⟩ = some (.int .i64 (((pathN ws x).getD j 0 : Nat) : Int))) ∧ (∀ i, i < (outs ws).length → W2.cell? ⟨b5, o5 + i * 2, none⟩ = some (.int .i64 (caAt ws i : Int)) ∧ W2.cell? ⟨b5, o5 + i * 2 + 1, none⟩ = some (.int .i64 (atAt ws i : Int))) ∧ b6 ≠ w.heap.size + 1 + 1 ∧ b5 ≠ w.heap.size + 1 + 1) := by
  have h5 := HJ.out.2.2.2.1.2 _ rfl
  have h6 := HJ.out.2.2.2.2.1.2 _ rfl
  dsimp only at h5 h6
  refine Lib.hid ⟨fun j hj => ?_, fun i hi => ?_, by omega, by omega⟩
  ·have h := hc6 j (by rw [pathI, natI_length]; exact hj)
   rw [pathI, natI_at hj] at h
   exact h
  ·have h := hc5 i (by rw [plS_length]; exact hi)
   have h0 := h.c0
   have h1 := h.c1
   rw [plS_at hi] at h0 h1
   exact ⟨h0, h1⟩
 clear hc5 hc6 hNb
 have HPb := Lib.hid hPb
 clear hPb
 have hHl : (headsTo ws ws.length).length ≤ 16 := by have := headsTo_le ws ws.length; omega
 go_loopg [9, 10] (headsTo ws ws.length).length (fun gg k _ wr => ∃ t : Nat, t ≤ (headsTo ws ws.length).length ∧ (headsTo ws ws.length).length - t ≤ gg ∧ k = .int .i64 t ∧ Aside (∃ vO, FlG W2 (w.heap.size + 1 + 1) 69 #[vO, .slice none 0 0, .slice none 0 0, .int .i64 0] vO (.slice none 0 0) (rivTo ws x t) [] wr))
 case atStart => exact ⟨0, Nat.zero_le _, by omega, rfl, .slice none 0 0, HJ.out.1⟩
 case round =>
  obtain ⟨t, hlt0, hgg, rfl, hA⟩ := hrel
  obtain ⟨vO, hF⟩ := hA.out
  have HF := Lib.hid hF
  clear hA hF
  obtain ⟨AO, cO, rfl⟩ := HF.out.oO.slice (rivTo_length hlt0)
  by_cases hlt : t < (headsTo ws ws.length).length
  ·have hltz : (t : Int) < ((headsTo ws ws.length).length : Int) := by omega
   obtain ⟨b7, o7, rfl, _, hc7⟩ := HJ.out.2.2.2.2.2.1.1 (by rw [hInt_length]; omega)
   have h7 := HJ.out.2.2.2.2.2.1.2 _ rfl
   have hc7 := hc7 t (by rw [hInt_length]; exact hlt)
   rw [hIntAt hlt] at hc7
   have hc6 := HC.out.1 0 HPb.out
   have hrs := rivTo_succ (x := x) hlt
   have hyN : headOf ws x < (outs ws).length := pathN_in HI.out.2.1 HI.out.2.2
   rw [show (pathN ws x).getD 0 0 = headOf ws x from rfl] at hc6
   generalize (headsTo ws ws.length).getD t 0 = hj at *
   generalize headOf ws x = y at *
   have HRS := Lib.hid hrs
   have hc5 := (HC.out.2.1 y hyN).1
   have hyz : (y : Int) < ((outs ws).length : Int) := by omega
   have hpz : 0 < (pathN ws x).length := HPb.out
   clear hrs hyN
   have hbd : Below wr.heap.size wr wr.drew := (Below.refl _ _).drew
   have HZ := Lib.hid (HF.out.on hbd)
   have s0 : sgnS b7 (o7 + t) b6 o6 b5 (o5 + y * 2) (.int .i64 (hj : Int)) (.int .i64 (y : Int)) (.int .i64 (caAt ws y : Int)) 0 wr.drew := HZ.out.cell hc7 (by show b7 ≠ _; have : w.heap.size + 3 ≤ b7 := h7; omega)
   have s1 : sgnS b7 (o7 + t) b6 o6 b5 (o5 + y * 2) (.int .i64 (hj : Int)) (.int .i64 (y : Int)) (.int .i64 (caAt ws y : Int)) 1 wr.drew := HZ.out.cell hc6 HC.out.2.2.1
   have s2 : sgnS b7 (o7 + t) b6 o6 b5 (o5 + y * 2) (.int .i64 (hj : Int)) (.int .i64 (y : Int)) (.int .i64 (caAt ws y : Int)) 2 wr.drew := HZ.out.cell hc5 HC.out.2.2.2
   clear hbd h7 hc7 hc6 hc5 HF
   go_upto_region 9 with fail
   refine wp_region_K (by kernel_rfl) (sgnS b7 (o7 + t) b6 o6 b5 (o5 + y * 2) (.int .i64 (hj : Int)) (.int .i64 (y : Int)) (.int .i64 (caAt ws y : Int))) (fun _ _ => true) ?_
   generalize wr.drew = X1 at *
   refine kF 3 0 rfl ?_
   refine kF 3 1 rfl ?_
   refine kF 3 2 rfl ?_
   refine kT 0 3 rfl ?_
   refine kF 3 4 rfl ?_
   refine kF 3 5 rfl ?_
   refine kF 3 6 rfl ?_
   refine kT 1 7 rfl ?_
   refine kF 3 8 rfl ?_
   refine kF 3 9 rfl ?_
   refine kT 2 10 rfl ?_
   refine kF 3 11 rfl ?_
   refine kD ?_
   clear s0 s1 s2
   by_cases he : hj = caAt ws y
   ·have hez : ((hj : Int) == (caAt ws y : Int)) = true := by rw [he]; simp
    rw [if_pos he] at HRS
    have HE := Lib.hid he
    clear he
    go_upto_region 11 with fail
    have hbA := (Below.refl _ X1).alloc (Nat.le_refl _) (.cells #[.int .i64 1] 3)
    have HN := hd4 ((HZ.out.on hbA).oO.row (rivTo_length hlt0)) (World.news_of_block (cs := #[.int .i64 1]) (t := 3) (fr := (0, 0)) (World.alloc_heap_new X1 (.cells #[.int .i64 1] 3))) (HZ.out.on hbA).sz (HZ.out.on hbA)
    have g0 := cr 0 HZ.out.bx
    clear hbA
    go_wp2_with (at_builtin; refine wpList_append_own_at _ rfl _ _ 25 rfl W2.heap.size 3 i0 (.int .i64 0) 1 8 Try.underlying25 hi0 hz0 hz1 hz2 rfl (by decide) (.slice AO t cO) t _ rfl HN.out.1 ⟨X1.heap.size, 0, none⟩ 1 1 [.int .i64 1] rfl (by simp) HN.out.2.1 (by simp [Value.oneCell']) (by unfold maxLen; omega) (by omega) HN.out.2.2.1 ?_; intro v' w9 hown1 hgrow _ hbk; have HP := Lib.hid (HN.out.2.2.2.appO (Own.of_row hown1 (rivTo_length hlt0)) hgrow hbk); obtain ⟨A9, c9, rfl⟩ := HP.out.oO.slice (n := t + 1) (by rw [List.length_append, rivTo_length hlt0]; rfl); have g9 := cr 0 HP.out.bx; have f9 := bf 0 HP.out.bx; clear hown1 hgrow hbk)
    go_roundg ((headsTo ws ws.length).length - (t + 1))
    case measure => omega
    case rel => exact ⟨t + 1, by omega, by omega, by go_num, .slice A9 (t + 1) c9, by
     have hp := HP.out.set (i := 0) (u := .slice A9 (t + 1) c9) (heap_setCell_same _ _ 0 _ _ _ HP.out.bx)
     rw [HRS.out]
     exact hp⟩
   ·have hez : ((hj : Int) == (caAt ws y : Int)) = false := by simp; omega
    rw [if_neg he] at HRS
    have HE := Lib.hid he
    clear he
    go_upto_region 11 with fail
    have hbA := (Below.refl _ X1).alloc (Nat.le_refl _) (.cells #[.int .i64 0] 3)
    have HN := hd4 ((HZ.out.on hbA).oO.row (rivTo_length hlt0)) (World.news_of_block (cs := #[.int .i64 0]) (t := 3) (fr := (0, 0)) (World.alloc_heap_new X1 (.cells #[.int .i64 0] 3))) (HZ.out.on hbA).sz (HZ.out.on hbA)
    have g0 := cr 0 HZ.out.bx
    clear hbA
    go_wp2_with (at_builtin; refine wpList_append_own_at _ rfl _ _ 25 rfl W2.heap.size 3 i0 (.int .i64 0) 1 8 Try.underlying25 hi0 hz0 hz1 hz2 rfl (by decide) (.slice AO t cO) t _ rfl HN.out.1 ⟨X1.heap.size, 0, none⟩ 1 1 [.int .i64 0] rfl (by simp) HN.out.2.1 (by simp [Value.oneCell']) (by unfold maxLen; omega) (by omega) HN.out.2.2.1 ?_; intro v' w9 hown1 hgrow _ hbk; have HP := Lib.hid (HN.out.2.2.2.appO (Own.of_row hown1 (rivTo_length hlt0)) hgrow hbk); obtain ⟨A9, c9, rfl⟩ := HP.out.oO.slice (n := t + 1) (by rw [List.length_append, rivTo_length hlt0]; rfl); have g9 := cr 0 HP.out.bx; have f9 := bf 0 HP.out.bx; clear hown1 hgrow hbk)
    go_roundg ((headsTo ws ws.length).length - (t + 1))
    case measure => omega
    case rel => exact ⟨t + 1, by omega, by omega, by go_num, .slice A9 (t + 1) c9, by
     have hp := HP.out.set (i := 0) (u := .slice A9 (t + 1) c9) (heap_setCell_same _ _ 0 _ _ _ HP.out.bx)
     rw [HRS.out]
     exact hp⟩
  ·have hltz : ¬ (t : Int) < ((headsTo ws ws.length).length : Int) := by omega
   obtain rfl : t = (headsTo ws ws.length).length := by omega
   have H3 : Hid (FlG wr (w.heap.size + 1 + 1) 69 #[.slice AO (headsTo ws ws.length).length cO, .slice none 0 0, .slice none 0 0, .int .i64 0] (.slice none 0 0) (.slice none 0 0) [] [] wr ∧ Below w.heap.size w wr ∧ Blk wr (w.heap.size + 1) #[.slice none 0 0, .slice none 0 0, .slice none 0 0, .int .i64 0] 69 ∧ (Rd wr wr.heap.size AO (rivS ws x) ∧ Fresh (w.heap.size + 3) AO) ∧ w.heap.size + 3 ≤ wr.heap.size) := by
    have hg := HJ.out.2.2.2.2.2.2
    have hs := HF.out.sz
    obtain ⟨A8, c8, e8, r8, f8⟩ := HF.out.oO.rd
    rw [rivTo_length (Nat.le_refl _)] at e8
    cases e8
    exact Lib.hid ⟨⟨HF.out.bx, Own.nil _ _, Own.nil _ _, fun k e => (by cases e), fun _ _ _ => rfl, Below.refl _ _, Nat.le_refl _, by omega⟩, HJ.out.2.1.trans (HF.out.bl.mono (by omega)), (HF.out.md _ (by omega) (by omega)).trans HJ.out.2.2.1, ⟨r8, f8.mono (by omega)⟩, by omega⟩
   have HC3 : Hid ((∀ j, j < (pathN ws x).length → wr.cell? ⟨b6, o6 + j, none⟩ = some (.int .i64 (((pathN ws x).getD j 0 : Nat) : Int))) ∧ (∀ i, i < (outs ws).length → wr.cell? ⟨b5, o5 + i * 2, none⟩ = some (.int .i64 (caAt ws i : Int)) ∧ wr.cell? ⟨b5, o5 + i * 2 + 1, none⟩ = some (.int .i64 (atAt ws i : Int)))) := Lib.hid ⟨fun j hj => HF.out.cell (HC.out.1 j hj) HC.out.2.2.1, fun i hi => ⟨HF.out.cell (HC.out.2.1 i hi).1 HC.out.2.2.2, HF.out.cell (HC.out.2.1 i hi).2 HC.out.2.2.2⟩⟩
   have HNE := Lib.hid HC.out.2.2
   clear HF HC
   go_upto_region 13 with fail
   generalize wr = W3 at *
   go_loopg [11, 12, 13, 14, 15, 16] (outs ws).length (fun gg kk _ _ _ _ _ wr => ∃ k : Nat, k ≤ (outs ws).length ∧ (outs ws).length - k ≤ gg ∧ kk = .int .i64 k ∧ Aside (∃ vO vT, FlG W3 (w.heap.size + 1 + 1) 69 #[.slice AO (headsTo ws ws.length).length cO, vO, vT, .int .i64 0] vO vT (hatTo ws x k) (reaTo ws x k) wr))
   case atStart => exact ⟨0, Nat.zero_le _, by omega, rfl, .slice none 0 0, .slice none 0 0, H3.out.1⟩
   case round =>
    obtain ⟨k, hk0, hkg, rfl, hA⟩ := hrel
    obtain ⟨vO, vT, hF⟩ := hA.out
    have HF := Lib.hid hF
    clear hA hF
    obtain ⟨AH, cH, rfl⟩ := HF.out.oO.slice (hatTo_length ws x k)
    obtain ⟨AR, cR, rfl⟩ := HF.out.oT.slice (reaTo_length ws x k)
    by_cases hkl : k < (outs ws).length
    ·have hkz : (k : Int) < ((outs ws).length : Int) := by omega
     have hk1 : k ≤ 100 := by omega
     have HSG := Lib.hid (sign_hat HI.out.2.1 HI.out.2.2 hkl)
     go_upto_region 17 with fail
     go_loopg [12, 13] (pathN ws x).length (fun gg a jj wr => ∃ j : Nat, j ≤ (pathN ws x).length ∧ (pathN ws x).length - j ≤ gg ∧ jj = .int .i64 j ∧ a = .bool (ahTo ws x k j) ∧ Aside (FlG W3 (w.heap.size + 1 + 1) 69 #[.slice AO (headsTo ws ws.length).length cO, .slice AH k cH, .slice AR k cR, .int .i64 0] (.slice AH k cH) (.slice AR k cR) (hatTo ws x k) (reaTo ws x k) wr))
     case atStart => exact ⟨0, Nat.zero_le _, by omega, rfl, rfl, HF.out⟩
     case round =>
      obtain ⟨j, hj0, hjg, rfl, rfl, hA⟩ := hrel
      have HG := Lib.hid hA.out
      clear hA HF
      by_cases hjl : j < (pathN ws x).length
      ·have hjz : (j : Int) < ((pathN ws x).length : Int) := by omega
       have hc6 := HC3.out.1 j hjl
       have hyN : (pathN ws x).getD j 0 < (outs ws).length := pathN_at HI.out.2.1 HI.out.2.2 hjl
       have has : ahTo ws x k (j + 1) = (ahTo ws x k j || (decide (caAt ws ((pathN ws x).getD j 0) = caAt ws k) && decide (atAt ws k < atAt ws ((pathN ws x).getD j 0)))) := by rw [ahTo_succ, ahAt]
       generalize (pathN ws x).getD j 0 = y at *
       generalize ahTo ws x k j = a at *
       have HAS := Lib.hid has
       have hcy := HC3.out.2 y hyN
       have hck := HC3.out.2 k hkl
       have hyz : (y : Int) < ((outs ws).length : Int) := by omega
       have hjb : j ≤ 100 := by have := pathN_len HI.out.2.1 HI.out.2.2; omega
       clear has hyN
       have hbd : Below wr.heap.size wr wr.drew := (Below.refl _ _).drew
       have HZ := Lib.hid (HG.out.on hbd)
       have s0 : lokS b6 (o6 + j) b5 (o5 + y * 2) (o5 + k * 2) (.int .i64 (y : Int)) (.int .i64 (caAt ws y : Int)) (.int .i64 (atAt ws y : Int)) (.int .i64 (caAt ws k : Int)) (.int .i64 (atAt ws k : Int)) 0 wr.drew := HZ.out.cell hc6 HNE.out.1
       have s1 : lokS b6 (o6 + j) b5 (o5 + y * 2) (o5 + k * 2) (.int .i64 (y : Int)) (.int .i64 (caAt ws y : Int)) (.int .i64 (atAt ws y : Int)) (.int .i64 (caAt ws k : Int)) (.int .i64 (atAt ws k : Int)) 1 wr.drew := ⟨HZ.out.cell hcy.1 HNE.out.2, HZ.out.cell hcy.2 HNE.out.2⟩
       have s2 : lokS b6 (o6 + j) b5 (o5 + y * 2) (o5 + k * 2) (.int .i64 (y : Int)) (.int .i64 (caAt ws y : Int)) (.int .i64 (atAt ws y : Int)) (.int .i64 (caAt ws k : Int)) (.int .i64 (atAt ws k : Int)) 2 wr.drew := ⟨HZ.out.cell hck.1 HNE.out.2, HZ.out.cell hck.2 HNE.out.2⟩
       clear hbd hc6 hcy hck HG
       go_upto_region 19 with fail
       cases a with
       | true =>
        refine wp_region_K (by kernel_rfl) (lokS b6 (o6 + j) b5 (o5 + y * 2) (o5 + k * 2) (.int .i64 (y : Int)) (.int .i64 (caAt ws y : Int)) (.int .i64 (atAt ws y : Int)) (.int .i64 (caAt ws k : Int)) (.int .i64 (atAt ws k : Int))) (fun _ _ => true) ?_
        generalize wr.drew = X1 at *
        refine kF 3 0 rfl ?_
        refine kF 3 1 rfl ?_
        refine kS 3 2 rfl ?_
        refine kS 3 3 rfl ?_
        refine kS 3 4 rfl ?_
        refine kS 3 5 rfl ?_
        refine kS 3 6 rfl ?_
        refine kS 3 7 rfl ?_
        refine kS 3 8 rfl ?_
        refine kS 3 9 rfl ?_
        refine kS 3 10 rfl ?_
        refine kS 3 11 rfl ?_
        refine kS 3 12 rfl ?_
        refine kS 3 13 rfl ?_
        refine kS 3 14 rfl ?_
        refine kS 3 15 rfl ?_
        refine kS 3 16 rfl ?_
        refine kS 3 17 rfl ?_
        refine kS 3 18 rfl ?_
        refine kS 3 19 rfl ?_
        refine kS 3 20 rfl ?_
        refine kS 3 21 rfl ?_
        refine kS 3 22 rfl ?_
        refine kS 3 23 rfl ?_
        refine kS 3 24 rfl ?_
        refine kS 3 25 rfl ?_
        refine kS 3 26 rfl ?_
        refine kS 3 27 rfl ?_
        refine kS 3 28 rfl ?_
        refine kS 3 29 rfl ?_
        refine kS 3 30 rfl ?_
        refine kS 3 31 rfl ?_
        refine kF 3 32 rfl ?_
        refine kF 3 33 rfl ?_
        refine kD ?_
        clear s0 s1 s2
        go_wp2
        go_roundg ((pathN ws x).length - (j + 1))
        case measure => omega
        case rel => exact ⟨j + 1, by omega, by omega, by go_num, by rw [HAS.out]; rfl, HZ.out⟩
       | false =>
        by_cases hc : caAt ws y = caAt ws k
        ·have hcz : ((caAt ws y : Int) == (caAt ws k : Int)) = true := by rw [hc]; simp
         have HCE := Lib.hid hc
         clear hc
         refine wp_region_K (by kernel_rfl) (lokS b6 (o6 + j) b5 (o5 + y * 2) (o5 + k * 2) (.int .i64 (y : Int)) (.int .i64 (caAt ws y : Int)) (.int .i64 (atAt ws y : Int)) (.int .i64 (caAt ws k : Int)) (.int .i64 (atAt ws k : Int))) (fun _ _ => true) ?_
         generalize wr.drew = X1 at *
         refine kF 3 0 rfl ?_
         refine kF 3 1 rfl ?_
         refine kF 3 2 rfl ?_
         refine kF 3 3 rfl ?_
         refine kF 3 4 rfl ?_
         refine kF 3 5 rfl ?_
         refine kT 0 6 rfl ?_
         refine kF 3 7 rfl ?_
         refine kF 3 8 rfl ?_
         refine kT 1 9 rfl ?_
         refine kF 3 10 rfl ?_
         refine kF 3 11 rfl ?_
         refine kF 3 12 rfl ?_
         refine kF 3 13 rfl ?_
         refine kT 2 14 rfl ?_
         refine kF 3 15 rfl ?_
         refine kF 3 16 rfl ?_
         refine kF 3 17 rfl ?_
         refine kF 3 18 rfl ?_
         refine kF 3 19 rfl ?_
         refine kF 3 20 rfl ?_
         refine kT 2 21 rfl ?_
         refine kF 3 22 rfl ?_
         refine kF 3 23 rfl ?_
         refine kF 3 24 rfl ?_
         refine kF 3 25 rfl ?_
         refine kT 0 26 rfl ?_
         refine kF 3 27 rfl ?_
         refine kF 3 28 rfl ?_
         refine kT 1 29 rfl ?_
         refine kF 3 30 rfl ?_
         refine kF 3 31 rfl ?_
         refine kF 3 32 rfl ?_
         refine kF 3 33 rfl ?_
         refine kD ?_
         clear s0 s1 s2
         go_wp2
         go_roundg ((pathN ws x).length - (j + 1))
         case measure => omega
         case rel => exact ⟨j + 1, by omega, by omega, by go_num, by rw [HAS.out, decide_eq_true HCE.out, Bool.false_or, Bool.true_and], HZ.out⟩
        ·have hcz : ((caAt ws y : Int) == (caAt ws k : Int)) = false := by simp; omega
         have HCE := Lib.hid hc
         clear hc
         refine wp_region_K (by kernel_rfl) (lokS b6 (o6 + j) b5 (o5 + y * 2) (o5 + k * 2) (.int .i64 (y : Int)) (.int .i64 (caAt ws y : Int)) (.int .i64 (atAt ws y : Int)) (.int .i64 (caAt ws k : Int)) (.int .i64 (atAt ws k : Int))) (fun _ _ => true) ?_
         generalize wr.drew = X1 at *
         refine kF 3 0 rfl ?_
         refine kF 3 1 rfl ?_
         refine kF 3 2 rfl ?_
         refine kF 3 3 rfl ?_
         refine kF 3 4 rfl ?_
         refine kF 3 5 rfl ?_
         refine kT 0 6 rfl ?_
         refine kF 3 7 rfl ?_
         refine kF 3 8 rfl ?_
         refine kT 1 9 rfl ?_
         refine kF 3 10 rfl ?_
         refine kF 3 11 rfl ?_
         refine kF 3 12 rfl ?_
         refine kF 3 13 rfl ?_
         refine kT 2 14 rfl ?_
         refine kF 3 15 rfl ?_
         refine kF 3 16 rfl ?_
         refine kS 3 17 rfl ?_
         refine kS 3 18 rfl ?_
         refine kS 3 19 rfl ?_
         refine kS 3 20 rfl ?_
         refine kS 3 21 rfl ?_
         refine kS 3 22 rfl ?_
         refine kS 3 23 rfl ?_
         refine kS 3 24 rfl ?_
         refine kS 3 25 rfl ?_
         refine kS 3 26 rfl ?_
         refine kS 3 27 rfl ?_
         refine kS 3 28 rfl ?_
         refine kS 3 29 rfl ?_
         refine kS 3 30 rfl ?_
         refine kF 3 31 rfl ?_
         refine kF 3 32 rfl ?_
         refine kF 3 33 rfl ?_
         refine kD ?_
         clear s0 s1 s2
         go_wp2
         go_roundg ((pathN ws x).length - (j + 1))
         case measure => omega
         case rel => exact ⟨j + 1, by omega, by omega, by go_num, by rw [HAS.out, decide_eq_false HCE.out]; rfl, HZ.out⟩
      ·have hjz : ¬ (j : Int) < ((pathN ws x).length : Int) := by omega
       obtain rfl : j = (pathN ws x).length := by omega
       obtain ⟨it, hit⟩ : ∃ b, itself ws x k = b := ⟨_, rfl⟩
       obtain ⟨ah, hah⟩ : ∃ b, ahTo ws x k (pathN ws x).length = b := ⟨_, rfl⟩
       have HIT := Lib.hid hit
       have HAH := Lib.hid (show ahead ws x k = ah from hah)
       have HIN : Hid (Calls Try.prog 124 #[.slice (some ⟨b6, o6, none⟩) (pathN ws x).length c6, .int .i64 (k : Int)] wr fun e w' => e = .returned (.bool it) ∧ Below wr.heap.size wr w') := by
        have hr : Rd wr wr.heap.size (some ⟨b6, o6, none⟩) (pathI ws x) := fun _ => ⟨b6, o6, rfl, by
         have h1 := lt_of_cell (HC3.out.1 0 HPb.out)
         have h2 := HG.out.sz
         dsimp only at h1
         omega, fun i hi => by
          rw [HPL.out] at hi
          rw [pathI, natI_at hi]
          exact HG.out.cell (HC3.out.1 i hi) HNE.out.1⟩
        have h := rIn_any (some ⟨b6, o6, none⟩) c6 (pathI ws x) (k : Int) wr hr (by have := pathN_len HI.out.2.1 HI.out.2.2; rw [HPL.out]; omega)
        rw [HPL.out, show (pathI ws x).contains (k : Int) = it from hit] at h
        exact Lib.hid h
       rw [hah]
       clear hah hit
       go_upto_region 23 with (go_at_call 124; refine HIN.out.mono ?_; rintro e X1 ⟨rfl, hb⟩; have HZ := Lib.hid (HG.out.on hb); clear hb)
       clear HG HIN
       cases ah <;> cases it
       ·go_upto_region 29 with fail
        have hbA := (Below.refl _ X1).alloc (Nat.le_refl _) (.cells #[.int .i64 (0)] 3)
        have HN := hd4 ((HZ.out.on hbA).oO.row (hatTo_length ws x k)) (World.news_of_block (cs := #[.int .i64 (0)]) (t := 3) (fr := (0, 0)) (World.alloc_heap_new X1 (.cells #[.int .i64 (0)] 3))) (HZ.out.on hbA).sz (HZ.out.on hbA)
        have g0 := cr 1 HZ.out.bx
        clear hbA
        go_upto_region 30 with (at_builtin; refine wpList_append_own_at _ rfl _ _ 25 rfl W3.heap.size 3 i0 (.int .i64 0) 1 8 Try.underlying25 hi0 hz0 hz1 hz2 rfl (by decide) (.slice AH k cH) k _ rfl HN.out.1 ⟨X1.heap.size, 0, none⟩ 1 1 [.int .i64 (0)] rfl (by simp) HN.out.2.1 (by simp [Value.oneCell']) (by unfold maxLen; omega) (by omega) HN.out.2.2.1 ?_; intro v' w9 hown1 hgrow _ hbk; have HP := Lib.hid (HN.out.2.2.2.appO (Own.of_row hown1 (hatTo_length ws x k)) hgrow hbk); obtain ⟨A9, c9, rfl⟩ := HP.out.oO.slice (n := k + 1) (by rw [List.length_append, hatTo_length]; rfl); have g9 := cr 1 HP.out.bx; have f9 := bf 1 HP.out.bx; clear hown1 hgrow hbk)
        have HZ2 := Lib.hid (HP.out.set (i := 1) (u := .slice A9 (k + 1) c9) (heap_setCell_same _ _ 1 _ _ _ HP.out.bx))
        clear g0 g9 f9 HN HP
        generalize w9.setCell ⟨w.heap.size + 1 + 1, 1, none⟩ (.slice A9 (k + 1) c9) = X2 at *
        have hbA := (Below.refl _ X2).alloc (Nat.le_refl _) (.cells #[.int .i64 (0)] 3)
        have HN := hd4 ((HZ2.out.on hbA).oT.row (reaTo_length ws x k)) (World.news_of_block (cs := #[.int .i64 (0)]) (t := 3) (fr := (0, 0)) (World.alloc_heap_new X2 (.cells #[.int .i64 (0)] 3))) (HZ2.out.on hbA).sz (HZ2.out.on hbA)
        have g0 := cr 2 HZ2.out.bx
        clear hbA
        go_wp2_with (at_builtin; refine wpList_append_own_at _ rfl _ _ 25 rfl W3.heap.size 3 i0 (.int .i64 0) 1 8 Try.underlying25 hi0 hz0 hz1 hz2 rfl (by decide) (.slice AR k cR) k _ rfl HN.out.1 ⟨X2.heap.size, 0, none⟩ 1 1 [.int .i64 (0)] rfl (by simp) HN.out.2.1 (by simp [Value.oneCell']) (by unfold maxLen; omega) (by omega) HN.out.2.2.1 ?_; intro v' w9 hown1 hgrow _ hbk; have HP := Lib.hid (HN.out.2.2.2.appT (Own.of_row hown1 (reaTo_length ws x k)) hgrow hbk); obtain ⟨A8, c8, rfl⟩ := HP.out.oT.slice (n := k + 1) (by rw [List.length_append, reaTo_length]; rfl); have g9 := cr 2 HP.out.bx; have f9 := bf 2 HP.out.bx; clear hown1 hgrow hbk)
        go_roundg ((outs ws).length - (k + 1))
        case measure => omega
        case rel => exact ⟨k + 1, by omega, by omega, by go_num, .slice A9 (k + 1) c9, .slice A8 (k + 1) c8, by
         have hp := HP.out.set (i := 2) (u := .slice A8 (k + 1) c8) (heap_setCell_same _ _ 2 _ _ _ HP.out.bx)
         have e := HSG.out
         unfold hatW reaW at e
         rw [HIT.out, HAH.out] at e
         rw [hatTo_succ, reaTo_succ, ← e.1, ← e.2]
         exact hp⟩
       ·go_upto_region 29 with fail
        have hbA := (Below.refl _ X1).alloc (Nat.le_refl _) (.cells #[.int .i64 (1)] 3)
        have HN := hd4 ((HZ.out.on hbA).oO.row (hatTo_length ws x k)) (World.news_of_block (cs := #[.int .i64 (1)]) (t := 3) (fr := (0, 0)) (World.alloc_heap_new X1 (.cells #[.int .i64 (1)] 3))) (HZ.out.on hbA).sz (HZ.out.on hbA)
        have g0 := cr 1 HZ.out.bx
        clear hbA
        go_upto_region 30 with (at_builtin; refine wpList_append_own_at _ rfl _ _ 25 rfl W3.heap.size 3 i0 (.int .i64 0) 1 8 Try.underlying25 hi0 hz0 hz1 hz2 rfl (by decide) (.slice AH k cH) k _ rfl HN.out.1 ⟨X1.heap.size, 0, none⟩ 1 1 [.int .i64 (1)] rfl (by simp) HN.out.2.1 (by simp [Value.oneCell']) (by unfold maxLen; omega) (by omega) HN.out.2.2.1 ?_; intro v' w9 hown1 hgrow _ hbk; have HP := Lib.hid (HN.out.2.2.2.appO (Own.of_row hown1 (hatTo_length ws x k)) hgrow hbk); obtain ⟨A9, c9, rfl⟩ := HP.out.oO.slice (n := k + 1) (by rw [List.length_append, hatTo_length]; rfl); have g9 := cr 1 HP.out.bx; have f9 := bf 1 HP.out.bx; clear hown1 hgrow hbk)
        have HZ2 := Lib.hid (HP.out.set (i := 1) (u := .slice A9 (k + 1) c9) (heap_setCell_same _ _ 1 _ _ _ HP.out.bx))
        clear g0 g9 f9 HN HP
        generalize w9.setCell ⟨w.heap.size + 1 + 1, 1, none⟩ (.slice A9 (k + 1) c9) = X2 at *
        have hbA := (Below.refl _ X2).alloc (Nat.le_refl _) (.cells #[.int .i64 (-1)] 3)
        have HN := hd4 ((HZ2.out.on hbA).oT.row (reaTo_length ws x k)) (World.news_of_block (cs := #[.int .i64 (-1)]) (t := 3) (fr := (0, 0)) (World.alloc_heap_new X2 (.cells #[.int .i64 (-1)] 3))) (HZ2.out.on hbA).sz (HZ2.out.on hbA)
        have g0 := cr 2 HZ2.out.bx
        clear hbA
        go_wp2_with (at_builtin; refine wpList_append_own_at _ rfl _ _ 25 rfl W3.heap.size 3 i0 (.int .i64 0) 1 8 Try.underlying25 hi0 hz0 hz1 hz2 rfl (by decide) (.slice AR k cR) k _ rfl HN.out.1 ⟨X2.heap.size, 0, none⟩ 1 1 [.int .i64 (-1)] rfl (by simp) HN.out.2.1 (by simp [Value.oneCell']) (by unfold maxLen; omega) (by omega) HN.out.2.2.1 ?_; intro v' w9 hown1 hgrow _ hbk; have HP := Lib.hid (HN.out.2.2.2.appT (Own.of_row hown1 (reaTo_length ws x k)) hgrow hbk); obtain ⟨A8, c8, rfl⟩ := HP.out.oT.slice (n := k + 1) (by rw [List.length_append, reaTo_length]; rfl); have g9 := cr 2 HP.out.bx; have f9 := bf 2 HP.out.bx; clear hown1 hgrow hbk)
        go_roundg ((outs ws).length - (k + 1))
        case measure => omega
        case rel => exact ⟨k + 1, by omega, by omega, by go_num, .slice A9 (k + 1) c9, .slice A8 (k + 1) c8, by
         have hp := HP.out.set (i := 2) (u := .slice A8 (k + 1) c8) (heap_setCell_same _ _ 2 _ _ _ HP.out.bx)
         have e := HSG.out
         unfold hatW reaW at e
         rw [HIT.out, HAH.out] at e
         rw [hatTo_succ, reaTo_succ, ← e.1, ← e.2]
         exact hp⟩
       ·go_upto_region 29 with fail
        have hbA := (Below.refl _ X1).alloc (Nat.le_refl _) (.cells #[.int .i64 (-1)] 3)
        have HN := hd4 ((HZ.out.on hbA).oO.row (hatTo_length ws x k)) (World.news_of_block (cs := #[.int .i64 (-1)]) (t := 3) (fr := (0, 0)) (World.alloc_heap_new X1 (.cells #[.int .i64 (-1)] 3))) (HZ.out.on hbA).sz (HZ.out.on hbA)
        have g0 := cr 1 HZ.out.bx
        clear hbA
        go_upto_region 30 with (at_builtin; refine wpList_append_own_at _ rfl _ _ 25 rfl W3.heap.size 3 i0 (.int .i64 0) 1 8 Try.underlying25 hi0 hz0 hz1 hz2 rfl (by decide) (.slice AH k cH) k _ rfl HN.out.1 ⟨X1.heap.size, 0, none⟩ 1 1 [.int .i64 (-1)] rfl (by simp) HN.out.2.1 (by simp [Value.oneCell']) (by unfold maxLen; omega) (by omega) HN.out.2.2.1 ?_; intro v' w9 hown1 hgrow _ hbk; have HP := Lib.hid (HN.out.2.2.2.appO (Own.of_row hown1 (hatTo_length ws x k)) hgrow hbk); obtain ⟨A9, c9, rfl⟩ := HP.out.oO.slice (n := k + 1) (by rw [List.length_append, hatTo_length]; rfl); have g9 := cr 1 HP.out.bx; have f9 := bf 1 HP.out.bx; clear hown1 hgrow hbk)
        have HZ2 := Lib.hid (HP.out.set (i := 1) (u := .slice A9 (k + 1) c9) (heap_setCell_same _ _ 1 _ _ _ HP.out.bx))
        clear g0 g9 f9 HN HP
        generalize w9.setCell ⟨w.heap.size + 1 + 1, 1, none⟩ (.slice A9 (k + 1) c9) = X2 at *
        have hbA := (Below.refl _ X2).alloc (Nat.le_refl _) (.cells #[.int .i64 (-1)] 3)
        have HN := hd4 ((HZ2.out.on hbA).oT.row (reaTo_length ws x k)) (World.news_of_block (cs := #[.int .i64 (-1)]) (t := 3) (fr := (0, 0)) (World.alloc_heap_new X2 (.cells #[.int .i64 (-1)] 3))) (HZ2.out.on hbA).sz (HZ2.out.on hbA)
        have g0 := cr 2 HZ2.out.bx
        clear hbA
        go_wp2_with (at_builtin; refine wpList_append_own_at _ rfl _ _ 25 rfl W3.heap.size 3 i0 (.int .i64 0) 1 8 Try.underlying25 hi0 hz0 hz1 hz2 rfl (by decide) (.slice AR k cR) k _ rfl HN.out.1 ⟨X2.heap.size, 0, none⟩ 1 1 [.int .i64 (-1)] rfl (by simp) HN.out.2.1 (by simp [Value.oneCell']) (by unfold maxLen; omega) (by omega) HN.out.2.2.1 ?_; intro v' w9 hown1 hgrow _ hbk; have HP := Lib.hid (HN.out.2.2.2.appT (Own.of_row hown1 (reaTo_length ws x k)) hgrow hbk); obtain ⟨A8, c8, rfl⟩ := HP.out.oT.slice (n := k + 1) (by rw [List.length_append, reaTo_length]; rfl); have g9 := cr 2 HP.out.bx; have f9 := bf 2 HP.out.bx; clear hown1 hgrow hbk)
        go_roundg ((outs ws).length - (k + 1))
        case measure => omega
        case rel => exact ⟨k + 1, by omega, by omega, by go_num, .slice A9 (k + 1) c9, .slice A8 (k + 1) c8, by
         have hp := HP.out.set (i := 2) (u := .slice A8 (k + 1) c8) (heap_setCell_same _ _ 2 _ _ _ HP.out.bx)
         have e := HSG.out
         unfold hatW reaW at e
         rw [HIT.out, HAH.out] at e
         rw [hatTo_succ, reaTo_succ, ← e.1, ← e.2]
         exact hp⟩
       ·go_upto_region 29 with fail
        have hbA := (Below.refl _ X1).alloc (Nat.le_refl _) (.cells #[.int .i64 (1)] 3)
        have HN := hd4 ((HZ.out.on hbA).oO.row (hatTo_length ws x k)) (World.news_of_block (cs := #[.int .i64 (1)]) (t := 3) (fr := (0, 0)) (World.alloc_heap_new X1 (.cells #[.int .i64 (1)] 3))) (HZ.out.on hbA).sz (HZ.out.on hbA)
        have g0 := cr 1 HZ.out.bx
        clear hbA
        go_upto_region 30 with (at_builtin; refine wpList_append_own_at _ rfl _ _ 25 rfl W3.heap.size 3 i0 (.int .i64 0) 1 8 Try.underlying25 hi0 hz0 hz1 hz2 rfl (by decide) (.slice AH k cH) k _ rfl HN.out.1 ⟨X1.heap.size, 0, none⟩ 1 1 [.int .i64 (1)] rfl (by simp) HN.out.2.1 (by simp [Value.oneCell']) (by unfold maxLen; omega) (by omega) HN.out.2.2.1 ?_; intro v' w9 hown1 hgrow _ hbk; have HP := Lib.hid (HN.out.2.2.2.appO (Own.of_row hown1 (hatTo_length ws x k)) hgrow hbk); obtain ⟨A9, c9, rfl⟩ := HP.out.oO.slice (n := k + 1) (by rw [List.length_append, hatTo_length]; rfl); have g9 := cr 1 HP.out.bx; have f9 := bf 1 HP.out.bx; clear hown1 hgrow hbk)
        have HZ2 := Lib.hid (HP.out.set (i := 1) (u := .slice A9 (k + 1) c9) (heap_setCell_same _ _ 1 _ _ _ HP.out.bx))
        clear g0 g9 f9 HN HP
        generalize w9.setCell ⟨w.heap.size + 1 + 1, 1, none⟩ (.slice A9 (k + 1) c9) = X2 at *
        have hbA := (Below.refl _ X2).alloc (Nat.le_refl _) (.cells #[.int .i64 (-1)] 3)
        have HN := hd4 ((HZ2.out.on hbA).oT.row (reaTo_length ws x k)) (World.news_of_block (cs := #[.int .i64 (-1)]) (t := 3) (fr := (0, 0)) (World.alloc_heap_new X2 (.cells #[.int .i64 (-1)] 3))) (HZ2.out.on hbA).sz (HZ2.out.on hbA)
        have g0 := cr 2 HZ2.out.bx
        clear hbA
        go_wp2_with (at_builtin; refine wpList_append_own_at _ rfl _ _ 25 rfl W3.heap.size 3 i0 (.int .i64 0) 1 8 Try.underlying25 hi0 hz0 hz1 hz2 rfl (by decide) (.slice AR k cR) k _ rfl HN.out.1 ⟨X2.heap.size, 0, none⟩ 1 1 [.int .i64 (-1)] rfl (by simp) HN.out.2.1 (by simp [Value.oneCell']) (by unfold maxLen; omega) (by omega) HN.out.2.2.1 ?_; intro v' w9 hown1 hgrow _ hbk; have HP := Lib.hid (HN.out.2.2.2.appT (Own.of_row hown1 (reaTo_length ws x k)) hgrow hbk); obtain ⟨A8, c8, rfl⟩ := HP.out.oT.slice (n := k + 1) (by rw [List.length_append, reaTo_length]; rfl); have g9 := cr 2 HP.out.bx; have f9 := bf 2 HP.out.bx; clear hown1 hgrow hbk)
        go_roundg ((outs ws).length - (k + 1))
        case measure => omega
        case rel => exact ⟨k + 1, by omega, by omega, by go_num, .slice A9 (k + 1) c9, .slice A8 (k + 1) c8, by
         have hp := HP.out.set (i := 2) (u := .slice A8 (k + 1) c8) (heap_setCell_same _ _ 2 _ _ _ HP.out.bx)
         have e := HSG.out
         unfold hatW reaW at e
         rw [HIT.out, HAH.out] at e
         rw [hatTo_succ, reaTo_succ, ← e.1, ← e.2]
         exact hp⟩
    ·have hkz : ¬ (k : Int) < ((outs ws).length : Int) := by omega
     obtain rfl : k = (outs ws).length := by omega
     have hq2 := show Blk wr (w.heap.size + 1) _ _ from (HF.out.md _ (by have := H3.out.2.2.2.2; omega) (by omega)).trans H3.out.2.2.1
     have a0 := cr 0 HF.out.bx
     have a1 := cr 1 HF.out.bx
     have a2 := cr 2 HF.out.bx
     have a3 := cr 3 HF.out.bx
     have y0 := bf 0 hq2
     have y1 := bf 1 hq2
     have y2 := bf 2 hq2
     have y3 := bf 3 hq2
     have z0 := cr 0 hq2
     have z1 := cr 1 hq2
     have z2 := cr 2 hq2
     have z3 := cr 3 hq2
     have HE := Lib.hid hq2
     clear hq2
     have HFin : Hid (Blk ((((wr.setCell ⟨w.heap.size + 1, 0, none⟩ (.slice AO (headsTo ws ws.length).length cO)).setCell ⟨w.heap.size + 1, 1, none⟩ (.slice AH (outs ws).length cH)).setCell ⟨w.heap.size + 1, 2, none⟩ (.slice AR (outs ws).length cR)).setCell ⟨w.heap.size + 1, 3, none⟩ (.int .i64 0)) (w.heap.size + 1) #[.slice AO (headsTo ws ws.length).length cO, .slice AH (outs ws).length cH, .slice AR (outs ws).length cR, .int .i64 0] 69 ∧ Rd ((((wr.setCell ⟨w.heap.size + 1, 0, none⟩ (.slice AO (headsTo ws ws.length).length cO)).setCell ⟨w.heap.size + 1, 1, none⟩ (.slice AH (outs ws).length cH)).setCell ⟨w.heap.size + 1, 2, none⟩ (.slice AR (outs ws).length cR)).setCell ⟨w.heap.size + 1, 3, none⟩ (.int .i64 0)) ((((wr.setCell ⟨w.heap.size + 1, 0, none⟩ (.slice AO (headsTo ws ws.length).length cO)).setCell ⟨w.heap.size + 1, 1, none⟩ (.slice AH (outs ws).length cH)).setCell ⟨w.heap.size + 1, 2, none⟩ (.slice AR (outs ws).length cR)).setCell ⟨w.heap.size + 1, 3, none⟩ (.int .i64 0)).heap.size AO (rivS ws x) ∧ Rd ((((wr.setCell ⟨w.heap.size + 1, 0, none⟩ (.slice AO (headsTo ws ws.length).length cO)).setCell ⟨w.heap.size + 1, 1, none⟩ (.slice AH (outs ws).length cH)).setCell ⟨w.heap.size + 1, 2, none⟩ (.slice AR (outs ws).length cR)).setCell ⟨w.heap.size + 1, 3, none⟩ (.int .i64 0)) ((((wr.setCell ⟨w.heap.size + 1, 0, none⟩ (.slice AO (headsTo ws ws.length).length cO)).setCell ⟨w.heap.size + 1, 1, none⟩ (.slice AH (outs ws).length cH)).setCell ⟨w.heap.size + 1, 2, none⟩ (.slice AR (outs ws).length cR)).setCell ⟨w.heap.size + 1, 3, none⟩ (.int .i64 0)).heap.size AH (hatS ws x) ∧ Rd ((((wr.setCell ⟨w.heap.size + 1, 0, none⟩ (.slice AO (headsTo ws ws.length).length cO)).setCell ⟨w.heap.size + 1, 1, none⟩ (.slice AH (outs ws).length cH)).setCell ⟨w.heap.size + 1, 2, none⟩ (.slice AR (outs ws).length cR)).setCell ⟨w.heap.size + 1, 3, none⟩ (.int .i64 0)) ((((wr.setCell ⟨w.heap.size + 1, 0, none⟩ (.slice AO (headsTo ws ws.length).length cO)).setCell ⟨w.heap.size + 1, 1, none⟩ (.slice AH (outs ws).length cH)).setCell ⟨w.heap.size + 1, 2, none⟩ (.slice AR (outs ws).length cR)).setCell ⟨w.heap.size + 1, 3, none⟩ (.int .i64 0)).heap.size AR (reaS ws x) ∧ Fresh w.heap.size AH ∧ Fresh w.heap.size AR ∧ Below w.heap.size w ((((wr.setCell ⟨w.heap.size + 1, 0, none⟩ (.slice AO (headsTo ws ws.length).length cO)).setCell ⟨w.heap.size + 1, 1, none⟩ (.slice AH (outs ws).length cH)).setCell ⟨w.heap.size + 1, 2, none⟩ (.slice AR (outs ws).length cR)).setCell ⟨w.heap.size + 1, 3, none⟩ (.int .i64 0))) := by
      have hg := H3.out.2.2.2.2
      have oth : ∀ k, k ≠ w.heap.size + 1 → ((((wr.setCell ⟨w.heap.size + 1, 0, none⟩ (.slice AO (headsTo ws ws.length).length cO)).setCell ⟨w.heap.size + 1, 1, none⟩ (.slice AH (outs ws).length cH)).setCell ⟨w.heap.size + 1, 2, none⟩ (.slice AR (outs ws).length cR)).setCell ⟨w.heap.size + 1, 3, none⟩ (.int .i64 0)).heap[k]? = wr.heap[k]? := fun k hk => (Below.heap_setCell _ _ _ _ hk).trans ((Below.heap_setCell _ _ _ _ hk).trans ((Below.heap_setCell _ _ _ _ hk).trans (Below.heap_setCell _ _ _ _ hk)))
      have h1 : Blk (wr.setCell ⟨w.heap.size + 1, 0, none⟩ (.slice AO (headsTo ws ws.length).length cO)) (w.heap.size + 1) #[.slice AO (headsTo ws ws.length).length cO, .slice none 0 0, .slice none 0 0, .int .i64 0] 69 := heap_setCell_same _ _ 0 _ _ _ HE.out
      have h2 : Blk ((wr.setCell ⟨w.heap.size + 1, 0, none⟩ (.slice AO (headsTo ws ws.length).length cO)).setCell ⟨w.heap.size + 1, 1, none⟩ (.slice AH (outs ws).length cH)) (w.heap.size + 1) #[.slice AO (headsTo ws ws.length).length cO, .slice AH (outs ws).length cH, .slice none 0 0, .int .i64 0] 69 := heap_setCell_same _ _ 1 _ _ _ h1
      have h3 : Blk (((wr.setCell ⟨w.heap.size + 1, 0, none⟩ (.slice AO (headsTo ws ws.length).length cO)).setCell ⟨w.heap.size + 1, 1, none⟩ (.slice AH (outs ws).length cH)).setCell ⟨w.heap.size + 1, 2, none⟩ (.slice AR (outs ws).length cR)) (w.heap.size + 1) #[.slice AO (headsTo ws ws.length).length cO, .slice AH (outs ws).length cH, .slice AR (outs ws).length cR, .int .i64 0] 69 := heap_setCell_same _ _ 2 _ _ _ h2
      have hO : Own ((((wr.setCell ⟨w.heap.size + 1, 0, none⟩ (.slice AO (headsTo ws ws.length).length cO)).setCell ⟨w.heap.size + 1, 1, none⟩ (.slice AH (outs ws).length cH)).setCell ⟨w.heap.size + 1, 2, none⟩ (.slice AR (outs ws).length cR)).setCell ⟨w.heap.size + 1, 3, none⟩ (.int .i64 0)) W3.heap.size (.slice AH (outs ws).length cH) (hatTo ws x (outs ws).length) := HF.out.oO.blk (fun k e => oth k (by have := (HF.out.oO.blkIs e).1; omega))
      have hT : Own ((((wr.setCell ⟨w.heap.size + 1, 0, none⟩ (.slice AO (headsTo ws ws.length).length cO)).setCell ⟨w.heap.size + 1, 1, none⟩ (.slice AH (outs ws).length cH)).setCell ⟨w.heap.size + 1, 2, none⟩ (.slice AR (outs ws).length cR)).setCell ⟨w.heap.size + 1, 3, none⟩ (.int .i64 0)) W3.heap.size (.slice AR (outs ws).length cR) (reaTo ws x (outs ws).length) := HF.out.oT.blk (fun k e => oth k (by have := (HF.out.oT.blkIs e).1; omega))
      obtain ⟨A8, c8, e8, r8, f8⟩ := hO.rd
      rw [hatTo_length] at e8
      cases e8
      obtain ⟨A7, c7, e7, r7, f7⟩ := hT.rd
      rw [reaTo_length] at e7
      cases e7
      have hr : Rd ((((wr.setCell ⟨w.heap.size + 1, 0, none⟩ (.slice AO (headsTo ws ws.length).length cO)).setCell ⟨w.heap.size + 1, 1, none⟩ (.slice AH (outs ws).length cH)).setCell ⟨w.heap.size + 1, 2, none⟩ (.slice AR (outs ws).length cR)).setCell ⟨w.heap.size + 1, 3, none⟩ (.int .i64 0)) ((((wr.setCell ⟨w.heap.size + 1, 0, none⟩ (.slice AO (headsTo ws ws.length).length cO)).setCell ⟨w.heap.size + 1, 1, none⟩ (.slice AH (outs ws).length cH)).setCell ⟨w.heap.size + 1, 2, none⟩ (.slice AR (outs ws).length cR)).setCell ⟨w.heap.size + 1, 3, none⟩ (.int .i64 0)).heap.size AO (rivS ws x) := fun hp => by
       obtain ⟨b9, o9, e9, hl9, hc9⟩ := H3.out.2.2.2.1.1 hp
       have hf9 := H3.out.2.2.2.1.2 _ e9
       dsimp only at hf9
       refine ⟨b9, o9, e9, ?_, fun i hi => ?_⟩
       ·simp only [World.size_setCell]
        exact Nat.lt_of_lt_of_le hl9 HF.out.sz
       ·exact (cell_of_heap (oth b9 (by omega))).trans (HF.out.cell (hc9 i hi) (by show b9 ≠ _; omega))
      have hbw := H3.out.2.1.trans (HF.out.bl.mono (by omega : w.heap.size ≤ w.heap.size + 1 + 1))
      exact Lib.hid ⟨heap_setCell_same _ _ 3 _ _ _ h3, hr, r8, r7, f8.mono (by omega), f7.mono (by omega), (((hbw.setCell (p := ⟨w.heap.size + 1, 0, none⟩) (by show w.heap.size ≤ w.heap.size + 1; omega) _).setCell (p := ⟨w.heap.size + 1, 1, none⟩) (by show w.heap.size ≤ w.heap.size + 1; omega) _).setCell (p := ⟨w.heap.size + 1, 2, none⟩) (by show w.heap.size ≤ w.heap.size + 1; omega) _).setCell (p := ⟨w.heap.size + 1, 3, none⟩) (by show w.heap.size ≤ w.heap.size + 1; omega) _⟩
     go_wp2
     have v0 := cr 0 HFin.out.1
     have v1 := cr 1 HFin.out.1
     have v2 := cr 2 HFin.out.1
     have v3 := cr 3 HFin.out.1
     generalize (((wr.setCell ⟨w.heap.size + 1, 0, none⟩ (.slice AO (headsTo ws ws.length).length cO)).setCell ⟨w.heap.size + 1, 1, none⟩ (.slice AH (outs ws).length cH)).setCell ⟨w.heap.size + 1, 2, none⟩ (.slice AR (outs ws).length cR)).setCell ⟨w.heap.size + 1, 3, none⟩ (.int .i64 0) = wz at *
     exact bodyPost_ret (v := .agg #[.slice AO (headsTo ws ws.length).length cO, .slice AH (outs ws).length cH, .slice AR (outs ws).length cR, .int .i64 0]) (by simp [results, Try.results101, go_sem, v0, v1, v2, v3]) rfl ⟨AO, cO, AH, cH, AR, ⟨cR, rfl⟩, ⟨HFin.out.2.1, HFin.out.2.2.1, HFin.out.2.2.2.1⟩, ⟨fun a e => Nat.le_trans (by omega) (H3.out.2.2.2.1.2 a e), HFin.out.2.2.2.2.1, HFin.out.2.2.2.2.2.1⟩, HFin.out.2.2.2.2.2.2⟩
end Go.Proofs.Ytdadoelajhemjaa
