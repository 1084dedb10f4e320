/- Walks: Path. -/
import Derived.Test.YtdadoelajhemjaaJ2
import Derived.Test.YtdadoelajhemjaaB3
namespace Go.Proofs.Ytdadoelajhemjaa
open Go.RowKit Go.Shelf

/-- The IDs of the outlets of a path. -/
def ptX (ws : List Car) (x : Nat) : List Int := (pathN ws x).map fun i => (oAt (outs ws) i).id
def ptTo (ws : List Car) (x t : Nat) : List Int := ((pathN ws x).take t).map fun i => (oAt (outs ws) i).id
theorem ptTo_length {ws : List Car} {x t : Nat} (h : t ≤ (pathN ws x).length) : (ptTo ws x t).length = t := by unfold ptTo; rw [List.length_map, List.length_take]; omega
theorem ptTo_all (ws : List Car) (x : Nat) : ptTo ws x (pathN ws x).length = ptX ws x := by unfold ptTo ptX; rw [List.take_length]
theorem ptTo_succ {ws : List Car} {x t : Nat} (h : t < (pathN ws x).length) : ptTo ws x (t + 1) = ptTo ws x t ++ [(oAt (outs ws) ((pathN ws x).getD t 0)).id] := by
 unfold ptTo
 rw [List.take_add_one, List.map_append, List.getElem?_eq_getElem h, List.getD_eq_getElem?_getD, List.getElem?_eq_getElem h]
 rfl
theorem path_lt {ws : List Car} (g : Good ws) {x t : Nat} (hx : x < (outs ws).length) (h : t < (pathN ws x).length) : (pathN ws x).getD t 0 < (outs ws).length := by
 rw [List.getD_eq_getElem?_getD, List.getElem?_eq_getElem h]
 exact upList_mem g _ x rfl hx _ (List.mem_reverse.1 (List.getElem_mem h))
theorem field_id (o : Ot) (w : World) : (Instr.field 42 (.agg #[.int .i64 o.id, .int .i64 o.into, .slice o.P o.ps.length o.c, .int .i64 o.kl, .int .i64 o.kh, .int .i64 o.sl, .int .i64 o.sh]) 0).run Try.prog w = .ok (.int .i64 o.id) w := by kernel_rfl
set_option maxRecDepth 100000 in
set_option maxHeartbeats 1600000 in
theorem Path_any (A : Option Addr) (c : Nat) (ws : List Car) (id : Int) (w : World) (h : Wk w A ws) :
  Calls Try.prog 70 #[.agg #[.slice A ws.length c], .int .i64 id] w fun e w' => ∃ A' c', e = .returned (.tuple #[.slice A' (sgL ws id ptX).length c', .int .i64 (sigE ws id)]) ∧ Rd w' w'.heap.size A' (sgL ws id ptX) ∧ Below w.heap.size w w' := by
 obtain ⟨i0, hi0, hz0, hz1, hz2⟩ := info_parts info3
 have hb : Below w.heap.size w (w.alloc (.cells #[.slice A ws.length c] 24)) := (Below.refl _ w).alloc (Nat.le_refl _) _
 have K := Lib.hid (((stays_bl hb).and (stays_blk (blk_new w #[.slice A ws.length c] 24 rfl))).and (stays_wk (h.ext hb)))
 clear hb h
 have HC := Lib.hid (fun W hW => Check_any A c ws W hW)
 have HF := Lib.hid (fun W hW => find_any A c ws id W hW)
 by_cases h0 : sigE ws id = 0
 rotate_left
 ·rw [sgL_no h0]
  by_cases hc : checkE ws = 0
  ·have hx : idxO ws id = none := by
    cases e : idxO ws id with
    | none => rfl
    | some x => exact absurd (by unfold sigE; rw [if_pos hc, e]; rfl) h0
   have h5 : sigE ws id = 5 := by unfold sigE; rw [if_pos hc, hx]; rfl
   rw [h5]
   clear h0 h5
   have HX := hd2 hc hx
   clear hc hx
   go_enter Try.func70, Try.ntmps70
   go_upto_region 1 with fail
   generalize w.alloc (.cells #[.slice A ws.length c] 24) = W0 at *
   have p0 := cr 0 K.out.1.1.2
   go_upto_region 4 with (go_at_call 74; refine (HC.out _ K.out.1.2).mono ?_; rw [HX.out.1]; rintro e w1 ⟨rfl, hb⟩; have K1 := Lib.hid (K.out.on hb); clear hb)
   clear p0
   have p0 := cr 0 K1.out.1.1.2
   go_upto_region 5 with (go_at_call 102; refine (HF.out _ K1.out.1.2).mono ?_; rw [HX.out.2]; rintro e w2 ⟨rfl, hb⟩; dsimp only [plO, plV, Option.isSome]; have K2 := Lib.hid (K1.out.on hb); clear hb)
   have K3 := Lib.hid (K2.out.on ((Below.refl _ w2).alloc (Nat.le_refl _) (.cells #[.int .i64 0, .int .i64 0, .int .i64 0] 131)))
   generalize w2.alloc (.cells #[.int .i64 0, .int .i64 0, .int .i64 0] 131) = w3 at *
   go_wp2
   go_ret2
   exact ⟨none, 0, rfl, Rd.nil, K3.out.1.1.1⟩
  ·have hE : sigE ws id = checkE ws := if_neg hc
   rw [hE]
   clear h0 hE
   generalize checkE ws = E at *
   have hz : (E != 0) = true := by simpa using hc
   clear hc
   go_enter Try.func70, Try.ntmps70
   go_upto_region 1 with fail
   generalize w.alloc (.cells #[.slice A ws.length c] 24) = W0 at *
   have p0 := cr 0 K.out.1.1.2
   go_wp2_with (go_at_call 74; refine (HC.out _ K.out.1.2).mono ?_; rintro e w1 ⟨rfl, hb⟩; have K1 := Lib.hid (K.out.on hb); clear hb)
   go_ret2
   exact ⟨none, 0, rfl, Rd.nil, K1.out.1.1.1⟩
 obtain ⟨g, x, hx, hxl, hl⟩ := sig_zero h0
 rw [hl, h0]
 have hc : checkE ws = 0 := by
  by_cases hc : checkE ws = 0
  ·exact hc
  ·unfold sigE at h0; rw [if_neg hc] at h0; exact h0
 have HP := Lib.hid (fun W hW => path_any A c ws x hxl W hW g)
 have HO := Lib.hid (fun y hy W hW => outlet_any A c ws y hy W hW)
 have HX := hd4 hc hx g hxl
 clear hl h0 hc hx g hxl
 dsimp only [pl, plV] at HP
 go_enter Try.func70, Try.ntmps70
 go_upto_region 1 with fail
 generalize w.alloc (.cells #[.slice A ws.length c] 24) = W0 at *
 have p0 := cr 0 K.out.1.1.2
 go_upto_region 4 with (go_at_call 74; refine (HC.out _ K.out.1.2).mono ?_; rw [HX.out.1]; rintro e w1 ⟨rfl, hb⟩; have K1 := Lib.hid (K.out.on hb); clear hb)
 clear p0
 have p0 := cr 0 K1.out.1.1.2
 go_upto_region 5 with (go_at_call 102; refine (HF.out _ K1.out.1.2).mono ?_; rw [HX.out.2.1]; rintro e w2 ⟨rfl, hb⟩; dsimp only [plO, plV, pl, Option.isSome]; have K2 := Lib.hid (K1.out.on hb); clear hb)
 clear p0
 have K3 := Lib.hid ((K2.out.on ((Below.refl _ w2).alloc (Nat.le_refl _) (.cells #[.int .i64 (x : Int), .int .i64 (caAt ws x : Int), .int .i64 (atAt ws x : Int)] 131))).and (stays_blk (blk_new w2 #[.int .i64 (x : Int), .int .i64 (caAt ws x : Int), .int .i64 (atAt ws x : Int)] 131 rfl)))
 generalize w2.alloc (.cells #[.int .i64 (x : Int), .int .i64 (caAt ws x : Int), .int .i64 (atAt ws x : Int)] 131) = w3 at *
 generalize w2.heap.size = g9 at *
 have p0 := cr 0 K3.out.1.1.1.2
 have z0 := cr 0 K3.out.1.2
 have z1 := cr 1 K3.out.1.2
 have z2 := cr 2 K3.out.1.2
 go_wp2_with (go_at_call 99; refine (HP.out _ K3.out.1.1.2).mono ?_; rintro e w4 ⟨A1, c1, rfl, r1, -, hb⟩; have K4 := Lib.hid (K3.out.on hb); have HR1 := Lib.hid r1; clear hb r1)
 clear p0 z0 z1 z2 HC HF HP
 have hlp : (pathN ws x).length ≤ 1000 := by
  have h1 := upList_len HX.out.2.2.1 _ x rfl
  have h2 := caAt_lt HX.out.2.2.2
  have h3 := K4.out.1.1.2.n1
  unfold pathN
  rw [List.length_reverse]
  omega
 go_loopg [9, 29] (pathN ws x).length (fun gg s i wr => ∃ t : Nat, t ≤ (pathN ws x).length ∧ (pathN ws x).length - t ≤ gg ∧ i = .int .i64 t ∧ ∃ A2 c2, s = .slice A2 t c2 ∧ Aside (Below w4.heap.size w4 wr ∧ Own wr w4.heap.size (.slice A2 t c2) (ptTo ws x t)))
 case atStart => exact ⟨0, Nat.zero_le _, by omega, rfl, none, 0, rfl, Below.refl _ _, Own.nil _ _⟩
 case round =>
  obtain ⟨t, ht, hgg, rfl, A2, c2, rfl, hA⟩ := hrel
  have HA := Lib.hid hA.out
  clear hA
  have K5 := Lib.hid (K4.out.on HA.out.1)
  by_cases hlt : t < (pathN ws x).length
  ·have hltz : (t : Int) < ((pathN ws x).length : Int) := by omega
   have hy := path_lt HX.out.2.2.1 HX.out.2.2.2 hlt
   have hs := ptTo_succ (ws := ws) hlt
   have hln := ptTo_length (ws := ws) (x := x) ht
   obtain ⟨b, off, e1, hbl, hc⟩ := (HR1.out.ext HA.out.1) (by rw [List.length_map]; omega)
   have hp := hc t (by rw [List.length_map]; exact hlt)
   rw [show pAt ((pathN ws x).map (pl ws)) t = pl ws ((pathN ws x).getD t 0) by unfold pAt; simp [List.getD_eq_getElem?_getD, List.getElem?_eq_getElem hlt]] at hp
   subst e1
   generalize hyy : (pathN ws x).getD t 0 = y at *
   have q0 := hp.c0
   have q1 := hp.c1
   have q2 := hp.c2
   dsimp only [pl] at q0 q1 q2
   have hb6 := (Below.refl _ wr).alloc (Nat.le_refl _) (.cells #[.int .i64 (y : Int), .int .i64 (caAt ws y : Int), .int .i64 (atAt ws y : Int)] 131)
   have HOY := Lib.hid (HO.out y hy _ (K5.out.on hb6).1.1.2)
   have HB6 := Lib.hid hb6
   have HS := hd2 hs hln
   have p0 := cr 0 (K5.out.on HB6.out).1.1.1.2
   clear hp hc hy hs hln hb6 hyy
   dsimp only [pl, plV] at HOY
   have hfi := fun w => field_id (oAt (outs ws) y) w
   go_wp2_with first
    | (go_at_call 94; go_loud (refine HOY.out.mono ?_; rintro e w5 ⟨rfl, hb⟩; dsimp only [Ot.v]; have hbA := (Below.refl _ w5).alloc (Nat.le_refl _) (.cells #[.int .i64 (oAt (outs ws) y).id] 3); have hown : Own (w5.alloc (.cells #[.int .i64 (oAt (outs ws) y).id] 3)) w4.heap.size (.slice A2 t c2) (ptTo ws x t) := (HA.out.2.later (HB6.out.trans (hb.mono HB6.out.size))).later hbA; have HN := hd4 (hown.row HS.out.2) (World.news_of_block (cs := #[.int .i64 (oAt (outs ws) y).id]) (t := 3) (fr := (0, 0)) (World.alloc_heap_new w5 (.cells #[.int .i64 (oAt (outs ws) y).id] 3))) (Nat.le_trans HA.out.1.size (Nat.le_trans HB6.out.size (Nat.le_trans hb.size hbA.size))) (HB6.out.trans ((hb.trans (hbA.mono hb.size)).mono HB6.out.size)); clear hbA hown hb))
    | (at_builtin; go_loud (refine wpList_append_own_at _ rfl _ _ 25 rfl w4.heap.size 3 i0 (.int .i64 0) 1 8 Try.underlying25 hi0 hz0 hz1 hz2 rfl (by decide) (.slice A2 t c2) t _ rfl HN.out.1 ⟨w5.heap.size, 0, none⟩ 1 1 [.int .i64 (oAt (outs ws) y).id] rfl (by simp) HN.out.2.1 (by simp [Value.oneCell']) (by unfold maxLen; omega) (by omega) HN.out.2.2.1 ?_; intro v' w9 hown1 hgrow _ _; have hO9 := Own.of_row hown1 HS.out.2; have HP9 := hd2 hO9 hgrow; clear hO9 hown1 hgrow))
   obtain ⟨A', c', rfl⟩ := HP9.out.1.slice (n := t + 1) (by rw [List.length_append, HS.out.2]; rfl)
   go_wp2
   go_roundg ((pathN ws x).length - (t + 1))
   case measure => omega
   case rel => exact ⟨t + 1, by omega, by omega, by go_num, A', c', rfl, by rw [HS.out.1]; exact (show _ ∧ _ from ⟨(HA.out.1.trans (HN.out.2.2.2.mono HA.out.1.size)).grown HP9.out.2 (Nat.le_trans HA.out.1.size HN.out.2.2.2.size) (fun k e => (HA.out.2.blkIs e).1), HP9.out.1⟩)⟩
  ·have hltz : ¬ (t : Int) < ((pathN ws x).length : Int) := by omega
   obtain rfl : t = (pathN ws x).length := by omega
   obtain ⟨B2, d2, e2, rd2, fr2⟩ := HA.out.2.rd
   rw [ptTo_all] at e2 rd2
   have hle : (ptX ws x).length = (pathN ws x).length := by unfold ptX; rw [List.length_map]
   rw [hle] at e2
   simp only [Value.slice.injEq, true_and] at e2
   obtain ⟨rfl, rfl⟩ := e2
   have HE := hd3 rd2 hle K5.out.1.1.1.1
   clear rd2 fr2 hle
   go_wp2
   exact bodyPost_ret (v := .tuple #[.slice A2 (pathN ws x).length c2, .int .i64 0]) (by simp [results, Try.results70, go_sem]) rfl ⟨A2, ⟨c2, by rw [HE.out.2.1]⟩, HE.out.1, HE.out.2.2⟩
end Go.Proofs.Ytdadoelajhemjaa
