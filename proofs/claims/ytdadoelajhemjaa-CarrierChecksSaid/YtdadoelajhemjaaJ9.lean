/- Walks: the specification's Path. -/
import Derived.Test.YtdadoelajhemjaaJ7
import Derived.Test.YtdadoelajhemjaaJ6
import Derived.Test.YtdadoelajhemjaaE2
namespace Go.Proofs.Ytdadoelajhemjaa
open Go.RowKit Go.Shelf

set_option maxRecDepth 100000 in
set_option maxHeartbeats 3200000 in
theorem rPath0_any (A : Option Addr) (c : Nat) (ws : List Car) (id : Int) (w : World) (h : Wk w A ws) :
  Calls Try.prog 71 #[.agg #[.slice A ws.length c], .int .i64 id] w fun e w' => ∃ A' c', e = .returned (.agg #[.slice A' (sgL ws id ptX).length c', .int .i64 (sigE ws id)]) ∧ Rd w' w'.heap.size A' (sgL ws id ptX) ∧ Below w.heap.size w w' := by
 obtain ⟨i0, hi0, hz0, hz1, hz2⟩ := info_parts info3
 have hb : Below w.heap.size w (((w.alloc (.cells #[.slice A ws.length c] 24))).alloc (.cells #[.slice none 0 0, .int .i64 0] 45)) := ((Below.refl _ w).alloc (Nat.le_refl _) _).alloc (by simp) _
 have K := Lib.hid ((((stays_bl hb).and (stays_blk (blk_alloc (blk_new w #[.slice A ws.length c] 24 rfl) _))).and (stays_wk (h.ext hb))).and (stays_blk (g := (w.heap.size + 1)) (blk_new ((w.alloc (.cells #[.slice A ws.length c] 24))) #[.slice none 0 0, .int .i64 0] 45 (by simp))))
 have HS0 := Lib.hid (show (w.heap.size + 1) < (((w.alloc (.cells #[.slice A ws.length c] 24))).alloc (.cells #[.slice none 0 0, .int .i64 0] 45)).heap.size by simp)
 clear hb h
 have HC := Lib.hid (fun W hW => rKnown_any A c ws id W hW)
 by_cases h0 : sigE ws id = 0
 rotate_left
 ·rw [sgL_no h0]
  generalize sigE ws id = E at *
  generalize knI ws id = KN at *
  have hz : (E != 0) = true := by simpa using h0
  clear h0
  go_enter Try.func71, Try.ntmps71
  go_upto_region 1 with fail
  generalize ((w.alloc (.cells #[.slice A ws.length c] 24))).alloc (.cells #[.slice none 0 0, .int .i64 0] 45) = W0 at *
  have p0 := cr 0 K.out.1.1.1.2
  go_wp2_with first
   | (go_at_call 104; refine (HC.out _ K.out.1.1.2).mono ?_; rintro e w1 ⟨rfl, hb⟩; have K1 := Lib.hid (K.out.on hb); clear hb)
   | (refine wpList_store_mid rfl 45 (.tmp 4) (.tmp 20) rfl (w.heap.size + 1) 0 _ rfl rfl (show World.there _ _ 0 2 from blk_there K1.out.1.2) (by kernel_rfl) (by simp [Value.oneCell']) ?_)
  have hBF := setCells_blk K1.out.1.2 [.slice none 0 0, .int .i64 E] rfl
  exact bodyPost_ret (results_cell1 Try.results71 _ _ ⟨(w.heap.size + 1), 0, none⟩ _ (by rfl) (run_loadVar_mid _ _ 0 _ _ _ (blk_range hBF) Try.underlying45 rfl (by kernel_rfl))) rfl
   ⟨none, 0, rfl, fun hn => absurd hn (by simp), setCells_below (by omega) _ _ _ K1.out.1.1.1.1⟩
 obtain ⟨g, x, hx, hxl, hl⟩ := sig_zero h0
 rw [hl]
 rw [show knI ws id = (x : Int) by unfold knI; rw [if_pos h0, hx]; rfl, h0] at HC
 rw [h0]
 clear hl h0 hx
 go_enter Try.func71, Try.ntmps71
 go_upto_region 1 with fail
 generalize ((w.alloc (.cells #[.slice A ws.length c] 24))).alloc (.cells #[.slice none 0 0, .int .i64 0] 45) = W0 at *
 have p0 := cr 0 K.out.1.1.1.2
 go_upto_region 4 with (go_at_call 104; refine (HC.out _ K.out.1.1.2).mono ?_; rintro e w1 ⟨rfl, hb⟩; have K1 := Lib.hid (K.out.on hb); have H1 := Lib.hid hb; clear hb)
 clear p0
 have p0 := cr 0 K1.out.1.1.1.2
 go_upto_region 5 with (go_at_call 90; refine (rOutlets_any A c ws _ K1.out.1.1.2).mono ?_; rintro e w3 ⟨A5, c5, rfl, hro, -, hb⟩; have K2 := Lib.hid (K1.out.on hb); have HRO := Lib.hid hro; have H2 := Lib.hid (Nat.lt_of_lt_of_le (Nat.lt_of_lt_of_le HS0.out H1.out.size) hb.size); clear hb hro)
 clear p0
 have p0 := cr 0 K2.out.1.1.1.2
 have HPA := Lib.hid (rPath_any A c ws x hxl w3 K2.out.1.1.2 g)
 go_wp2_with (go_at_call 121; refine HPA.out.mono ?_; rintro e w4 ⟨A8, c8, rfl, hrp, -, hb⟩; have K3 := Lib.hid (K2.out.on hb); have HRP := Lib.hid hrp; have HB4 := Lib.hid hb; have H4 := Lib.hid (Nat.lt_of_lt_of_le H2.out hb.size); clear hb hrp)
 clear p0
 have hlp : (pathN ws x).length ≤ 1000 := by
  have h1 := upList_len g _ x rfl
  have h2 := caAt_lt hxl
  have h3 := K3.out.1.1.2.n1
  unfold pathN
  rw [List.length_reverse]
  omega
 have hpl : (pathI ws x).length = (pathN ws x).length := natI_length _
 rw [hpl]
 have HPL := Lib.hid hpl
 have HG := hd2 g hxl
 clear hpl g hxl
 go_loopg [9, 10] (pathN ws x).length (fun gg s i wr => ∃ t : Nat, t ≤ (pathN ws x).length ∧ (pathN ws x).length - t ≤ gg ∧ i = .int .i64 t ∧ ∃ A2 c2, s = .slice A2 t c2 ∧ Aside (Below w4.heap.size w4 wr ∧ Own wr w4.heap.size (.slice A2 t c2) (ptTo ws x t)))
 case atStart => exact ⟨0, Nat.zero_le _, by omega, rfl, none, 0, rfl, Below.refl _ _, Own.nil _ _⟩
 case round =>
  obtain ⟨t, ht, hgg, rfl, A2, c2, rfl, hA⟩ := hrel
  have HA := Lib.hid hA.out
  clear hA
  have K5 := Lib.hid (K3.out.on HA.out.1)
  by_cases hlt : t < (pathN ws x).length
  ·have hltz : (t : Int) < ((pathN ws x).length : Int) := by omega
   have hy := path_lt HG.out.1 HG.out.2 hlt
   have hs := ptTo_succ (ws := ws) hlt
   have hln := ptTo_length (ws := ws) (x := x) ht
   obtain ⟨b8, o8, rfl, lb8, hc8⟩ := HRP.out (by rw [HPL.out]; omega)
   have q1 := cell_below HA.out.1 (hc8 t (by rw [HPL.out]; exact hlt))
   rw [show nth (pathI ws x) t = (((pathN ws x).getD t 0 : Nat) : Int) from natI_at hlt] at q1
   generalize hyy : (pathN ws x).getD t 0 = y at *
   obtain ⟨b, off, rfl, lb, ho⟩ := HRO.out (by omega)
   have k1 := cell_below HA.out.1 (cell_below HB4.out (ho y hy).c0)
   have hyz : (y : Int) < ((outs ws).length : Int) := by omega
   have hbA := (Below.refl _ wr).alloc (Nat.le_refl _) (.cells #[.int .i64 (oAt (outs ws) y).id] 3)
   have HN := hd4 ((HA.out.2.later hbA).row hln) (World.news_of_block (cs := #[.int .i64 (oAt (outs ws) y).id]) (t := 3) (fr := (0, 0)) (World.alloc_heap_new wr (.cells #[.int .i64 (oAt (outs ws) y).id] 3))) (Nat.le_trans HA.out.1.size hbA.size) hbA
   have HS := hd2 hs hln
   clear ho hbA hs hln hc8 hyy
   go_wp2_with (at_builtin; refine wpList_append_own_at _ rfl _ _ 25 rfl w4.heap.size 3 i0 (.int .i64 0) 1 8 Try.underlying25 hi0 hz0 hz1 hz2 rfl (by decide) (.slice A2 t c2) t _ rfl HN.out.1 ⟨wr.heap.size, 0, none⟩ 1 1 [.int .i64 (oAt (outs ws) y).id] rfl (by simp) HN.out.2.1 (by simp [Value.oneCell']) (by unfold maxLen; omega) (by omega) HN.out.2.2.1 ?_; intro v' w9 hown1 hgrow _ _; have hO9 := Own.of_row hown1 HS.out.2; have HP9 := hd2 hO9 hgrow; clear hO9 hown1 hgrow)
   obtain ⟨A', c', rfl⟩ := HP9.out.1.slice (n := t + 1) (by rw [List.length_append, HS.out.2]; rfl)
   go_wp2
   go_roundg ((pathN ws x).length - (t + 1))
   case measure => omega
   case rel => exact ⟨t + 1, by omega, by omega, by go_num, A', c', rfl, by rw [HS.out.1]; exact (show _ ∧ _ from ⟨(HA.out.1.trans (HN.out.2.2.2.mono HA.out.1.size)).grown HP9.out.2 (Nat.le_trans HA.out.1.size HN.out.2.2.2.size) (fun k e => (HA.out.2.blkIs e).1), HP9.out.1⟩)⟩
  ·have hltz : ¬ (t : Int) < ((pathN ws x).length : Int) := by omega
   obtain rfl : t = (pathN ws x).length := by omega
   obtain ⟨B2, d2, e2, rd2, fr2⟩ := HA.out.2.rd
   rw [ptTo_all] at e2 rd2
   have hle : (ptX ws x).length = (pathN ws x).length := by unfold ptX; rw [List.length_map]
   rw [hle] at e2
   simp only [Value.slice.injEq, true_and] at e2
   obtain ⟨rfl, rfl⟩ := e2
   have HE := hd3 rd2 fr2 hle
   clear rd2 fr2 hle
   go_wp2_with (refine wpList_store_mid rfl 45 (.tmp 4) (.tmp 44) rfl (w.heap.size + 1) 0 _ rfl rfl (show World.there _ _ 0 2 from blk_there K5.out.1.2) (by kernel_rfl) (by simp [Value.oneCell']) ?_)
   have hBF := setCells_blk K5.out.1.2 [.slice A2 (pathN ws x).length c2, .int .i64 0] rfl
   have hrd := rd_setCells (o := 0) (vs := [.slice A2 (pathN ws x).length c2, .int .i64 0]) HE.out.1 HE.out.2.1 H4.out
   exact bodyPost_ret (results_cell1 Try.results71 _ _ ⟨(w.heap.size + 1), 0, none⟩ _ (by rfl) (run_loadVar_mid _ _ 0 _ _ _ (blk_range hBF) Try.underlying45 rfl (by kernel_rfl))) rfl
    ⟨A2, ⟨c2, by rw [HE.out.2.2]⟩, hrd, setCells_below (by omega) _ _ _ K5.out.1.1.1.1⟩
end Go.Proofs.Ytdadoelajhemjaa
