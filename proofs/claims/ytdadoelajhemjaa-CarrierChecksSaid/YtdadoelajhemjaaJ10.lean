/- Walks: the specification's Below. -/
import Derived.Test.YtdadoelajhemjaaJ9
namespace Go.Proofs.Ytdadoelajhemjaa
open Go.RowKit Go.Shelf

theorem in_path (ws : List Car) (t x : Nat) : (pathI ws t).contains (x : Int) = decide (x ∈ pathN ws t) := by
 rw [Bool.eq_iff_iff, List.contains_iff_mem, decide_eq_true_eq]
 unfold pathI natI
 rw [List.mem_map]
 constructor
 ·rintro ⟨y, hy, e⟩
  have : y = x := by omega
  subst this
  exact hy
 ·exact fun h => ⟨x, h, rfl⟩
set_option maxRecDepth 100000 in
set_option maxHeartbeats 3200000 in
theorem rBelow0_any (A : Option Addr) (c : Nat) (ws : List Car) (id : Int) (w : World) (h : Wk w A ws) :
  Calls Try.prog 73 #[.agg #[.slice A ws.length c], .int .i64 id] w fun e w' => ∃ A' c', e = .returned (.agg #[.slice A' (sgL ws id blX).length c', .int .i64 (sigE ws id)]) ∧ Rd w' w'.heap.size A' (sgL ws id blX) ∧ Below w.heap.size w w' := by
 obtain ⟨i0, hi0, hz0, hz1, hz2⟩ := info_parts info3
 have hb : Below w.heap.size w (((w.alloc (.cells #[.slice A ws.length c] 24))).alloc (.cells #[.slice none 0 0, .int .i64 0] 45)) := ((Below.refl _ w).alloc (Nat.le_refl _) _).alloc (by simp) _
 have K := Lib.hid ((((stays_bl hb).and (stays_blk (blk_alloc (blk_new w #[.slice A ws.length c] 24 rfl) _))).and (stays_wk (h.ext hb))).and (stays_blk (g := (w.heap.size + 1)) (blk_new ((w.alloc (.cells #[.slice A ws.length c] 24))) #[.slice none 0 0, .int .i64 0] 45 (by simp))))
 have HS0 := Lib.hid (show (w.heap.size + 1) < (((w.alloc (.cells #[.slice A ws.length c] 24))).alloc (.cells #[.slice none 0 0, .int .i64 0] 45)).heap.size by simp)
 clear hb h
 have HC := Lib.hid (fun W hW => rKnown_any A c ws id W hW)
 by_cases h0 : sigE ws id = 0
 rotate_left
 ·rw [sgL_no h0]
  generalize sigE ws id = E at *
  generalize knI ws id = KN at *
  have hz : (E != 0) = true := by simpa using h0
  clear h0
  go_enter Try.func73, Try.ntmps73
  go_upto_region 1 with fail
  generalize ((w.alloc (.cells #[.slice A ws.length c] 24))).alloc (.cells #[.slice none 0 0, .int .i64 0] 45) = W0 at *
  have p0 := cr 0 K.out.1.1.1.2
  go_wp2_with first
   | (go_at_call 104; refine (HC.out _ K.out.1.1.2).mono ?_; rintro e w1 ⟨rfl, hb⟩; have K1 := Lib.hid (K.out.on hb); clear hb)
   | (refine wpList_store_mid rfl 45 (.tmp 4) (.tmp 20) rfl (w.heap.size + 1) 0 _ rfl rfl (show World.there _ _ 0 2 from blk_there K1.out.1.2) (by kernel_rfl) (by simp [Value.oneCell']) ?_)
  have hBF := setCells_blk K1.out.1.2 [.slice none 0 0, .int .i64 E] rfl
  exact bodyPost_ret (results_cell1 Try.results73 _ _ ⟨(w.heap.size + 1), 0, none⟩ _ (by rfl) (run_loadVar_mid _ _ 0 _ _ _ (blk_range hBF) Try.underlying45 rfl (by kernel_rfl))) rfl
   ⟨none, 0, rfl, fun hn => absurd hn (by simp), setCells_below (by omega) _ _ _ K1.out.1.1.1.1⟩
 obtain ⟨g, x, hx, hxl, hl⟩ := sig_zero h0
 rw [hl]
 rw [show knI ws id = (x : Int) by unfold knI; rw [if_pos h0, hx]; rfl, h0] at HC
 rw [h0]
 clear hl h0 hx
 go_enter Try.func73, Try.ntmps73
 go_upto_region 1 with fail
 generalize ((w.alloc (.cells #[.slice A ws.length c] 24))).alloc (.cells #[.slice none 0 0, .int .i64 0] 45) = W0 at *
 have p0 := cr 0 K.out.1.1.1.2
 go_upto_region 4 with (go_at_call 104; refine (HC.out _ K.out.1.1.2).mono ?_; rintro e w1 ⟨rfl, hb⟩; have K1 := Lib.hid (K.out.on hb); have H1 := Lib.hid hb; clear hb)
 clear p0
 have p0 := cr 0 K1.out.1.1.1.2
 go_upto_region 5 with (go_at_call 90; refine (rOutlets_any A c ws _ K1.out.1.1.2).mono ?_; rintro e w3 ⟨A5, c5, rfl, hro, -, hb⟩; have K2 := Lib.hid (K1.out.on hb); have HRO := Lib.hid hro; have H2 := Lib.hid (Nat.lt_of_lt_of_le (Nat.lt_of_lt_of_le HS0.out H1.out.size) hb.size); clear hb hro)
 clear p0
 have p0 := cr 0 K2.out.1.1.1.2
 have HN6 := Lib.hid g
 have hn6 := g.n2
 clear hxl
 have HPA := Lib.hid (fun t ht W hW => rPath_any A c ws t ht W hW g)
 have HPP := Lib.hid (fun t (ht : t < (outs ws).length) => (show (pathI ws t).length ≤ 1000 by
  have h1 := upList_len g _ t rfl
  have h2 := caAt_lt ht
  have h3 := K2.out.1.1.2.n1
  rw [show (pathI ws t).length = (pathN ws t).length from natI_length _]
  unfold pathN
  rw [List.length_reverse]
  omega))
 clear p0
 clear g
 go_wp2
 go_loopg [8, 9] (outs ws).length (fun gg s i wr => ∃ t : Nat, t ≤ (outs ws).length ∧ (outs ws).length - t ≤ gg ∧ i = .int .i64 t ∧ ∃ A2 c2, s = .slice A2 (kpTo ws (blP ws x) t).length c2 ∧ Aside (Below w3.heap.size w3 wr ∧ Own wr w3.heap.size (.slice A2 (kpTo ws (blP ws x) t).length c2) (kpTo ws (blP ws x) t)))
 case atStart => exact ⟨0, Nat.zero_le _, by omega, rfl, none, 0, rfl, Below.refl _ _, Own.nil _ _⟩
 case round =>
  obtain ⟨t, ht, hgg, rfl, A2, c2, rfl, hA⟩ := hrel
  have HA := Lib.hid hA.out
  clear hA
  have K3 := Lib.hid (K2.out.on HA.out.1)
  by_cases hlt : t < (outs ws).length
  ·have hltz : (t : Int) < ((outs ws).length : Int) := by omega
   obtain ⟨b, off, rfl, lb, ho⟩ := HRO.out (by omega)
   have HO := Lib.hid (ho t hlt)
   have hln := kpTo_length ws (blP ws x) t
   have HPT := Lib.hid (HPA.out t hlt wr K3.out.1.1.2)
   have HPL := Lib.hid (HPP.out t hlt)
   have p0 := cr 0 K3.out.1.1.1.2
   clear ho
   by_cases hc : x ∈ pathN ws t
   ·have HCC := Lib.hid (show (pathI ws t).contains (x : Int) = true by rw [in_path]; exact decide_eq_true hc)
    by_cases hn : (oAt (outs ws) t).into < 0
    ·have HS := Lib.hid (kpTo_yes (ws := ws) (p := blP ws x) (t := t) (by unfold blP; rw [decide_eq_true hn, decide_eq_true hc]; rfl))
     clear hc
     go_wp2_with first
      | (go_at_call 121; refine HPT.out.mono ?_; rintro e w5 ⟨A8, c8, rfl, hrp, -, hb⟩; have HQ := hd2 hb (rIn_any A8 c8 (pathI ws t) x w5 hrp HPL.out); clear hb hrp)
      | (go_at_call 124; refine HQ.out.2.mono ?_; rw [HCC.out]; rintro e w6 ⟨rfl, hb⟩; have HB6 := Lib.hid (HQ.out.1.trans (hb.mono HQ.out.1.size)); clear hb; have hbw := HA.out.1.trans (HB6.out.mono HA.out.1.size); have k1 := cell_below hbw HO.out.c0; have k2 := cell_below hbw HO.out.c1; clear hbw; have hbA := (Below.refl _ w6).alloc (Nat.le_refl _) (.cells #[.int .i64 (oAt (outs ws) t).id] 3); have HN := hd4 (((HA.out.2.later HB6.out).later hbA).row rfl) (World.news_of_block (cs := #[.int .i64 (oAt (outs ws) t).id]) (t := 3) (fr := (0, 0)) (World.alloc_heap_new w6 (.cells #[.int .i64 (oAt (outs ws) t).id] 3))) (Nat.le_trans HA.out.1.size (Nat.le_trans HB6.out.size hbA.size)) (HB6.out.trans (hbA.mono HB6.out.size)); clear hbA)
      | (at_builtin; refine wpList_append_own_at _ rfl _ _ 25 rfl w3.heap.size 3 i0 (.int .i64 0) 1 8 Try.underlying25 hi0 hz0 hz1 hz2 rfl (by decide) (.slice A2 (kpTo ws (blP ws x) t).length c2) (kpTo ws (blP ws x) t).length _ rfl HN.out.1 ⟨w6.heap.size, 0, none⟩ 1 1 [.int .i64 (oAt (outs ws) t).id] rfl (by simp) HN.out.2.1 (by simp [Value.oneCell']) (by unfold maxLen; omega) (by omega) HN.out.2.2.1 ?_; intro v' w9 hown1 hgrow _ _; have hO9 := Own.of_row hown1 rfl; have HP9 := hd2 hO9 hgrow; clear hO9 hown1 hgrow)
     obtain ⟨A', c', rfl⟩ := HP9.out.1.slice (n := (kpTo ws (blP ws x) t).length + 1) (by rw [List.length_append]; rfl)
     go_wp2
     go_roundg ((outs ws).length - (t + 1))
     case measure => omega
     case rel => exact ⟨t + 1, by omega, by omega, by go_num, A', c', by rw [HS.out, List.length_append]; rfl, by rw [HS.out, List.length_append]; exact (show _ ∧ _ from ⟨(HA.out.1.trans (HN.out.2.2.2.mono HA.out.1.size)).grown HP9.out.2 (Nat.le_trans HA.out.1.size HN.out.2.2.2.size) (fun k e => (HA.out.2.blkIs e).1), HP9.out.1⟩)⟩
    ·have HS := Lib.hid (kpTo_no (ws := ws) (p := blP ws x) (t := t) (by unfold blP; rw [decide_eq_false hn]; rfl))
     clear hc
     go_wp2_with first
      | (go_at_call 121; refine HPT.out.mono ?_; rintro e w5 ⟨A8, c8, rfl, hrp, -, hb⟩; have HQ := hd2 hb (rIn_any A8 c8 (pathI ws t) x w5 hrp HPL.out); clear hb hrp)
      | (go_at_call 124; refine HQ.out.2.mono ?_; rw [HCC.out]; rintro e w6 ⟨rfl, hb⟩; have HB6 := Lib.hid (HQ.out.1.trans (hb.mono HQ.out.1.size)); clear hb; have hbw := HA.out.1.trans (HB6.out.mono HA.out.1.size); have k1 := cell_below hbw HO.out.c0; have k2 := cell_below hbw HO.out.c1; clear hbw)
     go_roundg ((outs ws).length - (t + 1))
     case measure => omega
     case rel => exact ⟨t + 1, by omega, by omega, by go_num, A2, c2, by rw [HS.out], by rw [HS.out]; exact (show _ ∧ _ from ⟨HA.out.1.trans (HB6.out.mono HA.out.1.size), HA.out.2.later HB6.out⟩)⟩
   ·have HCC := Lib.hid (show (pathI ws t).contains (x : Int) = false by rw [in_path]; exact decide_eq_false hc)
    have HS := Lib.hid (kpTo_no (ws := ws) (p := blP ws x) (t := t) (by unfold blP; rw [decide_eq_false hc, Bool.and_false]))
    clear hc
    go_wp2_with first
     | (go_at_call 121; refine HPT.out.mono ?_; rintro e w5 ⟨A8, c8, rfl, hrp, -, hb⟩; have HQ := hd2 hb (rIn_any A8 c8 (pathI ws t) x w5 hrp HPL.out); clear hb hrp)
     | (go_at_call 124; refine HQ.out.2.mono ?_; rw [HCC.out]; rintro e w6 ⟨rfl, hb⟩; have HB6 := Lib.hid (HQ.out.1.trans (hb.mono HQ.out.1.size)); clear hb; have hbw := HA.out.1.trans (HB6.out.mono HA.out.1.size); have k1 := cell_below hbw HO.out.c0; have k2 := cell_below hbw HO.out.c1; clear hbw)
    go_roundg ((outs ws).length - (t + 1))
    case measure => omega
    case rel => exact ⟨t + 1, by omega, by omega, by go_num, A2, c2, by rw [HS.out], by rw [HS.out]; exact (show _ ∧ _ from ⟨HA.out.1.trans (HB6.out.mono HA.out.1.size), HA.out.2.later HB6.out⟩)⟩
  ·have hltz : ¬ (t : Int) < ((outs ws).length : Int) := by omega
   obtain rfl : t = (outs ws).length := by omega
   obtain ⟨B2, d2, e2, rd2, fr2⟩ := HA.out.2.rd
   simp only [Value.slice.injEq, true_and] at e2
   obtain ⟨rfl, rfl⟩ := e2
   have HE := hd2 rd2 fr2
   clear rd2 fr2
   go_wp2_with (refine wpList_store_mid rfl 45 (.tmp 4) (.tmp 52) rfl (w.heap.size + 1) 0 _ rfl rfl (show World.there _ _ 0 2 from blk_there K3.out.1.2) (by kernel_rfl) (by simp [Value.oneCell']) ?_)
   have hBF := setCells_blk K3.out.1.2 [.slice A2 (kpTo ws (blP ws x) (outs ws).length).length c2, .int .i64 0] rfl
   have hrd := rd_setCells (o := 0) (vs := [.slice A2 (kpTo ws (blP ws x) (outs ws).length).length c2, .int .i64 0]) HE.out.1 HE.out.2 H2.out
   exact bodyPost_ret (results_cell1 Try.results73 _ _ ⟨(w.heap.size + 1), 0, none⟩ _ (by rfl) (run_loadVar_mid _ _ 0 _ _ _ (blk_range hBF) Try.underlying45 rfl (by kernel_rfl))) rfl
    ⟨A2, ⟨c2, rfl⟩, hrd, setCells_below (by omega) _ _ _ K3.out.1.1.1.1⟩
end Go.Proofs.Ytdadoelajhemjaa
