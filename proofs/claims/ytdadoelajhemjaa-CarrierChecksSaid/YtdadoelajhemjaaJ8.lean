/- Walks: the specification's Beds, Heads. -/
import Derived.Test.YtdadoelajhemjaaJ7
import Derived.Test.YtdadoelajhemjaaC3
namespace Go.Proofs.Ytdadoelajhemjaa
open Go.RowKit Go.Shelf

set_option maxRecDepth 100000 in
set_option maxHeartbeats 3200000 in
theorem rBeds_any (A : Option Addr) (c : Nat) (ws : List Car) (w : World) (h : Wk w A ws) :
  Calls Try.prog 69 #[.agg #[.slice A ws.length c]] w fun e w' => ∃ A' c', e = .returned (.agg #[.slice A' (bdL ws).length c', .int .i64 (checkE ws)]) ∧ Rd w' w'.heap.size A' (bdL ws) ∧ Below w.heap.size w w' := by
 obtain ⟨i0, hi0, hz0, hz1, hz2⟩ := info_parts info3
 have hb : Below w.heap.size w (((w.alloc (.cells #[.slice A ws.length c] 24))).alloc (.cells #[.slice none 0 0, .int .i64 0] 45)) := ((Below.refl _ w).alloc (Nat.le_refl _) _).alloc (by simp) _
 have K := Lib.hid ((((stays_bl hb).and (stays_blk (blk_alloc (blk_new w #[.slice A ws.length c] 24 rfl) _))).and (stays_wk (h.ext hb))).and (stays_blk (g := (w.heap.size + 1)) (blk_new ((w.alloc (.cells #[.slice A ws.length c] 24))) #[.slice none 0 0, .int .i64 0] 45 (by simp))))
 have HS0 := Lib.hid (show (w.heap.size + 1) < (((w.alloc (.cells #[.slice A ws.length c] 24))).alloc (.cells #[.slice none 0 0, .int .i64 0] 45)).heap.size by simp)
 clear hb h
 have HC := Lib.hid (fun W hW => rCheck_any A c ws W hW)
 by_cases h0 : checkE ws = 0
 rotate_left
 ·rw [show bdL ws = [] from if_neg h0]
  generalize checkE ws = E at *
  have hz : (E != 0) = true := by simpa using h0
  clear h0
  go_enter Try.func69, Try.ntmps69
  go_upto_region 1 with fail
  generalize ((w.alloc (.cells #[.slice A ws.length c] 24))).alloc (.cells #[.slice none 0 0, .int .i64 0] 45) = W0 at *
  have p0 := cr 0 K.out.1.1.1.2
  go_wp2_with first
   | (go_at_call 75; refine (HC.out _ K.out.1.1.2).mono ?_; rintro e w1 ⟨rfl, hb⟩; have K1 := Lib.hid (K.out.on hb); clear hb)
   | (refine wpList_store_mid rfl 45 (.tmp 2) (.tmp 12) rfl (w.heap.size + 1) 0 _ rfl rfl (show World.there _ _ 0 2 from blk_there K1.out.1.2) (by kernel_rfl) (by simp [Value.oneCell']) ?_)
  have hBF := setCells_blk K1.out.1.2 [.slice none 0 0, .int .i64 E] rfl
  exact bodyPost_ret (results_cell1 Try.results69 _ _ ⟨(w.heap.size + 1), 0, none⟩ _ (by rfl) (run_loadVar_mid _ _ 0 _ _ _ (blk_range hBF) Try.underlying45 rfl (by kernel_rfl))) rfl
   ⟨none, 0, rfl, fun hn => absurd hn (by simp), setCells_below (by omega) _ _ _ K1.out.1.1.1.1⟩
 rw [h0] at HC ⊢
 have hL : bdL ws = kpL ws (fun i => decide ((oAt (outs ws) i).into < 0)) := if_pos h0
 rw [hL]
 have g := good_of_check h0
 clear h0 hL
 go_enter Try.func69, Try.ntmps69
 go_upto_region 1 with fail
 generalize ((w.alloc (.cells #[.slice A ws.length c] 24))).alloc (.cells #[.slice none 0 0, .int .i64 0] 45) = W0 at *
 have p0 := cr 0 K.out.1.1.1.2
 go_upto_region 4 with (go_at_call 75; refine (HC.out _ K.out.1.1.2).mono ?_; rintro e w1 ⟨rfl, hb⟩; have K1 := Lib.hid (K.out.on hb); have H1 := Lib.hid hb; clear hb)
 clear p0
 have p0 := cr 0 K1.out.1.1.1.2
 go_wp2_with (go_at_call 90; refine (rOutlets_any A c ws _ K1.out.1.1.2).mono ?_; rintro e w3 ⟨A5, c5, rfl, hro, -, hb⟩; have K2 := Lib.hid (K1.out.on hb); have HRO := Lib.hid hro; have H2 := Lib.hid (Nat.lt_of_lt_of_le (Nat.lt_of_lt_of_le HS0.out H1.out.size) hb.size); clear hb hro)
 have hn6 := g.n2
 go_loopg [5, 6] (outs ws).length (fun gg s i wr => ∃ t : Nat, t ≤ (outs ws).length ∧ (outs ws).length - t ≤ gg ∧ i = .int .i64 t ∧ ∃ A2 c2, s = .slice A2 (kpTo ws (fun i => decide ((oAt (outs ws) i).into < 0)) t).length c2 ∧ Aside (Below w3.heap.size w3 wr ∧ Own wr w3.heap.size (.slice A2 (kpTo ws (fun i => decide ((oAt (outs ws) i).into < 0)) t).length c2) (kpTo ws (fun i => decide ((oAt (outs ws) i).into < 0)) t)))
 case atStart => exact ⟨0, Nat.zero_le _, by omega, rfl, none, 0, rfl, Below.refl _ _, Own.nil _ _⟩
 case round =>
  obtain ⟨t, ht, hgg, rfl, A2, c2, rfl, hA⟩ := hrel
  have HA := Lib.hid hA.out
  clear hA
  have K3 := Lib.hid (K2.out.on HA.out.1)
  by_cases hlt : t < (outs ws).length
  ·have hltz : (t : Int) < ((outs ws).length : Int) := by omega
   obtain ⟨b, off, rfl, lb, ho⟩ := HRO.out (by omega)
   have k1 := cell_below HA.out.1 (ho t hlt).c0
   have k2 := cell_below HA.out.1 (ho t hlt).c1
   clear ho
   by_cases hn : (oAt (outs ws) t).into < 0
   ·have hbA := (Below.refl _ wr).alloc (Nat.le_refl _) (.cells #[.int .i64 (oAt (outs ws) t).id] 3)
    have HN := hd4 ((HA.out.2.later hbA).row rfl) (World.news_of_block (cs := #[.int .i64 (oAt (outs ws) t).id]) (t := 3) (fr := (0, 0)) (World.alloc_heap_new wr (.cells #[.int .i64 (oAt (outs ws) t).id] 3))) (Nat.le_trans HA.out.1.size hbA.size) hbA
    have hln := kpTo_length ws (fun i => decide ((oAt (outs ws) i).into < 0)) t
    have HLN := Lib.hid hln
    have hs := kpTo_yes (ws := ws) (p := fun i => decide ((oAt (outs ws) i).into < 0)) (t := t) (decide_eq_true hn)
    have HS := Lib.hid hs
    clear hbA hs
    go_wp2_with (at_builtin; refine wpList_append_own_at _ rfl _ _ 25 rfl w3.heap.size 3 i0 (.int .i64 0) 1 8 Try.underlying25 hi0 hz0 hz1 hz2 rfl (by decide) (.slice A2 (kpTo ws (fun i => decide ((oAt (outs ws) i).into < 0)) t).length c2) (kpTo ws (fun i => decide ((oAt (outs ws) i).into < 0)) t).length _ rfl HN.out.1 ⟨wr.heap.size, 0, none⟩ 1 1 [.int .i64 (oAt (outs ws) t).id] rfl (by simp) HN.out.2.1 (by simp [Value.oneCell']) (by unfold maxLen; omega) (by omega) HN.out.2.2.1 ?_; intro v' w9 hown1 hgrow _ _; have hO9 := Own.of_row hown1 rfl; have HP9 := hd2 hO9 hgrow; clear hO9 hown1 hgrow)
    obtain ⟨A', c', rfl⟩ := HP9.out.1.slice (n := (kpTo ws (fun i => decide ((oAt (outs ws) i).into < 0)) t).length + 1) (by rw [List.length_append]; rfl)
    go_wp2
    go_roundg ((outs ws).length - (t + 1))
    case measure => omega
    case rel => exact ⟨t + 1, by omega, by omega, by go_num, A', c', by rw [HS.out, List.length_append]; rfl, by rw [HS.out, List.length_append]; exact (show _ ∧ _ from ⟨(HA.out.1.trans (HN.out.2.2.2.mono HA.out.1.size)).grown HP9.out.2 (Nat.le_trans HA.out.1.size HN.out.2.2.2.size) (fun k e => (HA.out.2.blkIs e).1), HP9.out.1⟩)⟩
   ·have hs := kpTo_no (ws := ws) (p := fun i => decide ((oAt (outs ws) i).into < 0)) (t := t) (decide_eq_false hn)
    have HS := Lib.hid hs
    clear hs
    go_wp2
    go_roundg ((outs ws).length - (t + 1))
    case measure => omega
    case rel => exact ⟨t + 1, by omega, by omega, by go_num, A2, c2, by rw [HS.out], by rw [HS.out]; exact (show _ ∧ _ from ⟨HA.out.1, HA.out.2⟩)⟩
  ·have hltz : ¬ (t : Int) < ((outs ws).length : Int) := by omega
   obtain rfl : t = (outs ws).length := by omega
   obtain ⟨B2, d2, e2, rd2, fr2⟩ := HA.out.2.rd
   simp only [Value.slice.injEq, true_and] at e2
   obtain ⟨rfl, rfl⟩ := e2
   have HE := hd2 rd2 fr2
   clear rd2 fr2
   go_wp2_with (refine wpList_store_mid rfl 45 (.tmp 2) (.tmp 36) rfl (w.heap.size + 1) 0 _ rfl rfl (show World.there _ _ 0 2 from blk_there K3.out.1.2) (by kernel_rfl) (by simp [Value.oneCell']) ?_)
   have hBF := setCells_blk K3.out.1.2 [.slice A2 (kpTo ws (fun i => decide ((oAt (outs ws) i).into < 0)) (outs ws).length).length c2, .int .i64 0] rfl
   have hrd := rd_setCells (o := 0) (vs := [.slice A2 (kpTo ws (fun i => decide ((oAt (outs ws) i).into < 0)) (outs ws).length).length c2, .int .i64 0]) HE.out.1 HE.out.2 H2.out
   exact bodyPost_ret (results_cell1 Try.results69 _ _ ⟨(w.heap.size + 1), 0, none⟩ _ (by rfl) (run_loadVar_mid _ _ 0 _ _ _ (blk_range hBF) Try.underlying45 rfl (by kernel_rfl))) rfl
    ⟨A2, ⟨c2, rfl⟩, hrd, setCells_below (by omega) _ _ _ K3.out.1.1.1.1⟩
def hd2L (ws : List Car) : List Int := if checkE ws = 0 then hInt ws ws.length else []
set_option maxRecDepth 100000 in
set_option maxHeartbeats 3200000 in
theorem rHeads0_any (A : Option Addr) (c : Nat) (ws : List Car) (w : World) (h : Wk w A ws) :
  Calls Try.prog 65 #[.agg #[.slice A ws.length c]] w fun e w' => ∃ A' c', e = .returned (.agg #[.slice A' (hd2L ws).length c', .int .i64 (checkE ws)]) ∧ Rd w' w'.heap.size A' (hd2L ws) ∧ Below w.heap.size w w' := by
 obtain ⟨i0, hi0, hz0, hz1, hz2⟩ := info_parts info3
 have hb : Below w.heap.size w (((w.alloc (.cells #[.slice A ws.length c] 24))).alloc (.cells #[.slice none 0 0, .int .i64 0] 45)) := ((Below.refl _ w).alloc (Nat.le_refl _) _).alloc (by simp) _
 have K := Lib.hid ((((stays_bl hb).and (stays_blk (blk_alloc (blk_new w #[.slice A ws.length c] 24 rfl) _))).and (stays_wk (h.ext hb))).and (stays_blk (g := (w.heap.size + 1)) (blk_new ((w.alloc (.cells #[.slice A ws.length c] 24))) #[.slice none 0 0, .int .i64 0] 45 (by simp))))
 have HS0 := Lib.hid (show (w.heap.size + 1) < (((w.alloc (.cells #[.slice A ws.length c] 24))).alloc (.cells #[.slice none 0 0, .int .i64 0] 45)).heap.size by simp)
 clear hb h
 have HC := Lib.hid (fun W hW => rCheck_any A c ws W hW)
 by_cases h0 : checkE ws = 0
 rotate_left
 ·rw [show hd2L ws = [] from if_neg h0]
  generalize checkE ws = E at *
  have hz : (E != 0) = true := by simpa using h0
  clear h0
  go_enter Try.func65, Try.ntmps65
  go_upto_region 1 with fail
  generalize ((w.alloc (.cells #[.slice A ws.length c] 24))).alloc (.cells #[.slice none 0 0, .int .i64 0] 45) = W0 at *
  have p0 := cr 0 K.out.1.1.1.2
  go_wp2_with first
   | (go_at_call 75; refine (HC.out _ K.out.1.1.2).mono ?_; rintro e w1 ⟨rfl, hb⟩; have K1 := Lib.hid (K.out.on hb); clear hb)
   | (refine wpList_store_mid rfl 45 (.tmp 2) (.tmp 9) rfl (w.heap.size + 1) 0 _ rfl rfl (show World.there _ _ 0 2 from blk_there K1.out.1.2) (by kernel_rfl) (by simp [Value.oneCell']) ?_)
  have hBF := setCells_blk K1.out.1.2 [.slice none 0 0, .int .i64 E] rfl
  exact bodyPost_ret (results_cell1 Try.results65 _ _ ⟨(w.heap.size + 1), 0, none⟩ _ (by rfl) (run_loadVar_mid _ _ 0 _ _ _ (blk_range hBF) Try.underlying45 rfl (by kernel_rfl))) rfl
   ⟨none, 0, rfl, fun hn => absurd hn (by simp), setCells_below (by omega) _ _ _ K1.out.1.1.1.1⟩
 rw [h0] at HC ⊢
 have hL : hd2L ws = hInt ws ws.length := if_pos h0
 rw [hL]
 have g := good_of_check h0
 clear h0 hL
 go_enter Try.func65, Try.ntmps65
 go_upto_region 1 with fail
 generalize ((w.alloc (.cells #[.slice A ws.length c] 24))).alloc (.cells #[.slice none 0 0, .int .i64 0] 45) = W0 at *
 have p0 := cr 0 K.out.1.1.1.2
 go_upto_region 4 with (go_at_call 75; refine (HC.out _ K.out.1.1.2).mono ?_; rintro e w1 ⟨rfl, hb⟩; have K1 := Lib.hid (K.out.on hb); have H1 := Lib.hid hb; clear hb)
 clear p0
 have p0 := cr 0 K1.out.1.1.1.2
 go_wp2_with first
  | (go_at_call 116; refine (rHeads_any A c ws _ K1.out.1.1.2).mono ?_; rintro e w3 ⟨A5, c5, rfl, hro, hf, hb⟩; have K2 := Lib.hid (K1.out.on hb); have HRO := hd2 hro hf; have H2 := Lib.hid (Nat.lt_of_lt_of_le HS0.out H1.out.size); clear hb hro hf)
  | (refine wpList_store_mid rfl 45 (.tmp 2) (.tmp 12) rfl (w.heap.size + 1) 0 _ rfl rfl (show World.there _ _ 0 2 from blk_there K2.out.1.2) (by kernel_rfl) (by simp [Value.oneCell']) ?_)
 have hBF := setCells_blk K2.out.1.2 [.slice A5 (hInt ws ws.length).length c5, .int .i64 0] rfl
 have hrd := rd_setCells (o := 0) (vs := [.slice A5 (hInt ws ws.length).length c5, .int .i64 0]) HRO.out.1 HRO.out.2 H2.out
 exact bodyPost_ret (results_cell1 Try.results65 _ _ ⟨(w.heap.size + 1), 0, none⟩ _ (by rfl) (run_loadVar_mid _ _ 0 _ _ _ (blk_range hBF) Try.underlying45 rfl (by kernel_rfl))) rfl
  ⟨A5, c5, rfl, hrd, setCells_below (by omega) _ _ _ K2.out.1.1.1.1⟩
end Go.Proofs.Ytdadoelajhemjaa
