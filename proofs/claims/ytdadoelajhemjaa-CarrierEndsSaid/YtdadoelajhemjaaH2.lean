/- Walks: the specification's Spans. -/
import Derived.Test.YtdadoelajhemjaaG3
import Derived.Test.YtdadoelajhemjaaH1
namespace Go.Proofs.Ytdadoelajhemjaa
open Go.RowKit Go.Shelf

theorem spnTo_succ (ws : List Car) (cs : Cs) (k : Nat) : spnTo ws cs (k + 1) = spnTo ws cs k ++ [endsF ws cs k] := by simp [spnTo, List.range_succ]
set_option maxRecDepth 100000 in
set_option maxHeartbeats 3200000 in
theorem rSpans_any (A : Option Addr) (c : Nat) (ws : List Car) (cs : Cs) (w : World) (h : Wk w A ws) (hs : Csd w cs) :
  Calls Try.prog 57 #[.agg #[.slice A ws.length c], cs.v] w fun e w' => ∃ A' c', e = .returned (.agg #[.slice A' (spnE ws cs).length c', .int .i64 (ccE ws cs)]) ∧ RdS w' w'.heap.size A' (spnE ws cs) ∧ Below w.heap.size w w' := by
 obtain ⟨i0, hi0, hz0, hz1, hz2⟩ := info_parts info40
 obtain ⟨A0, A1, d0, d1, ri, bo⟩ := cs
 show Calls _ _ #[.agg #[.slice A ws.length c], .agg #[.slice A0 ri.length d0, .slice A1 bo.length d1]] _ _
 have hb : Below w.heap.size w (((w.alloc (.cells #[.slice A ws.length c] 24)).alloc (.cells #[.slice A0 ri.length d0, .slice A1 bo.length d1] 51)).alloc (.cells #[.slice none 0 0, .int .i64 0] 100)) := (((Below.refl _ w).alloc (Nat.le_refl _) _).alloc (by simp) _).alloc (by simp; omega) _
 have K := Lib.hid (((((stays_bl hb).and (stays_blk (blk_alloc (blk_alloc (blk_new w #[.slice A ws.length c] 24 rfl) _) _))).and (stays_blk (g := w.heap.size + 1) (blk_alloc (blk_new (w.alloc (.cells #[.slice A ws.length c] 24)) #[.slice A0 ri.length d0, .slice A1 bo.length d1] 51 (by simp)) _))).and ((stays_wk (h.ext hb)).and (stays_csd (hs.ext hb)))).and (stays_blk (g := (w.heap.size + 1 + 1)) (blk_new ((w.alloc (.cells #[.slice A ws.length c] 24)).alloc (.cells #[.slice A0 ri.length d0, .slice A1 bo.length d1] 51)) #[.slice none 0 0, .int .i64 0] 100 (by simp))))
 have HS0 := Lib.hid (show (w.heap.size + 1 + 1) < (((w.alloc (.cells #[.slice A ws.length c] 24)).alloc (.cells #[.slice A0 ri.length d0, .slice A1 bo.length d1] 51)).alloc (.cells #[.slice none 0 0, .int .i64 0] 100)).heap.size by simp)
 clear hb h hs
 have HC := Lib.hid (fun W hW hs => rCheckCase_any A c ws ⟨A0, A1, d0, d1, ri, bo⟩ W hW hs)
 by_cases h0 : ccE ws ⟨A0, A1, d0, d1, ri, bo⟩ = 0
 ·obtain ⟨g, k⟩ := cc_good h0
  rw [h0] at HC
  have HI := hd2 g k
  have hre : spnE ws ⟨A0, A1, d0, d1, ri, bo⟩ = spnTo ws ⟨A0, A1, d0, d1, ri, bo⟩ (outs ws).length := if_pos h0
  rw [h0, hre, spnTo_length]
  clear h0 g k hre
  go_enter Try.func57, Try.ntmps57
  go_upto_region 1 with fail
  generalize ((w.alloc (.cells #[.slice A ws.length c] 24)).alloc (.cells #[.slice A0 ri.length d0, .slice A1 bo.length d1] 51)).alloc (.cells #[.slice none 0 0, .int .i64 0] 100) = W0 at *
  have p0 := cr 0 K.out.1.1.1.1.2
  have p1 := cr 0 K.out.1.1.1.2
  have p2 := cr 1 K.out.1.1.1.2
  go_upto_region 4 with (go_at_call 49; refine (HC.out _ K.out.1.1.2.1 K.out.1.1.2.2).mono ?_; rintro e w1 ⟨rfl, hb⟩; have K1 := Lib.hid (K.out.on hb); have H1 := Lib.hid hb; clear hb)
  clear p0 p1 p2
  have p0 := cr 0 K1.out.1.1.1.1.2
  have p1 := cr 0 K1.out.1.1.1.2
  have p2 := cr 1 K1.out.1.1.1.2
  go_upto_region 7 with (go_at_call 90; refine (rOutlets_any A c ws _ K1.out.1.1.2.1).mono ?_; rintro e w3 ⟨A5, c5, rfl, -, -, hb⟩; have K2 := Lib.hid (K1.out.on hb); have H2 := Lib.hid (Nat.lt_of_lt_of_le (Nat.lt_of_lt_of_le HS0.out H1.out.size) hb.size); clear hb)
  clear p0 p1 p2 HC K K1 HS0 H1
  have hN6 := HI.out.1.n2
  go_loopg [7, 8] (outs ws).length (fun gg s i wr => ∃ t : Nat, t ≤ (outs ws).length ∧ (outs ws).length - t ≤ gg ∧ i = .int .i64 t ∧ ∃ A2 c2, s = .slice A2 t c2 ∧ Aside (Below w3.heap.size w3 wr ∧ OwnS wr w3.heap.size (.slice A2 t c2) (spnTo ws ⟨A0, A1, d0, d1, ri, bo⟩ t)))
  case atStart => exact ⟨0, Nat.zero_le _, by omega, rfl, none, 0, rfl, Below.refl _ _, OwnS.nil _ _⟩
  case round =>
   obtain ⟨t, ht, hgg, rfl, A2, c2, rfl, hA⟩ := hrel
   have HA := Lib.hid hA.out
   clear hA
   have K3 := Lib.hid (K2.out.on HA.out.1)
   by_cases hlt : t < (outs ws).length
   ·have hltz : (t : Int) < ((outs ws).length : Int) := by omega
    obtain ⟨lo, hi, hlh⟩ : ∃ lo hi : Int, endsF ws ⟨A0, A1, d0, d1, ri, bo⟩ t = (lo, hi) := ⟨_, _, rfl⟩
    have hU := rEnds_any A c ws ⟨A0, A1, d0, d1, ri, bo⟩ t hlt wr K3.out.1.1.2.1 HI.out.1 K3.out.1.1.2.2 HI.out.2
    rw [hlh] at hU
    have HU := Lib.hid hU
    have HLH := Lib.hid (show spnTo ws ⟨A0, A1, d0, d1, ri, bo⟩ (t + 1) = spnTo ws ⟨A0, A1, d0, d1, ri, bo⟩ t ++ [(lo, hi)] by rw [spnTo_succ, hlh])
    clear hU hlh
    have hfs := field_sup
    have p0 := cr 0 K3.out.1.1.1.1.2
    have p1 := cr 0 K3.out.1.1.1.2
    have p2 := cr 1 K3.out.1.1.1.2
    go_wp2_with first
     | (go_at_call 91; refine HU.out.mono ?_; rintro e w5 ⟨s, s', rfl, -, -, -, -, -, -, hb⟩; have hbA := (Below.refl _ w5).alloc (Nat.le_refl _) (.cells #[.int .i64 lo, .int .i64 hi] 40); have hown : OwnS (w5.alloc (.cells #[.int .i64 lo, .int .i64 hi] 40)) w3.heap.size (.slice A2 t c2) (spnTo ws ⟨A0, A1, d0, d1, ri, bo⟩ t) := (HA.out.2.later hb).later hbA; unfold OwnS at hown; rw [spnTo_length] at hown; have HN := hd4 hown (World.news_of_block (cs := #[.int .i64 lo, .int .i64 hi]) (t := 40) (fr := (0, 0)) (World.alloc_heap_new w5 (.cells #[.int .i64 lo, .int .i64 hi] 40))) (Nat.le_trans HA.out.1.size (Nat.le_trans hb.size hbA.size)) (hb.trans (hbA.mono hb.size)); clear hbA hown hb)
     | (at_builtin; refine wpList_append_own_at _ rfl _ _ 49 rfl w3.heap.size 40 i0 (.agg #[.int .i64 0, .int .i64 0]) 2 16 Try.underlying49 hi0 hz0 hz1 hz2 rfl (by decide) (.slice A2 t c2) t _ rfl HN.out.1 ⟨w5.heap.size, 0, none⟩ 1 1 [.int .i64 lo, .int .i64 hi] rfl (by simp) HN.out.2.1 (by simp [Value.oneCell']) (by unfold maxLen; omega) (by omega) HN.out.2.2.1 ?_; intro v' w9 hown1 hgrow _ _; have hO9 := OwnS.of_row (y := (lo, hi)) hown1 (by rw [spnTo_length]); have HP9 := hd2 hO9 hgrow; clear hO9 hown1 hgrow)
    obtain ⟨A', c', rfl⟩ := HP9.out.1.slice (n := t + 1) (by rw [List.length_append, spnTo_length]; rfl)
    go_wp2
    go_roundg ((outs ws).length - (t + 1))
    case measure => omega
    case rel => exact ⟨t + 1, by omega, by omega, by go_num, A', c', rfl, by rw [HLH.out]; exact (show _ ∧ _ from ⟨(HA.out.1.trans (HN.out.2.2.2.mono HA.out.1.size)).grown HP9.out.2 (Nat.le_trans HA.out.1.size HN.out.2.2.2.size) (fun k e => (HA.out.2.blkIs e).1), HP9.out.1⟩)⟩
   ·have hltz : ¬ (t : Int) < ((outs ws).length : Int) := by omega
    obtain rfl : t = (outs ws).length := by omega
    obtain ⟨B2, d2, e2, rd2, fr2⟩ := HA.out.2.rd
    rw [spnTo_length] at e2
    simp only [Value.slice.injEq, true_and] at e2
    obtain ⟨rfl, rfl⟩ := e2
    have HE := hd2 rd2 fr2
    clear rd2 fr2
    go_wp2_with (refine wpList_store_mid rfl 100 (.tmp 4) (.tmp 33) rfl (w.heap.size + 1 + 1) 0 _ rfl rfl (show World.there _ _ 0 2 from blk_there K3.out.1.2) (by kernel_rfl) (by simp [Value.oneCell']) ?_)
    have hBF := setCells_blk K3.out.1.2 [.slice A2 (outs ws).length c2, .int .i64 0] rfl
    have hne : NB (w.heap.size + 1 + 1) A2 [(0 : Int)] := HE.out.2.nb H2.out
    exact bodyPost_ret (results_cell1 Try.results57 _ _ ⟨(w.heap.size + 1 + 1), 0, none⟩ _ (by rfl) (run_loadVar_mid _ _ 0 _ _ _ (blk_range hBF) Try.underlying100 rfl (by kernel_rfl))) rfl
     ⟨A2, ⟨c2, rfl⟩, fun hn => by
      obtain ⟨b, off, e, hl, hc⟩ := HE.out.1 hn
      have hb := hne (by simp) _ e
      exact ⟨b, off, e, by rw [setCells_size]; exact hl, fun i hi => ⟨(cell_of_heap (setCells_oth hb _ _ _)).trans (hc i hi).c0, (cell_of_heap (setCells_oth hb _ _ _)).trans (hc i hi).c1⟩⟩, setCells_below (by omega) _ _ _ K3.out.1.1.1.1.1⟩
 ·have hre : spnE ws ⟨A0, A1, d0, d1, ri, bo⟩ = [] := if_neg h0
  rw [hre]
  generalize ccE ws ⟨A0, A1, d0, d1, ri, bo⟩ = E at *
  have hz : (E != 0) = true := by simpa using h0
  clear h0 hre
  go_enter Try.func57, Try.ntmps57
  go_upto_region 1 with fail
  generalize ((w.alloc (.cells #[.slice A ws.length c] 24)).alloc (.cells #[.slice A0 ri.length d0, .slice A1 bo.length d1] 51)).alloc (.cells #[.slice none 0 0, .int .i64 0] 100) = W0 at *
  have p0 := cr 0 K.out.1.1.1.1.2
  have p1 := cr 0 K.out.1.1.1.2
  have p2 := cr 1 K.out.1.1.1.2
  go_wp2_with first
   | (go_at_call 49; refine (HC.out _ K.out.1.1.2.1 K.out.1.1.2.2).mono ?_; rintro e w1 ⟨rfl, hb⟩; have K1 := Lib.hid (K.out.on hb); clear hb)
   | (refine wpList_store_mid rfl 100 (.tmp 4) (.tmp 15) rfl (w.heap.size + 1 + 1) 0 _ rfl rfl (show World.there _ _ 0 2 from blk_there K1.out.1.2) (by kernel_rfl) (by simp [Value.oneCell']) ?_)
  have hBF := setCells_blk K1.out.1.2 [.slice none 0 0, .int .i64 E] rfl
  exact bodyPost_ret (results_cell1 Try.results57 _ _ ⟨(w.heap.size + 1 + 1), 0, none⟩ _ (by rfl) (run_loadVar_mid _ _ 0 _ _ _ (blk_range hBF) Try.underlying100 rfl (by kernel_rfl))) rfl
   ⟨none, 0, rfl, fun hn => absurd hn (by simp), setCells_below (by omega) _ _ _ K1.out.1.1.1.1.1⟩
end Go.Proofs.Ytdadoelajhemjaa
