/- Walks: the specification's Without. -/
import Derived.Test.YtdadoelajhemjaaZ4
import Derived.Test.YtdadoelajhemjaaC2
import Derived.Test.YtdadoelajhemjaaM12
namespace Go.Proofs.Ytdadoelajhemjaa
open Go.RowKit Go.Shelf

theorem stays_spans2 {W : World} {A : Option Addr} {l : List Sp} (h : RdS W W.heap.size A l) : Stays (fun X => RdS X X.heap.size A l) W := ⟨h, fun _ _ a b => a.ext b⟩
theorem info38r : (Try.prog.info? 38).map (fun i => (i.zero, i.size, i.bytes)) = some (some (.agg #[.slice none 0 0]), 1, 24) := by kernel_rfl
theorem info4r : (Try.prog.info? 4).map (fun i => (i.zero, i.size, i.bytes)) = some (some (.bool false), 1, 1) := by kernel_rfl
set_option maxRecDepth 100000 in
set_option maxHeartbeats 1600000 in
theorem rWithout_bad (A : Option Addr) (c : Nat) (ws : List Car) (n : Int) (w : World) (h : Wk w A ws) (he : withE ws n ≠ 0) :
  Calls Try.prog 52 #[.agg #[.slice A ws.length c], .int .i64 n] w fun e w' => RWithR w ws n e w' := by
 have hb : Below w.heap.size w ((w.alloc (.cells #[.slice A ws.length c] 24)).alloc (.cells #[.slice none 0 0, .int .i64 0] 87)) := ((Below.refl _ w).alloc (Nat.le_refl _) _).alloc (by simp) _
 have K := Lib.hid ((((stays_bl hb).and (stays_blk (blk_alloc (blk_new w #[.slice A ws.length c] 24 rfl) _))).and (stays_blk (g := (w.heap.size + 1)) (blk_new (w.alloc (.cells #[.slice A ws.length c] 24)) #[.slice none 0 0, .int .i64 0] 87 (by simp)))).and (stays_wk (h.ext hb)))
 have hC : withC ws n = [] := if_neg he
 have HC := hd2 (fun W hW => rCheck_any A c ws W hW) hC
 have hn1 := h.n1
 clear hb h
 by_cases h0 : checkE ws = 0
 ·have hE : withE ws n = 5 := by
   unfold withE at he ⊢
   rw [if_pos h0] at he ⊢
   by_cases h1 : 0 ≤ n ∧ n ≤ (ws.length : Int) - 1
   ·rw [if_pos h1] at he; exact absurd rfl he
   ·rw [if_neg h1]
  have hr : n < 0 ∨ ¬ n < 0 ∧ (ws.length : Int) ≤ n := by
   unfold withE at hE
   rw [if_pos h0] at hE
   by_cases h1 : 0 ≤ n ∧ n ≤ (ws.length : Int) - 1
   ·rw [if_pos h1] at hE; cases hE
   ·omega
  unfold RWithR
  rw [hE]
  rw [h0] at HC
  clear h0 hE he hC
  go_enter Try.func52, Try.ntmps52
  go_upto_region 1 with fail
  generalize ((w.alloc (.cells #[.slice A ws.length c] 24)).alloc (.cells #[.slice none 0 0, .int .i64 0] 87)) = W2 at *
  have p0 := cr 0 K.out.1.1.1.2
  go_upto_region 4 with (go_at_call 75; refine (HC.out.1 _ K.out.1.2).mono ?_; rintro e w1 ⟨rfl, hb⟩; have K1 := Lib.hid (K.out.on hb); clear hb)
  clear p0 K
  have p0 := cr 0 K1.out.1.1.1.2
  have hBF := setCells_blk K1.out.1.1.2 [.slice none 0 0, .int .i64 5] rfl
  have HBF := Lib.hid hBF
  clear hBF
  rcases hr with hr | ⟨hr, hr2⟩
  all_goals
   go_wp2_with (refine wpList_store_mid rfl 87 (.tmp 4) (.tmp 32) rfl (w.heap.size + 1) 0 _ rfl rfl (show World.there _ _ 0 2 from blk_there K1.out.1.1.2) (by kernel_rfl) (by simp [Value.oneCell']) ?_)
   exact bodyPost_ret (results_cell1 Try.results52 _ _ ⟨(w.heap.size + 1), 0, none⟩ _ (by rfl) (run_loadVar_mid _ _ 0 _ _ _ (blk_range HBF.out) Try.underlying87 rfl (by kernel_rfl))) rfl ⟨none, 0, [], rfl, fun h => absurd h (by simp), by rw [HC.out.2]; rfl, setCells_below (by omega) _ _ _ K1.out.1.1.1.1⟩
 ·have hE : withE ws n = checkE ws := if_neg h0
  unfold RWithR
  rw [hE]
  generalize checkE ws = E at *
  have hz : (E != 0) = true := by simpa using h0
  clear h0 hE he hC
  go_enter Try.func52, Try.ntmps52
  go_upto_region 1 with fail
  generalize ((w.alloc (.cells #[.slice A ws.length c] 24)).alloc (.cells #[.slice none 0 0, .int .i64 0] 87)) = W2 at *
  have p0 := cr 0 K.out.1.1.1.2
  go_upto_region 2 with (go_at_call 75; refine (HC.out.1 _ K.out.1.2).mono ?_; rintro e w1 ⟨rfl, hb⟩; have K1 := Lib.hid (K.out.on hb); clear hb)
  clear p0 K
  have HBF := Lib.hid (setCells_blk K1.out.1.1.2 [.slice none 0 0, .int .i64 E] rfl)
  go_wp2_with (refine wpList_store_mid rfl 87 (.tmp 4) (.tmp 22) rfl (w.heap.size + 1) 0 _ rfl rfl (show World.there _ _ 0 2 from blk_there K1.out.1.1.2) (by kernel_rfl) (by simp [Value.oneCell']) ?_)
  exact bodyPost_ret (results_cell1 Try.results52 _ _ ⟨(w.heap.size + 1), 0, none⟩ _ (by rfl) (run_loadVar_mid _ _ 0 _ _ _ (blk_range HBF.out) Try.underlying87 rfl (by kernel_rfl))) rfl ⟨none, 0, [], rfl, fun h => absurd h (by simp), by rw [HC.out.2]; rfl, setCells_below (by omega) _ _ _ K1.out.1.1.1.1⟩
theorem made_bool {w : World} {B g n : Nat} (hown : w.ownsRow B 4 1 (.slice (some ⟨g, 0, none⟩) n n) n (madeCells (Value.bool false).cells (n * 1)).toList) : BolF w g n (fun _ => false) ∧ B ≤ g ∧ g < w.heap.size := by
 rcases hown.2 with ⟨e, hn⟩ | ⟨g', cap, cur, e, hbg, hg2, _⟩
 ·cases e
 ·cases e
  exact ⟨⟨fun j hj => by
   have h1 := World.ownsRow.cells hown (g := g) rfl j (.bool false) (by simp [madeCells, Value.cells, hj, Nat.mod_one])
   rw [add_eq, Nat.zero_add] at h1
   exact h1, fun o => by simp [World.frozen?, hg2]⟩, hbg, (Array.getElem?_eq_some_iff.1 hg2).1⟩
set_option maxRecDepth 100000 in
set_option maxHeartbeats 3200000 in
theorem rWithout_ok (A : Option Addr) (c : Nat) (ws : List Car) (n : Int) (w : World) (h : Wk w A ws) (he : withE ws n = 0) :
  Calls Try.prog 52 #[.agg #[.slice A ws.length c], .int .i64 n] w fun e w' => RWithR w ws n e w' := by
 obtain ⟨i0, hi0, hz0, hz1, hz2⟩ := info_parts info42
 obtain ⟨j0, hj0, hy0, hy1, hy2⟩ := info_parts info38r
 obtain ⟨k0, hk0, hx0, hx1, hx2⟩ := info_parts info4r
 obtain ⟨l0, hl0, ha0, ha1, ha2⟩ := info_parts info3
 have hb : Below w.heap.size w ((w.alloc (.cells #[.slice A ws.length c] 24)).alloc (.cells #[.slice none 0 0, .int .i64 0] 87)) := ((Below.refl _ w).alloc (Nat.le_refl _) _).alloc (by simp) _
 have K := Lib.hid ((((stays_bl hb).and (stays_blk (blk_alloc (blk_new w #[.slice A ws.length c] 24 rfl) _))).and (stays_blk (g := (w.heap.size + 1)) (blk_new (w.alloc (.cells #[.slice A ws.length c] 24)) #[.slice none 0 0, .int .i64 0] 87 (by simp)))).and (stays_wk (h.ext hb)))
 have hC : withC ws n = wioTo ws n ws.length := if_pos he
 have hch : checkE ws = 0 := by
  unfold withE at he
  by_cases h0 : checkE ws = 0
  ·exact h0
  ·rw [if_neg h0] at he; exact absurd he h0
 have g := good_of_check hch
 have hr0 : 0 ≤ n ∧ n ≤ (ws.length : Int) - 1 := by
  unfold withE at he
  rw [if_pos hch] at he
  by_cases h1 : 0 ≤ n ∧ n ≤ (ws.length : Int) - 1
  ·exact h1
  ·rw [if_neg h1] at he; cases he
 have hr1 : ¬ n < 0 := by omega
 have hr2 : ¬ (ws.length : Int) ≤ n := by omega
 have hck := fun W hW => rCheck_any A c ws W hW
 rw [hch] at hck
 have HC := hd5 hck hC (fun W hW => rPlaces_any A c ws W hW) (fun d W hW => rFeeder_any A c ws d W hW) g
 have hn16 := g.n1
 have hn60 := g.n2
 unfold RWithR
 rw [he]
 clear hb h hC hch g hck he
 go_enter Try.func52, Try.ntmps52
 go_upto_region 1 with fail
 generalize ((w.alloc (.cells #[.slice A ws.length c] 24)).alloc (.cells #[.slice none 0 0, .int .i64 0] 87)) = W2 at *
 have p0 := cr 0 K.out.1.1.1.2
 go_upto_region 4 with (go_at_call 75; refine (HC.out.1 _ K.out.1.2).mono ?_; rintro e w1 ⟨rfl, hb⟩; have K1 := Lib.hid (K.out.on hb); clear hb)
 clear p0 K
 have p0 := cr 0 K1.out.1.1.1.2
 go_upto_region 7 with (go_at_call 112; refine (HC.out.2.2.1 _ K1.out.1.2).mono ?_; rintro e X0 ⟨A5, c5, rfl, hr, hb⟩; have K2 := Lib.hid ((K1.out.on hb).and (stays_spans2 hr)); clear hb hr)
 clear p0 K1
 have p0 := cr 0 K2.out.1.1.1.1.2
 go_upto_region 8 with (refine wpList_make_full _ rfl _ _ 160 rfl X0.heap.size 4 k0 (.bool false) 1 Try.underlying160 hk0 hx0 hx1 .i64 .i64 (ws.length : Int) (ws.length : Int) ws.length rfl rfl rfl rfl (by rw [hx2]; omega) (by unfold maxLen; omega) (Nat.le_refl _) ?_; intro X1 hown hg; have HO1 := hd2 (made_bool hown) ((Below.refl _ X0).grown hg (Nat.le_refl _) (fun k e => by cases e)); clear hown hg)
 clear p0
 have p0 := cr 0 (K2.out.on HO1.out.2).1.1.1.1.2
 go_upto_region 9 with (refine wpList_make_full _ rfl _ _ 25 rfl X1.heap.size 3 l0 (.int .i64 0) 1 Try.underlying25 hl0 ha0 ha1 .i64 .i64 (ws.length : Int) (ws.length : Int) ws.length rfl rfl rfl rfl (by rw [ha2]; omega) (by unfold maxLen; omega) (Nat.le_refl _) ?_; intro X2 hown hg; have HO2 := hd2 (made_zero hown) ((Below.refl _ X1).grown hg (Nat.le_refl _) (fun k e => by cases e)); clear hown hg)
 have HG0 : Hid (GoI X0 X2 X0.heap.size X1.heap.size ws n 0 0) := by
  have h1 := HO1.out.1
  have h2 := HO2.out.1
  have e1 : (fun _ => false : Nat → Bool) = goF ws n 0 := funext fun j => by unfold goF; rw [decide_eq_false (by omega)]; rfl
  have e2 : (fun _ => 0 : Nat → Int) = noF ws n 0 := funext fun j => by unfold noF; rw [if_neg (by omega)]
  rw [e1] at h1
  rw [e2] at h2
  have hs := HO1.out.2.size
  have hs2 := HO2.out.2.size
  exact Lib.hid ⟨HO1.out.2.trans (HO2.out.2.mono hs), h1.1.heap (HO2.out.2.block _ h1.2.2), h2.1, ⟨Nat.le_refl _, by omega⟩, ⟨hs, h2.2.2⟩, by omega⟩
 generalize hgG : X0.heap.size = gG at *
 have HXG := Lib.hid hgG
 clear hgG
 generalize X1.heap.size = gN at *
 clear HO1 HO2 p0
 go_wp2
 go_loopg [9, 10] ws.length (fun gg vn i wr => ∃ t : Nat, t ≤ ws.length ∧ ws.length - t ≤ gg ∧ i = .int .i64 t ∧ vn = .int .i64 (cntB ws n t : Int) ∧ Aside (GoI X0 wr gG gN ws n t t))
 case atStart => exact ⟨0, Nat.zero_le _, by omega, rfl, rfl, HG0.out⟩
 case round =>
  obtain ⟨t, ht, hg, rfl, rfl, hS⟩ := hrel
  have HS := Lib.hid hS.out
  have K3 := Lib.hid (K2.out.on hS.out.bl)
  clear hS
  have p0 := cr 0 K3.out.1.1.1.1.2
  by_cases hlt : t < ws.length
  ·have hltz : (t : Int) < (ws.length : Int) := by omega
   have hct := cntB_le ws n t
   have hfd := HC.out.2.2.2.1 (t : Int) wr K3.out.1.1.2
   cases hu : upO ws (t : Int) with
   | none =>
    rw [hu] at hfd
    have hfd : Calls Try.prog 113 #[.agg #[.slice A ws.length c], .int .i64 (t : Int)] wr fun e w' => e = .returned (.int .i64 (-1)) ∧ Below wr.heap.size wr w' := hfd
    have HFD := Lib.hid hfd
    have HT := Lib.hid (stB_none (c := n) hu)
    clear hu hfd
    go_upto_region 14 with (go_at_call 113; refine HFD.out.mono ?_; rintro e w5 ⟨rfl, hb⟩; have HB := Lib.hid (HS.out.on hb); clear hb)
    clear HS K3 p0 HFD
    have e1 := HB.out.bg.at_ t hlt
    have f1 := HB.out.bg.fz t
    by_cases hn : (t : Int) = n
    ·have hst : stB ws n t = false := by rw [HT.out, decide_eq_false (fun h => h hn)]
     subst hn
     go_upto_region 15 with fail
     have HD := Lib.hid (HB.out.setG hlt (b := true) (by rw [hst]; rfl))
     clear e1 f1 HB
     generalize w5.setCell ⟨gG, t, none⟩ (.bool true) = wD at *
     have e1 := HD.out.bn.at_ t hlt
     have f1 := HD.out.bn.fz t
     go_upto_region 16 with fail
     have HE := Lib.hid (HD.out.setN hlt)
     clear e1 f1 HD
     generalize wD.setCell ⟨gN, t, none⟩ (.int .i64 (cntB ws _ t : Int)) = wE at *
     have e1 := HE.out.bg.at_ t hlt
     rw [goF_next, if_pos rfl, hst] at e1
     have e1 : wE.cell? ⟨gG, t, none⟩ = some (.bool true) := e1
     have HST := Lib.hid hst
     clear hst
     go_wp2
     go_roundg (ws.length - (t + 1))
     case measure => omega
     case rel => exact ⟨t + 1, by omega, by omega, by go_num, by rw [cntB_no HST.out], HE.out⟩
    ·have hst : stB ws n t = true := by rw [HT.out, decide_eq_true hn]
     have hnb : ((t : Int) == n) = false := by simpa using hn
     go_upto_region 15 with fail
     have HD := Lib.hid (HB.out.setG hlt (b := false) (by rw [hst]; rfl))
     clear e1 f1 HB
     generalize w5.setCell ⟨gG, t, none⟩ (.bool false) = wD at *
     have e1 := HD.out.bn.at_ t hlt
     have f1 := HD.out.bn.fz t
     go_upto_region 16 with fail
     have HE := Lib.hid (HD.out.setN hlt)
     clear e1 f1 HD
     generalize wD.setCell ⟨gN, t, none⟩ (.int .i64 (cntB ws _ t : Int)) = wE at *
     have e1 := HE.out.bg.at_ t hlt
     rw [goF_next, if_pos rfl, hst] at e1
     have e1 : wE.cell? ⟨gG, t, none⟩ = some (.bool false) := e1
     have HST := Lib.hid hst
     clear hst
     go_wp2
     go_roundg (ws.length - (t + 1))
     case measure => omega
     case rel => exact ⟨t + 1, by omega, by omega, by go_num, by rw [cntB_yes HST.out]; go_num, HE.out⟩
   | some y =>
    rw [hu] at hfd
    have hfd : Calls Try.prog 113 #[.agg #[.slice A ws.length c], .int .i64 (t : Int)] wr fun e w' => e = .returned (.int .i64 (y : Int)) ∧ Below wr.heap.size wr w' := hfd
    have HFD := Lib.hid hfd
    have HT := Lib.hid (stB_some HC.out.2.2.2.2 (c := n) hu)
    have hyN := (upO_some hu).1
    have hya := (up_lower HC.out.2.2.2.2 hu).2
    clear hu hfd
    go_upto_region 14 with (go_at_call 113; refine HFD.out.mono ?_; rintro e w5 ⟨rfl, hb⟩; have HB := Lib.hid (HS.out.on hb); clear hb)
    clear HS K3 p0 HFD
    have e1 := HB.out.bg.at_ t hlt
    have f1 := HB.out.bg.fz t
    by_cases hn : (t : Int) = n
    ·have hst : stB ws n t = false := by rw [HT.out, decide_eq_false (fun h => h hn)]; rfl
     subst hn
     go_upto_region 15 with fail
     have HD := Lib.hid (HB.out.setG hlt (b := true) (by rw [hst]; rfl))
     clear e1 f1 HB
     generalize w5.setCell ⟨gG, t, none⟩ (.bool true) = wD at *
     have e1 := HD.out.bn.at_ t hlt
     have f1 := HD.out.bn.fz t
     go_upto_region 16 with fail
     have HE := Lib.hid (HD.out.setN hlt)
     clear e1 f1 HD
     generalize wD.setCell ⟨gN, t, none⟩ (.int .i64 (cntB ws _ t : Int)) = wE at *
     have e1 := HE.out.bg.at_ t hlt
     rw [goF_next, if_pos rfl, hst] at e1
     have e1 : wE.cell? ⟨gG, t, none⟩ = some (.bool true) := e1
     have HST := Lib.hid hst
     clear hst
     go_wp2
     go_roundg (ws.length - (t + 1))
     case measure => omega
     case rel => exact ⟨t + 1, by omega, by omega, by go_num, by rw [cntB_no HST.out], HE.out⟩
    ·have hyz : (y : Int) < ((outs ws).length : Int) := by omega
     have hnb : ((t : Int) == n) = false := by simpa using hn
     obtain ⟨b5, o5, rfl, -, hc5⟩ := (K2.out.on HB.out.bl).1.2 (by rw [plS_length]; omega)
     have z5 := (hc5 y (by rw [plS_length]; exact hyN)).c0
     rw [plS_at hyN] at z5
     have hyl : caAt ws y < ws.length := by omega
     have hylz : (caAt ws y : Int) < (ws.length : Int) := by omega
     have e2 := HB.out.bg.at_ (caAt ws y) hyl
     have hg2 : goF ws n t (caAt ws y) = !stB ws n (caAt ws y) := by unfold goF; rw [decide_eq_true hya]; rfl
     rw [hg2] at e2
     clear hc5 hg2
     generalize hcy : caAt ws y = cy at *
     have HCY := Lib.hid hcy
     clear hcy
     cases hs : stB ws n cy with
     | true =>
      have hst : stB ws n t = true := by rw [HT.out, decide_eq_true hn, hs]; rfl
      rw [hs] at e2
      have e2 : w5.cell? ⟨gG, cy, none⟩ = some (.bool false) := e2
      clear hs
      rcases Nat.eq_zero_or_pos y with rfl | hy0
      ·simp only [Nat.zero_mul, Nat.add_zero] at z5
       go_upto_region 15 with fail
       have HD := Lib.hid (HB.out.setG hlt (b := false) (by rw [hst]; rfl))
       clear e1 f1 HB
       generalize w5.setCell ⟨gG, t, none⟩ (.bool false) = wD at *
       have e1 := HD.out.bn.at_ t hlt
       have f1 := HD.out.bn.fz t
       go_upto_region 16 with fail
       have HE := Lib.hid (HD.out.setN hlt)
       clear e1 f1 HD
       generalize wD.setCell ⟨gN, t, none⟩ (.int .i64 (cntB ws _ t : Int)) = wE at *
       have e1 := HE.out.bg.at_ t hlt
       rw [goF_next, if_pos rfl, hst] at e1
       have e1 : wE.cell? ⟨gG, t, none⟩ = some (.bool false) := e1
       have HST := Lib.hid hst
       clear hst
       go_wp2
       go_roundg (ws.length - (t + 1))
       case measure => omega
       case rel => exact ⟨t + 1, by omega, by omega, by go_num, by rw [cntB_yes HST.out]; go_num, HE.out⟩
      ·have hy0z : (0 : Int) < (y : Int) := by omega
       go_upto_region 15 with fail
       have HD := Lib.hid (HB.out.setG hlt (b := false) (by rw [hst]; rfl))
       clear e1 f1 HB
       generalize w5.setCell ⟨gG, t, none⟩ (.bool false) = wD at *
       have e1 := HD.out.bn.at_ t hlt
       have f1 := HD.out.bn.fz t
       go_upto_region 16 with fail
       have HE := Lib.hid (HD.out.setN hlt)
       clear e1 f1 HD
       generalize wD.setCell ⟨gN, t, none⟩ (.int .i64 (cntB ws _ t : Int)) = wE at *
       have e1 := HE.out.bg.at_ t hlt
       rw [goF_next, if_pos rfl, hst] at e1
       have e1 : wE.cell? ⟨gG, t, none⟩ = some (.bool false) := e1
       have HST := Lib.hid hst
       clear hst
       go_wp2
       go_roundg (ws.length - (t + 1))
       case measure => omega
       case rel => exact ⟨t + 1, by omega, by omega, by go_num, by rw [cntB_yes HST.out]; go_num, HE.out⟩
     | false =>
      have hst : stB ws n t = false := by rw [HT.out, hs, Bool.and_false]
      rw [hs] at e2
      have e2 : w5.cell? ⟨gG, cy, none⟩ = some (.bool true) := e2
      clear hs
      rcases Nat.eq_zero_or_pos y with rfl | hy0
      ·simp only [Nat.zero_mul, Nat.add_zero] at z5
       go_upto_region 15 with fail
       have HD := Lib.hid (HB.out.setG hlt (b := true) (by rw [hst]; rfl))
       clear e1 f1 HB
       generalize w5.setCell ⟨gG, t, none⟩ (.bool true) = wD at *
       have e1 := HD.out.bn.at_ t hlt
       have f1 := HD.out.bn.fz t
       go_upto_region 16 with fail
       have HE := Lib.hid (HD.out.setN hlt)
       clear e1 f1 HD
       generalize wD.setCell ⟨gN, t, none⟩ (.int .i64 (cntB ws _ t : Int)) = wE at *
       have e1 := HE.out.bg.at_ t hlt
       rw [goF_next, if_pos rfl, hst] at e1
       have e1 : wE.cell? ⟨gG, t, none⟩ = some (.bool true) := e1
       have HST := Lib.hid hst
       clear hst
       go_wp2
       go_roundg (ws.length - (t + 1))
       case measure => omega
       case rel => exact ⟨t + 1, by omega, by omega, by go_num, by rw [cntB_no HST.out], HE.out⟩
      ·have hy0z : (0 : Int) < (y : Int) := by omega
       go_upto_region 15 with fail
       have HD := Lib.hid (HB.out.setG hlt (b := true) (by rw [hst]; rfl))
       clear e1 f1 HB
       generalize w5.setCell ⟨gG, t, none⟩ (.bool true) = wD at *
       have e1 := HD.out.bn.at_ t hlt
       have f1 := HD.out.bn.fz t
       go_upto_region 16 with fail
       have HE := Lib.hid (HD.out.setN hlt)
       clear e1 f1 HD
       generalize wD.setCell ⟨gN, t, none⟩ (.int .i64 (cntB ws _ t : Int)) = wE at *
       have e1 := HE.out.bg.at_ t hlt
       rw [goF_next, if_pos rfl, hst] at e1
       have e1 : wE.cell? ⟨gG, t, none⟩ = some (.bool true) := e1
       have HST := Lib.hid hst
       clear hst
       go_wp2
       go_roundg (ws.length - (t + 1))
       case measure => omega
       case rel => exact ⟨t + 1, by omega, by omega, by go_num, by rw [cntB_no HST.out], HE.out⟩
  ·have hltz : ¬ (t : Int) < (ws.length : Int) := by omega
   obtain rfl : t = ws.length := by omega
   have HW0 : Hid (WoI wr (wr.alloc (.cells #[.slice none 0 0] 24)) (wr.alloc (.cells #[.slice none 0 0] 24)) wr.heap.size none 0 []) := Lib.hid ⟨(Below.refl _ wr).alloc (Nat.le_refl _) _, blk_new wr #[.slice none 0 0] 24 rfl, CsI.nil _ _, Nat.le_refl _, by simp⟩
   go_upto_region 20 with fail
   clear p0
   generalize wr.alloc (.cells #[.slice none 0 0] 24) = W1 at *
   generalize wr = W0 at *
   have HWK := Lib.hid K3.out.1.1.2.rd
   clear HG0 K2
   go_loopg [13] ws.length (fun gg i wr => ∃ (t : Nat) (A2 : Option Addr) (c2 : Nat) (cs : List Car), t ≤ ws.length ∧ ws.length - t ≤ gg ∧ i = .int .i64 t ∧ Aside (WoI W0 W1 wr W0.heap.size A2 c2 cs ∧ contW cs = wioTo ws n t))
   case atStart => exact ⟨0, none, 0, [], Nat.zero_le _, by omega, rfl, HW0.out, rfl⟩
   case round =>
    obtain ⟨t, A2, c2, cs, ht, hg, rfl, hA⟩ := hrel
    have HA := Lib.hid hA.out
    clear hA
    have K4 := Lib.hid (K3.out.on HA.out.1.bl)
    have p0 := cr 0 K4.out.1.1.1.1.2
    by_cases hlt : t < ws.length
    ·have hltz : (t : Int) < (ws.length : Int) := by omega
     have HGO := Lib.hid (HS.out.on HA.out.1.bl)
     have e1 := HGO.out.bg.at_ t hlt
     rw [show goF ws n ws.length t = !stB ws n t from by unfold goF; rw [decide_eq_true hlt]; rfl] at e1
     cases hs : stB ws n t with
     | false =>
      rw [hs] at e1
      have e1 : wr.cell? ⟨gG, t, none⟩ = some (.bool true) := e1
      have HN := Lib.hid (wioTo_no hs)
      clear hs
      go_wp2
      go_roundg (ws.length - (t + 1))
      case measure => omega
      case rel => exact ⟨t + 1, A2, c2, cs, by omega, by omega, by go_num, HA.out.1, by rw [HN.out]; exact HA.out.2⟩
     | true =>
      rw [hs] at e1
      have e1 : wr.cell? ⟨gG, t, none⟩ = some (.bool false) := e1
      have HN := Lib.hid (wioTo_yes hs)
      clear hs
      obtain ⟨b, off, rfl, hbl, hcs⟩ := HWK.out (by omega)
      have p1 := (HA.out.1.bl.cell (p := ⟨b, off + t, none⟩) hbl).trans (hcs t hlt).1
      have HO := Lib.hid (hcs t hlt).2
      have HGF : Hid (((cAt ws t).os.length ≤ 60) ∧ ∀ d, d < (cAt ws t).os.length → (1 ≤ (oAt (cAt ws t).os d).ps.length ∧ (oAt (cAt ws t).os d).ps.length ≤ 8) ∧ ((oAt (cAt ws t).os d).into = -1 ∨ ∃ z : Nat, (oAt (cAt ws t).os d).into = (z : Int) ∧ z < ws.length)) := Lib.hid ⟨by
       have h1 := start_succ hlt
       have h2 := start_mono (ws := ws) (c := t + 1) (d := ws.length) hlt (Nat.le_refl _)
       rw [start_all] at h2
       have := HC.out.2.2.2.2.n2
       omega, fun d hd => by
       have e := oAt_outs hlt hd
       have hl := start_lt hlt hd
       rw [← e]
       have hf := HC.out.2.2.2.2.fine hl
       refine ⟨hf.n, ?_⟩
       rcases hf.into with h | h
       ·exact .inl h
       ·exact .inr ⟨(oAt (outs ws) (start ws t + d)).into.toNat, by omega, by omega⟩⟩
      clear hcs hbl
      generalize (cAt ws t).A = A4 at *
      generalize (cAt ws t).c = c4 at *
      generalize (cAt ws t).os = os0 at *
      go_upto_region 25 with fail
      have hI0 : Hid (InX wr (wr.alloc (.cells #[.slice none 0 0] 38)) wr.heap.size ws n os0 none 0 0 []) := Lib.hid ⟨(Below.refl _ wr).alloc (Nat.le_refl _) _, blk_new wr #[.slice none 0 0] 38 rfl, OsI.nil _ _, rfl, rfl, by simp⟩
      have HP0 := hd2 p0 p1
      clear p0 p1 e1
      have hl60 := HGF.out.1
      generalize wr.alloc (.cells #[.slice none 0 0] 38) = W5 at *
      generalize wr = W4 at *
      go_loopg [15] os0.length (fun gg i wr => ∃ (d : Nat) (A3 : Option Addr) (c3 : Nat) (os' : List Ot), d ≤ os0.length ∧ os0.length - d ≤ gg ∧ i = .int .i64 d ∧ Aside (InX W4 wr W4.heap.size ws n os0 A3 c3 d os'))
      case atStart => exact ⟨0, none, 0, [], Nat.zero_le _, by omega, rfl, hI0.out⟩
      case round =>
       obtain ⟨d, A3, c3, os', hd0, hdg, rfl, hI⟩ := hrel
       have HI := Lib.hid hI.out
       clear hI
       have p0 := cell_below HI.out.bl HP0.out.1
       have p1 := cell_below HI.out.bl HP0.out.2
       by_cases hdl : d < os0.length
       ·have hdz : (d : Int) < (os0.length : Int) := by omega
        obtain ⟨b2, o2, rfl, hb2, hc2⟩ := HO.out (by omega)
        have hbw : Below W0.heap.size W0 wr := HA.out.1.bl.trans (HI.out.bl.mono HA.out.1.bl.size)
        have oa := (hc2 d hdl).below hbw (Nat.le_refl _) hb2
        have hps8 := (HGF.out.2 d hdl).1
        have hin := (HGF.out.2 d hdl).2
        obtain ⟨o, ho⟩ : ∃ o, oAt os0 d = o := ⟨_, rfl⟩
        have HOE := Lib.hid ho
        have HDL := Lib.hid hdl
        rw [ho] at oa hps8 hin
        have e0 := oa.c0
        have e1 := oa.c1
        have e2 := oa.c2
        have e3 := oa.c3
        have e4 := oa.c4
        have e5 := oa.c5
        have e6 := oa.c6
        have HRP := Lib.hid (oa.rd.mono hbw.size)
        have HGW := Lib.hid (HGO.out.on HI.out.bl)
        clear hc2 oa ho hbw
        go_upto_region 28 with fail
        clear e0 e1 e2 e3 e4 e5 e6 p0 p1
        have hbB := (Below.refl _ wr).alloc (Nat.le_refl _) (.cells #[.int .i64 o.id, .int .i64 o.into, .slice o.P o.ps.length o.c, .int .i64 o.kl, .int .i64 o.kh, .int .i64 o.sl, .int .i64 o.sh] 42)
        have kB := blk_new wr #[.int .i64 o.id, .int .i64 o.into, .slice o.P o.ps.length o.c, .int .i64 o.kl, .int .i64 o.kh, .int .i64 o.sl, .int .i64 o.sh] 42 rfl
        have HB := hd3 hbB (HRP.out.ext hbB) (lt_of_cell' (cr 0 kB))
        clear hbB HRP
        obtain ⟨gB, hgB⟩ : ∃ gB, wr.heap.size = gB := ⟨_, rfl⟩
        rw [hgB] at kB HB
        rw [hgB]
        generalize wr.alloc (.cells #[.int .i64 o.id, .int .i64 o.into, .slice o.P o.ps.length o.c, .int .i64 o.kl, .int .i64 o.kh, .int .i64 o.sl, .int .i64 o.sh] 42) = wB at *
        obtain ⟨bp, op, hP, hlbp, hcp⟩ := HB.out.2.1 (by omega)
        have hbE : Below wB.heap.size wB (wB.alloc (.cells #[] 3)) := (Below.refl _ wB).alloc (Nat.le_refl _) _
        have p2 := cr 2 (blk_on kB hbE)
        rw [hP] at p2
        have HNN : Hid ((wB.alloc (.cells #[] 3)).ownsRow wB.heap.size 3 1 (.slice (some ⟨wB.heap.size, 0, none⟩) 0 0) 0 [] ∧ (∀ (j : Nat) (u : Value), (o.ps.map (Value.int .i64))[j]? = some u → (wB.alloc (.cells #[] 3)).cell? ((⟨bp, op, none⟩ : Addr).add j) = some u) ∧ Below wB.heap.size wB (wB.alloc (.cells #[] 3))) := by
         refine Lib.hid ⟨⟨rfl, .inr ⟨wB.heap.size, 0, #[], rfl, Nat.le_refl _, World.alloc_heap_new _ _, Nat.le_refl _, by unfold maxLen; omega, rfl, rfl⟩⟩, fun j u hj => ?_, hbE⟩
         obtain ⟨hl, rfl⟩ := map_nth hj
         rw [add_eq]
         exact (hbE.cell (p := ⟨bp, op + j, none⟩) hlbp).trans (hcp j hl)
        clear hcp hlbp hbE
        go_upto_region 29 with (at_builtin; refine wpList_append_own_at _ rfl _ _ 25 rfl wB.heap.size 3 l0 (.int .i64 0) 1 8 Try.underlying25 hl0 ha0 ha1 ha2 rfl (by decide) (.slice (some ⟨wB.heap.size, 0, none⟩) 0 0) 0 [] rfl HNN.out.1 ⟨bp, op, none⟩ o.ps.length o.c (o.ps.map (Value.int .i64)) rfl (by simp) HNN.out.2.1 (ints_oneCell _ _) (by unfold maxLen; omega) (by omega) HNN.out.2.2.size ?_; intro v' wC hown hgrow _ _; obtain ⟨g9, cp, rfl, hg9, hg9', hI⟩ := own_ints4 hown (by omega); have hb9 : Below wB.heap.size wB wC := (((Below.refl _ wB).alloc (Nat.le_refl _) _).grown hgrow (by simp) (by intro k hk; simp [Value.ownBlock] at hk; omega)); have kC := blk_on kB hb9; have q2 := cr 2 kC; have f2 := bf 2 kC; have HC2 := hd4 hg9 hI hb9 hg9'; clear hown hgrow hb9 hg9 hI hg9')
        clear q2 f2 p2 HNN
        have HD0 : Hid (TuX W4 wr wC W4.heap.size gB #[.int .i64 o.id, .int .i64 o.into, .slice o.P o.ps.length o.c, .int .i64 o.kl, .int .i64 o.kh, .int .i64 o.sl, .int .i64 o.sh] (some ⟨g9, 0, none⟩) o.ps) := by
         have hgl : W4.heap.size ≤ gB := by rw [← hgB]; exact HI.out.bl.size
         have hbC : Below gB wr wC := HB.out.1.trans (HC2.out.2.2.1.mono (Nat.le_of_lt HB.out.2.2))
         have hsz := HC2.out.2.2.1.size
         have hgl2 := HB.out.2.2
         have hg9 := HC2.out.1
         refine Lib.hid ⟨HI.out.bl.trans (hbC.mono hgl), fun k hk => hbC.block k (by omega), by omega, IntF.rd HC2.out.2.1 HC2.out.2.2.2 (fun _ _ => rfl), fun ad e => ?_, fun ad e => ?_, kC, by omega, hgl⟩
         ·cases e; show wr.heap.size ≤ g9; omega
         ·cases e; show gB + 1 ≤ g9; omega
        have HD := Lib.hid (HD0.out.set 2 (.slice (some ⟨g9, 0, none⟩) o.ps.length cp))
        clear kB kC HB HC2 HD0 hgB hP
        generalize wC.setCell ⟨gB, 2, none⟩ (.slice (some ⟨g9, 0, none⟩) o.ps.length cp) = wD at *
        have kD := HD.out.k
        have q1 : wD.cell? ⟨gB, 1, none⟩ = some (.int .i64 o.into) := cr 1 kD
        have f1 := bf 1 kD
        rcases hin with hi1 | ⟨z, hi1, hzl⟩
        ·have HV : Hid (newInto ws n o.into = -1) := Lib.hid (by rw [hi1]; exact newInto_neg ws n)
         have HE : Hid (TuX W4 wr wD W4.heap.size gB #[.int .i64 o.id, .int .i64 (-1), .slice (some ⟨g9, 0, none⟩) o.ps.length cp, .int .i64 o.kl, .int .i64 o.kh, .int .i64 o.sl, .int .i64 o.sh] (some ⟨g9, 0, none⟩) o.ps) := by
          have := HD.out
          rw [hi1] at this
          exact Lib.hid this
         rw [hi1] at q1
         clear hi1 HD kD
         go_upto_region 33 with fail
         clear q1 f1
         generalize wD = wE at *
         have kE : Blk wE gB #[.int .i64 o.id, .int .i64 ((-1)), .slice (some ⟨g9, 0, none⟩) o.ps.length cp, .int .i64 o.kl, .int .i64 o.kh, .int .i64 o.sl, .int .i64 o.sh] 42 := HE.out.k
         have v0 := cr 0 kE
         have v1 := cr 1 kE
         have v2 := cr 2 kE
         have v3 := cr 3 kE
         have v4 := cr 4 kE
         have v5 := cr 5 kE
         have v6 := cr 6 kE
         have v7 := cr 0 ((HE.out.o _ (by have := HI.out.lt; omega)).trans HI.out.bk)
         clear kE
         have hbN := (Below.refl _ wE).alloc (Nat.le_refl _) (.cells #[.int .i64 o.id, .int .i64 ((-1)), .slice (some ⟨g9, 0, none⟩) o.ps.length cp, .int .i64 o.kl, .int .i64 o.kh, .int .i64 o.sl, .int .i64 o.sh] 42)
         have HX : Hid ((wE.alloc (.cells #[.int .i64 o.id, .int .i64 ((-1)), .slice (some ⟨g9, 0, none⟩) o.ps.length cp, .int .i64 o.kl, .int .i64 o.kh, .int .i64 o.sl, .int .i64 o.sh] 42)).ownsRow (W4.heap.size + 1) 42 7 (.slice A3 d c3) d (cellsO os') ∧ (∀ (j : Nat) (u : Value), (#[.int .i64 o.id, .int .i64 ((-1)), .slice (some ⟨g9, 0, none⟩) o.ps.length cp, .int .i64 o.kl, .int .i64 o.kh, .int .i64 o.sl, .int .i64 o.sh].toList)[j]? = some u → (wE.alloc (.cells #[.int .i64 o.id, .int .i64 ((-1)), .slice (some ⟨g9, 0, none⟩) o.ps.length cp, .int .i64 o.kl, .int .i64 o.kh, .int .i64 o.sl, .int .i64 o.sh] 42)).cell? ((⟨wE.heap.size, 0, none⟩ : Addr).add j) = some u) ∧ W4.heap.size + 1 ≤ (wE.alloc (.cells #[.int .i64 o.id, .int .i64 ((-1)), .slice (some ⟨g9, 0, none⟩) o.ps.length cp, .int .i64 o.kl, .int .i64 o.kh, .int .i64 o.sl, .int .i64 o.sh] 42)).heap.size ∧ Below W4.heap.size W4 (wE.alloc (.cells #[.int .i64 o.id, .int .i64 ((-1)), .slice (some ⟨g9, 0, none⟩) o.ps.length cp, .int .i64 o.kl, .int .i64 o.kh, .int .i64 o.sl, .int .i64 o.sh] 42)) ∧ (∀ k, k < wr.heap.size → (wE.alloc (.cells #[.int .i64 o.id, .int .i64 ((-1)), .slice (some ⟨g9, 0, none⟩) o.ps.length cp, .int .i64 o.kl, .int .i64 o.kh, .int .i64 o.sl, .int .i64 o.sh] 42)).heap[k]? = wr.heap[k]?) ∧ wr.heap.size ≤ (wE.alloc (.cells #[.int .i64 o.id, .int .i64 ((-1)), .slice (some ⟨g9, 0, none⟩) o.ps.length cp, .int .i64 o.kl, .int .i64 o.kh, .int .i64 o.sl, .int .i64 o.sh] 42)).heap.size ∧ Rd (wE.alloc (.cells #[.int .i64 o.id, .int .i64 ((-1)), .slice (some ⟨g9, 0, none⟩) o.ps.length cp, .int .i64 o.kl, .int .i64 o.kh, .int .i64 o.sl, .int .i64 o.sh] 42)) (wE.alloc (.cells #[.int .i64 o.id, .int .i64 ((-1)), .slice (some ⟨g9, 0, none⟩) o.ps.length cp, .int .i64 o.kl, .int .i64 o.kh, .int .i64 o.sl, .int .i64 o.sh] 42)).heap.size (some ⟨g9, 0, none⟩) o.ps) := by
          have h1 := HI.out.oi.own
          unfold OwnO at h1
          rw [HI.out.len] at h1
          have hk : ∀ k, k < wr.heap.size → (wE.alloc (.cells #[.int .i64 o.id, .int .i64 ((-1)), .slice (some ⟨g9, 0, none⟩) o.ps.length cp, .int .i64 o.kl, .int .i64 o.kh, .int .i64 o.sl, .int .i64 o.sh] 42)).heap[k]? = wr.heap[k]? := fun k h => (hbN.block k (Nat.lt_of_lt_of_le h HE.out.s)).trans (HE.out.o k h)
          have hlt := HI.out.lt
          have hss := HE.out.s
          have hbs := hbN.size
          exact Lib.hid ⟨row_keep h1 (fun k e => hk k (row_lt h1 e).2), World.news_of_block (cs := #[.int .i64 o.id, .int .i64 ((-1)), .slice (some ⟨g9, 0, none⟩) o.ps.length cp, .int .i64 o.kl, .int .i64 o.kh, .int .i64 o.sl, .int .i64 o.sh]) (t := 42) (fr := (0, 0)) (World.alloc_heap_new wE (.cells #[.int .i64 o.id, .int .i64 ((-1)), .slice (some ⟨g9, 0, none⟩) o.ps.length cp, .int .i64 o.kl, .int .i64 o.kh, .int .i64 o.sl, .int .i64 o.sh] 42)), by omega, HE.out.b.trans (hbN.mono (by omega)), hk, by omega, HE.out.r.ext hbN⟩
         clear hbN
         go_wp2_with (at_builtin; refine wpList_append_own_at _ rfl _ _ 36 rfl (W4.heap.size + 1) 42 i0 (.agg #[.int .i64 0, .int .i64 0, .slice none 0 0, .int .i64 0, .int .i64 0, .int .i64 0, .int .i64 0]) 7 72 Try.underlying36 hi0 hz0 hz1 hz2 rfl (by decide) (.slice A3 d c3) d _ rfl HX.out.1 ⟨wE.heap.size, 0, none⟩ 1 1 #[.int .i64 o.id, .int .i64 ((-1)), .slice (some ⟨g9, 0, none⟩) o.ps.length cp, .int .i64 o.kl, .int .i64 o.kh, .int .i64 o.sl, .int .i64 o.sh].toList rfl (by simp) HX.out.2.1 (by simp [Value.oneCell']) (by unfold maxLen; omega) (by omega) HX.out.2.2.1 ?_; intro v' w9 hown1 hgrow _ hb1; obtain ⟨A9, c9, rfl⟩ := row_slice hown1; have hk9 := HI.out.app HX.out.2.2.2.2.1 HX.out.2.2.2.2.2.1 hgrow; have q9 := cr 0 hk9; have f9 := bf 0 hk9; have HIN := Lib.hid (InX.push HI.out HDL.out HX.out.2.2.2.1 HX.out.2.2.2.2.1 HX.out.2.2.2.2.2.1 (pc := cp) (by rw [HOE.out]; exact HX.out.2.2.2.2.2.2) HE.out.f (o := ⟨o.id, (-1), some ⟨g9, 0, none⟩, cp, o.ps, o.kl, o.kh, o.sl, o.sh⟩) (by rw [HOE.out, HV.out]) hown1 hgrow hb1); clear hown1 hgrow hb1 hk9)
         go_roundg (os0.length - (d + 1))
         case measure => omega
         case rel => exact ⟨d + 1, A9, c9, _, by omega, by omega, by go_num, HIN.out⟩
        ·have hv := newInto_at (ws := ws) (n := n) hzl
         rw [← hi1] at hv
         rw [hi1] at q1
         have hzz : (z : Int) < (ws.length : Int) := by omega
         have HDG := Lib.hid (HGW.out.bg.heap (HD.out.o _ HGW.out.l1.2))
         have HDN := Lib.hid (HGW.out.bn.heap (HD.out.o _ HGW.out.l2.2))
         have ez := HDG.out.at_ z hzl
         rw [show goF ws n ws.length z = !stB ws n z from by unfold goF; rw [decide_eq_true hzl]; rfl] at ez
         cases hsz : stB ws n z with
         | false =>
          rw [hsz] at hv ez
          have ez : wD.cell? ⟨gG, z, none⟩ = some (.bool true) := ez
          have HV : Hid (newInto ws n o.into = -1) := Lib.hid (by rw [hv]; rfl)
          clear hsz hv hi1
          go_upto_region 33 with fail
          have HE := Lib.hid (HD.out.set 1 (.int .i64 (-1)))
          clear q1 f1 ez HD kD HDG HDN
          generalize wD.setCell ⟨gB, 1, none⟩ (.int .i64 (-1)) = wE at *
          have kE : Blk wE gB #[.int .i64 o.id, .int .i64 ((-1)), .slice (some ⟨g9, 0, none⟩) o.ps.length cp, .int .i64 o.kl, .int .i64 o.kh, .int .i64 o.sl, .int .i64 o.sh] 42 := HE.out.k
          have v0 := cr 0 kE
          have v1 := cr 1 kE
          have v2 := cr 2 kE
          have v3 := cr 3 kE
          have v4 := cr 4 kE
          have v5 := cr 5 kE
          have v6 := cr 6 kE
          have v7 := cr 0 ((HE.out.o _ (by have := HI.out.lt; omega)).trans HI.out.bk)
          clear kE
          have hbN := (Below.refl _ wE).alloc (Nat.le_refl _) (.cells #[.int .i64 o.id, .int .i64 ((-1)), .slice (some ⟨g9, 0, none⟩) o.ps.length cp, .int .i64 o.kl, .int .i64 o.kh, .int .i64 o.sl, .int .i64 o.sh] 42)
          have HX : Hid ((wE.alloc (.cells #[.int .i64 o.id, .int .i64 ((-1)), .slice (some ⟨g9, 0, none⟩) o.ps.length cp, .int .i64 o.kl, .int .i64 o.kh, .int .i64 o.sl, .int .i64 o.sh] 42)).ownsRow (W4.heap.size + 1) 42 7 (.slice A3 d c3) d (cellsO os') ∧ (∀ (j : Nat) (u : Value), (#[.int .i64 o.id, .int .i64 ((-1)), .slice (some ⟨g9, 0, none⟩) o.ps.length cp, .int .i64 o.kl, .int .i64 o.kh, .int .i64 o.sl, .int .i64 o.sh].toList)[j]? = some u → (wE.alloc (.cells #[.int .i64 o.id, .int .i64 ((-1)), .slice (some ⟨g9, 0, none⟩) o.ps.length cp, .int .i64 o.kl, .int .i64 o.kh, .int .i64 o.sl, .int .i64 o.sh] 42)).cell? ((⟨wE.heap.size, 0, none⟩ : Addr).add j) = some u) ∧ W4.heap.size + 1 ≤ (wE.alloc (.cells #[.int .i64 o.id, .int .i64 ((-1)), .slice (some ⟨g9, 0, none⟩) o.ps.length cp, .int .i64 o.kl, .int .i64 o.kh, .int .i64 o.sl, .int .i64 o.sh] 42)).heap.size ∧ Below W4.heap.size W4 (wE.alloc (.cells #[.int .i64 o.id, .int .i64 ((-1)), .slice (some ⟨g9, 0, none⟩) o.ps.length cp, .int .i64 o.kl, .int .i64 o.kh, .int .i64 o.sl, .int .i64 o.sh] 42)) ∧ (∀ k, k < wr.heap.size → (wE.alloc (.cells #[.int .i64 o.id, .int .i64 ((-1)), .slice (some ⟨g9, 0, none⟩) o.ps.length cp, .int .i64 o.kl, .int .i64 o.kh, .int .i64 o.sl, .int .i64 o.sh] 42)).heap[k]? = wr.heap[k]?) ∧ wr.heap.size ≤ (wE.alloc (.cells #[.int .i64 o.id, .int .i64 ((-1)), .slice (some ⟨g9, 0, none⟩) o.ps.length cp, .int .i64 o.kl, .int .i64 o.kh, .int .i64 o.sl, .int .i64 o.sh] 42)).heap.size ∧ Rd (wE.alloc (.cells #[.int .i64 o.id, .int .i64 ((-1)), .slice (some ⟨g9, 0, none⟩) o.ps.length cp, .int .i64 o.kl, .int .i64 o.kh, .int .i64 o.sl, .int .i64 o.sh] 42)) (wE.alloc (.cells #[.int .i64 o.id, .int .i64 ((-1)), .slice (some ⟨g9, 0, none⟩) o.ps.length cp, .int .i64 o.kl, .int .i64 o.kh, .int .i64 o.sl, .int .i64 o.sh] 42)).heap.size (some ⟨g9, 0, none⟩) o.ps) := by
           have h1 := HI.out.oi.own
           unfold OwnO at h1
           rw [HI.out.len] at h1
           have hk : ∀ k, k < wr.heap.size → (wE.alloc (.cells #[.int .i64 o.id, .int .i64 ((-1)), .slice (some ⟨g9, 0, none⟩) o.ps.length cp, .int .i64 o.kl, .int .i64 o.kh, .int .i64 o.sl, .int .i64 o.sh] 42)).heap[k]? = wr.heap[k]? := fun k h => (hbN.block k (Nat.lt_of_lt_of_le h HE.out.s)).trans (HE.out.o k h)
           have hlt := HI.out.lt
           have hss := HE.out.s
           have hbs := hbN.size
           exact Lib.hid ⟨row_keep h1 (fun k e => hk k (row_lt h1 e).2), World.news_of_block (cs := #[.int .i64 o.id, .int .i64 ((-1)), .slice (some ⟨g9, 0, none⟩) o.ps.length cp, .int .i64 o.kl, .int .i64 o.kh, .int .i64 o.sl, .int .i64 o.sh]) (t := 42) (fr := (0, 0)) (World.alloc_heap_new wE (.cells #[.int .i64 o.id, .int .i64 ((-1)), .slice (some ⟨g9, 0, none⟩) o.ps.length cp, .int .i64 o.kl, .int .i64 o.kh, .int .i64 o.sl, .int .i64 o.sh] 42)), by omega, HE.out.b.trans (hbN.mono (by omega)), hk, by omega, HE.out.r.ext hbN⟩
          clear hbN
          go_wp2_with (at_builtin; refine wpList_append_own_at _ rfl _ _ 36 rfl (W4.heap.size + 1) 42 i0 (.agg #[.int .i64 0, .int .i64 0, .slice none 0 0, .int .i64 0, .int .i64 0, .int .i64 0, .int .i64 0]) 7 72 Try.underlying36 hi0 hz0 hz1 hz2 rfl (by decide) (.slice A3 d c3) d _ rfl HX.out.1 ⟨wE.heap.size, 0, none⟩ 1 1 #[.int .i64 o.id, .int .i64 ((-1)), .slice (some ⟨g9, 0, none⟩) o.ps.length cp, .int .i64 o.kl, .int .i64 o.kh, .int .i64 o.sl, .int .i64 o.sh].toList rfl (by simp) HX.out.2.1 (by simp [Value.oneCell']) (by unfold maxLen; omega) (by omega) HX.out.2.2.1 ?_; intro v' w9 hown1 hgrow _ hb1; obtain ⟨A9, c9, rfl⟩ := row_slice hown1; have hk9 := HI.out.app HX.out.2.2.2.2.1 HX.out.2.2.2.2.2.1 hgrow; have q9 := cr 0 hk9; have f9 := bf 0 hk9; have HIN := Lib.hid (InX.push HI.out HDL.out HX.out.2.2.2.1 HX.out.2.2.2.2.1 HX.out.2.2.2.2.2.1 (pc := cp) (by rw [HOE.out]; exact HX.out.2.2.2.2.2.2) HE.out.f (o := ⟨o.id, (-1), some ⟨g9, 0, none⟩, cp, o.ps, o.kl, o.kh, o.sl, o.sh⟩) (by rw [HOE.out, HV.out]) hown1 hgrow hb1); clear hown1 hgrow hb1 hk9)
          go_roundg (os0.length - (d + 1))
          case measure => omega
          case rel => exact ⟨d + 1, A9, c9, _, by omega, by omega, by go_num, HIN.out⟩
         | true =>
          rw [hsz] at hv ez
          have ez : wD.cell? ⟨gG, z, none⟩ = some (.bool false) := ez
          have en := HDN.out.at_ z hzl
          rw [show noF ws n ws.length z = (cntB ws n z : Int) from by unfold noF; rw [if_pos hzl]] at en
          have HV : Hid (newInto ws n o.into = (cntB ws n z : Int)) := Lib.hid (by rw [hv]; rfl)
          clear hsz hv hi1
          go_upto_region 33 with fail
          have HE := Lib.hid (HD.out.set 1 (.int .i64 (cntB ws n z : Int)))
          clear q1 f1 ez en HD kD HDG HDN
          generalize wD.setCell ⟨gB, 1, none⟩ (.int .i64 (cntB ws n z : Int)) = wE at *
          have kE : Blk wE gB #[.int .i64 o.id, .int .i64 ((cntB ws n z : Int)), .slice (some ⟨g9, 0, none⟩) o.ps.length cp, .int .i64 o.kl, .int .i64 o.kh, .int .i64 o.sl, .int .i64 o.sh] 42 := HE.out.k
          have v0 := cr 0 kE
          have v1 := cr 1 kE
          have v2 := cr 2 kE
          have v3 := cr 3 kE
          have v4 := cr 4 kE
          have v5 := cr 5 kE
          have v6 := cr 6 kE
          have v7 := cr 0 ((HE.out.o _ (by have := HI.out.lt; omega)).trans HI.out.bk)
          clear kE
          have hbN := (Below.refl _ wE).alloc (Nat.le_refl _) (.cells #[.int .i64 o.id, .int .i64 ((cntB ws n z : Int)), .slice (some ⟨g9, 0, none⟩) o.ps.length cp, .int .i64 o.kl, .int .i64 o.kh, .int .i64 o.sl, .int .i64 o.sh] 42)
          have HX : Hid ((wE.alloc (.cells #[.int .i64 o.id, .int .i64 ((cntB ws n z : Int)), .slice (some ⟨g9, 0, none⟩) o.ps.length cp, .int .i64 o.kl, .int .i64 o.kh, .int .i64 o.sl, .int .i64 o.sh] 42)).ownsRow (W4.heap.size + 1) 42 7 (.slice A3 d c3) d (cellsO os') ∧ (∀ (j : Nat) (u : Value), (#[.int .i64 o.id, .int .i64 ((cntB ws n z : Int)), .slice (some ⟨g9, 0, none⟩) o.ps.length cp, .int .i64 o.kl, .int .i64 o.kh, .int .i64 o.sl, .int .i64 o.sh].toList)[j]? = some u → (wE.alloc (.cells #[.int .i64 o.id, .int .i64 ((cntB ws n z : Int)), .slice (some ⟨g9, 0, none⟩) o.ps.length cp, .int .i64 o.kl, .int .i64 o.kh, .int .i64 o.sl, .int .i64 o.sh] 42)).cell? ((⟨wE.heap.size, 0, none⟩ : Addr).add j) = some u) ∧ W4.heap.size + 1 ≤ (wE.alloc (.cells #[.int .i64 o.id, .int .i64 ((cntB ws n z : Int)), .slice (some ⟨g9, 0, none⟩) o.ps.length cp, .int .i64 o.kl, .int .i64 o.kh, .int .i64 o.sl, .int .i64 o.sh] 42)).heap.size ∧ Below W4.heap.size W4 (wE.alloc (.cells #[.int .i64 o.id, .int .i64 ((cntB ws n z : Int)), .slice (some ⟨g9, 0, none⟩) o.ps.length cp, .int .i64 o.kl, .int .i64 o.kh, .int .i64 o.sl, .int .i64 o.sh] 42)) ∧ (∀ k, k < wr.heap.size → (wE.alloc (.cells #[.int .i64 o.id, .int .i64 ((cntB ws n z : Int)), .slice (some ⟨g9, 0, none⟩) o.ps.length cp, .int .i64 o.kl, .int .i64 o.kh, .int .i64 o.sl, .int .i64 o.sh] 42)).heap[k]? = wr.heap[k]?) ∧ wr.heap.size ≤ (wE.alloc (.cells #[.int .i64 o.id, .int .i64 ((cntB ws n z : Int)), .slice (some ⟨g9, 0, none⟩) o.ps.length cp, .int .i64 o.kl, .int .i64 o.kh, .int .i64 o.sl, .int .i64 o.sh] 42)).heap.size ∧ Rd (wE.alloc (.cells #[.int .i64 o.id, .int .i64 ((cntB ws n z : Int)), .slice (some ⟨g9, 0, none⟩) o.ps.length cp, .int .i64 o.kl, .int .i64 o.kh, .int .i64 o.sl, .int .i64 o.sh] 42)) (wE.alloc (.cells #[.int .i64 o.id, .int .i64 ((cntB ws n z : Int)), .slice (some ⟨g9, 0, none⟩) o.ps.length cp, .int .i64 o.kl, .int .i64 o.kh, .int .i64 o.sl, .int .i64 o.sh] 42)).heap.size (some ⟨g9, 0, none⟩) o.ps) := by
           have h1 := HI.out.oi.own
           unfold OwnO at h1
           rw [HI.out.len] at h1
           have hk : ∀ k, k < wr.heap.size → (wE.alloc (.cells #[.int .i64 o.id, .int .i64 ((cntB ws n z : Int)), .slice (some ⟨g9, 0, none⟩) o.ps.length cp, .int .i64 o.kl, .int .i64 o.kh, .int .i64 o.sl, .int .i64 o.sh] 42)).heap[k]? = wr.heap[k]? := fun k h => (hbN.block k (Nat.lt_of_lt_of_le h HE.out.s)).trans (HE.out.o k h)
           have hlt := HI.out.lt
           have hss := HE.out.s
           have hbs := hbN.size
           exact Lib.hid ⟨row_keep h1 (fun k e => hk k (row_lt h1 e).2), World.news_of_block (cs := #[.int .i64 o.id, .int .i64 ((cntB ws n z : Int)), .slice (some ⟨g9, 0, none⟩) o.ps.length cp, .int .i64 o.kl, .int .i64 o.kh, .int .i64 o.sl, .int .i64 o.sh]) (t := 42) (fr := (0, 0)) (World.alloc_heap_new wE (.cells #[.int .i64 o.id, .int .i64 ((cntB ws n z : Int)), .slice (some ⟨g9, 0, none⟩) o.ps.length cp, .int .i64 o.kl, .int .i64 o.kh, .int .i64 o.sl, .int .i64 o.sh] 42)), by omega, HE.out.b.trans (hbN.mono (by omega)), hk, by omega, HE.out.r.ext hbN⟩
          clear hbN
          go_wp2_with (at_builtin; refine wpList_append_own_at _ rfl _ _ 36 rfl (W4.heap.size + 1) 42 i0 (.agg #[.int .i64 0, .int .i64 0, .slice none 0 0, .int .i64 0, .int .i64 0, .int .i64 0, .int .i64 0]) 7 72 Try.underlying36 hi0 hz0 hz1 hz2 rfl (by decide) (.slice A3 d c3) d _ rfl HX.out.1 ⟨wE.heap.size, 0, none⟩ 1 1 #[.int .i64 o.id, .int .i64 ((cntB ws n z : Int)), .slice (some ⟨g9, 0, none⟩) o.ps.length cp, .int .i64 o.kl, .int .i64 o.kh, .int .i64 o.sl, .int .i64 o.sh].toList rfl (by simp) HX.out.2.1 (by simp [Value.oneCell']) (by unfold maxLen; omega) (by omega) HX.out.2.2.1 ?_; intro v' w9 hown1 hgrow _ hb1; obtain ⟨A9, c9, rfl⟩ := row_slice hown1; have hk9 := HI.out.app HX.out.2.2.2.2.1 HX.out.2.2.2.2.2.1 hgrow; have q9 := cr 0 hk9; have f9 := bf 0 hk9; have HIN := Lib.hid (InX.push HI.out HDL.out HX.out.2.2.2.1 HX.out.2.2.2.2.1 HX.out.2.2.2.2.2.1 (pc := cp) (by rw [HOE.out]; exact HX.out.2.2.2.2.2.2) HE.out.f (o := ⟨o.id, (cntB ws n z : Int), some ⟨g9, 0, none⟩, cp, o.ps, o.kl, o.kh, o.sl, o.sh⟩) (by rw [HOE.out, HV.out]) hown1 hgrow hb1); clear hown1 hgrow hb1 hk9)
          go_roundg (os0.length - (d + 1))
          case measure => omega
          case rel => exact ⟨d + 1, A9, c9, _, by omega, by omega, by go_num, HIN.out⟩
       ·have hdz : ¬ (d : Int) < (os0.length : Int) := by omega
        obtain rfl : d = os0.length := by omega
        have HA6 := Lib.hid (HA.out.1.on HI.out.bl)
        have hcl : cs.length ≤ 16 := by
         have h1 := congrArg List.length HA.out.2
         rw [wioTo_length] at h1
         have h2 : (contW cs).length = cs.length := by simp [contW]
         have := cntB_le ws n t
         omega
        have HDN := Lib.hid (HI.out.oi.done (lo' := W1.heap.size) (r := (Value.slice A2 cs.length c2).ownBlock) (by have := HA.out.1.lt; omega) (fun k e => by have := (row_lt HA.out.1.ci.own e).2; omega))
        rw [HI.out.len] at HDN
        have q12 := cr 0 HA6.out.bk
        have q14 := cr 0 HI.out.bk
        have hbN := (Below.refl _ wr).alloc (Nat.le_refl _) (.cells #[.slice A3 os0.length c3] 38)
        have HX : Hid ((wr.alloc (.cells #[.slice A3 os0.length c3] 38)).ownsRow W1.heap.size 38 1 (.slice A2 cs.length c2) cs.length (cs.map cV) ∧ (∀ (j : Nat) (u : Value), ([.slice A3 os0.length c3] : List Value)[j]? = some u → (wr.alloc (.cells #[.slice A3 os0.length c3] 38)).cell? ((⟨wr.heap.size, 0, none⟩ : Addr).add j) = some u) ∧ W1.heap.size ≤ (wr.alloc (.cells #[.slice A3 os0.length c3] 38)).heap.size ∧ WoI W0 W1 (wr.alloc (.cells #[.slice A3 os0.length c3] 38)) W0.heap.size A2 c2 cs) := Lib.hid ⟨(HA6.out.on hbN).ci.own, World.news_of_block (cs := #[.slice A3 os0.length c3]) (t := 38) (fr := (0, 0)) (World.alloc_heap_new wr _), (HA6.out.on hbN).lt, HA6.out.on hbN⟩
        have HBN := Lib.hid hbN
        clear hbN
        go_wp2_with (at_builtin; refine wpList_append_own_at _ rfl _ _ 22 rfl W1.heap.size 38 j0 (.agg #[.slice none 0 0]) 1 24 Try.underlying22 hj0 hy0 hy1 hy2 rfl (by decide) (.slice A2 cs.length c2) cs.length (cs.map cV) rfl HX.out.1 ⟨wr.heap.size, 0, none⟩ 1 1 [.slice A3 os0.length c3] rfl (by simp) HX.out.2.1 (by simp [Value.oneCell']) (by unfold maxLen; omega) (by omega) HX.out.2.2.1 ?_; intro v' w9 hown1 hgrow _ hb1; obtain ⟨A9, c9, rfl⟩ := row_slice hown1; have q12 := cr 0 (HX.out.2.2.2.app hgrow); have f12 := bf 0 (HX.out.2.2.2.app hgrow); have HP := hd3 hown1 hgrow hb1; clear hown1 hgrow hb1)
        have HWN : Hid (WoI W0 W1 (w9.setCell ⟨W0.heap.size, 0, none⟩ (.slice A9 (cs.length + 1) c9)) W0.heap.size A9 c9 (cs ++ [⟨A3, c3, os'⟩]) ∧ contW (cs ++ [⟨A3, c3, os'⟩]) = wioTo ws n (t + 1)) := by
         obtain ⟨A7, c7, e7, h7, h8⟩ := HDN.out
         simp only [Value.slice.injEq, true_and] at e7
         obtain ⟨rfl, rfl⟩ := e7
         refine Lib.hid ⟨HX.out.2.2.2.push (k := ⟨A3, c3, os'⟩) (h7.ext HBN.out) h8 (by rw [show cV ⟨A3, c3, os'⟩ = .slice A3 os0.length c3 from by unfold cV; rw [HI.out.len]]; exact HP.out.1) HP.out.2.1 HP.out.2.2, ?_⟩
         rw [contW_snoc, HA.out.2, HN.out]
         dsimp only
         rw [HI.out.co, List.take_length]
        have hfe : (cs ++ [(⟨A3, c3, os'⟩ : Car)]).length = cs.length + 1 := by simp
        go_roundg (ws.length - (t + 1))
        case measure => omega
        case rel => exact ⟨t + 1, A9, c9, _, by omega, by omega, by go_num, HWN.out⟩
    ·have hltz : ¬ (t : Int) < (ws.length : Int) := by omega
     obtain rfl : t = ws.length := by omega
     have hlt4 : (w.heap.size + 1) < W0.heap.size := (Array.getElem?_eq_some_iff.1 K3.out.1.1.1.2).1
     have q12 := cr 0 HA.out.1.bk
     have HL4 := Lib.hid hlt4
     have HBF := Lib.hid (setCells_blk K4.out.1.1.1.2 [.slice A2 cs.length c2, .int .i64 0] rfl)
     clear hlt4
     go_wp2_with (refine wpList_store_mid rfl 87 (.tmp 4) (.tmp 154) rfl (w.heap.size + 1) 0 _ rfl rfl (show World.there _ _ 0 2 from blk_there K4.out.1.1.1.2) (by kernel_rfl) (by simp [Value.oneCell']) ?_)
     have hk : CsI (wr.setCells (w.heap.size + 1) 0 [.slice A2 cs.length c2, .int .i64 0]) W1.heap.size (.slice A2 cs.length c2) cs := HA.out.1.ci.keep (fun k h1 _ => setCells_oth (by have := HL4.out; have := HA.out.1.gl; omega) _ _ _) (by rw [setCells_size]; exact Nat.le_refl _)
     obtain ⟨A7, c7, e7, h7⟩ := hk.done
     simp only [Value.slice.injEq, true_and] at e7
     obtain ⟨rfl, rfl⟩ := e7
     exact bodyPost_ret (results_cell1 Try.results52 _ _ ⟨(w.heap.size + 1), 0, none⟩ _ (by rfl) (run_loadVar_mid _ _ 0 _ _ _ (blk_range HBF.out) Try.underlying87 rfl (by kernel_rfl))) rfl ⟨A2, c2, cs, rfl, h7, by rw [HC.out.2.1]; exact HA.out.2, setCells_below (by omega) _ _ _ K4.out.1.1.1.1.1⟩
theorem rWithout_any (A : Option Addr) (c : Nat) (ws : List Car) (n : Int) (w : World) (h : Wk w A ws) :
  Calls Try.prog 52 #[.agg #[.slice A ws.length c], .int .i64 n] w fun e w' => RWithR w ws n e w' := by
 by_cases he : withE ws n = 0
 ·exact rWithout_ok A c ws n w h he
 ·exact rWithout_bad A c ws n w h he
end Go.Proofs.Ytdadoelajhemjaa
