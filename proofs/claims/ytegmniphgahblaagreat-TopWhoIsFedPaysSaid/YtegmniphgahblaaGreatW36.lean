/- Walks: fedRight. -/
import Derived.Test.YtegmniphgahblaaGreatM16
import Derived.Test.YtegmniphgahblaaGreatM15
import Derived.Test.YtegmniphgahblaaGreatW33
import Derived.Test.YtegmniphgahblaaGreatW24
import Derived.Test.YtegmniphgahblaaGreatQ6
namespace Go.Proofs.YtegmniphgahblaaGreat
open Go.RowKit Go.Shelf

theorem rd_nth {w : World} {B b off : Nat} {xs : List Int} (h : Rd w B (some ⟨b, off, none⟩) xs) {i : Nat} (hi : i < xs.length) : b < B ∧ w.cell? ⟨b, off + i, none⟩ = some (.int .i64 (nth xs i)) := by
 obtain ⟨b', off', e, hl, hc⟩ := h (by omega)
 cases e
 exact ⟨hl, hc i hi⟩
set_option maxRecDepth 100000 in
set_option maxHeartbeats 3200000 in
theorem fedRight_any (A : Option Addr) (c : Nat) (ws : List Car) (cs : Cs) (s : Wt) (cost : List Int) (t : Tr) (w : World) (h : Wk w A ws) (hc : Csd w cs) (ht : TrAt w w.heap.size t) (hck : checkE ws = 0) (hcc : ccE ws cs = 0) (ok : Ok ws s) (hf : fitsB cs s = true)
  (hm : ws.length ≤ 6) (hN : (outs ws).length ≤ 14) (hco : ∀ i, i < cost.length → 0 ≤ nth cost i ∧ nth cost i ≤ 65535) (ers : t.rs = rsTo ws cost ws.length) (eps : t.ps = psTo ws (flowsO ws s) (outs ws).length) :
  Calls Tryz.prog 8 #[.agg #[.slice A ws.length c], cs.v, t.v] w fun e w' => e = .returned (.bool true) ∧ Below w.heap.size w w' := by
 obtain ⟨TA, tc, rs, TB, td, ps⟩ := t
 dsimp only at ers eps
 show Calls _ _ #[.agg #[.slice A ws.length c], .agg #[.slice cs.A0 cs.ri.length cs.c0, .slice cs.A1 cs.bo.length cs.c1], .agg #[.slice TA rs.length tc, .slice TB ps.length td]] _ _
 obtain ⟨g, k⟩ := cc_good hcc
 have rok : RsOk rs := by rw [ers]; exact rsTo_ok g hm hco
 have pok : PsOk rs ps := by rw [ers, eps]; exact psTo_ok g hN
 have hb3 : Below w.heap.size w (((w.alloc (.cells #[.slice A ws.length c] 24)).alloc (.cells #[.slice cs.A0 cs.ri.length cs.c0, .slice cs.A1 cs.bo.length cs.c1] 27)).alloc (.cells #[.slice TA rs.length tc, .slice TB ps.length td] 42)) := (((Below.refl _ w).alloc (Nat.le_refl _) _).alloc (by simp) _).alloc (by simp; omega) _
 have k0 : Blk (((w.alloc (.cells #[.slice A ws.length c] 24)).alloc (.cells #[.slice cs.A0 cs.ri.length cs.c0, .slice cs.A1 cs.bo.length cs.c1] 27)).alloc (.cells #[.slice TA rs.length tc, .slice TB ps.length td] 42)) w.heap.size #[.slice A ws.length c] 24 := blk_alloc (blk_alloc (blk_new w _ _ rfl) _) _
 have k1 : Blk (((w.alloc (.cells #[.slice A ws.length c] 24)).alloc (.cells #[.slice cs.A0 cs.ri.length cs.c0, .slice cs.A1 cs.bo.length cs.c1] 27)).alloc (.cells #[.slice TA rs.length tc, .slice TB ps.length td] 42)) (w.heap.size + 1) #[.slice cs.A0 cs.ri.length cs.c0, .slice cs.A1 cs.bo.length cs.c1] 27 := blk_alloc (blk_new (w.alloc (.cells #[.slice A ws.length c] 24)) (g := w.heap.size + 1) _ _ (by simp)) _
 have k2 : Blk (((w.alloc (.cells #[.slice A ws.length c] 24)).alloc (.cells #[.slice cs.A0 cs.ri.length cs.c0, .slice cs.A1 cs.bo.length cs.c1] 27)).alloc (.cells #[.slice TA rs.length tc, .slice TB ps.length td] 42)) (w.heap.size + 1 + 1) #[.slice TA rs.length tc, .slice TB ps.length td] 42 := blk_new ((w.alloc (.cells #[.slice A ws.length c] 24)).alloc (.cells #[.slice cs.A0 cs.ri.length cs.c0, .slice cs.A1 cs.bo.length cs.c1] 27)) (g := w.heap.size + 1 + 1) _ _ (by simp)
 have K := Lib.hid ((((stays_bl hb3).and (stays_blk k0)).and ((stays_blk k1).and (stays_blk k2))).and (((stays_wk (h.ext hb3)).and (stays_csd (hc.ext hb3))).and (stays_tr ((ht.ext hb3 (Nat.le_refl _)).mono hb3.size))))
 have hbd := fun W hW => Beds_any A c ws W hW
 have hen := fun id W hW hC => Ends_any A c ws cs id W hW hC
 have hpa := fun id W hW => Path_any A c ws id W hW
 have hlp := fun i hi W hW => Path_levy ⟨TA, tc, rs, TB, td, ps⟩ rok pok i hi W hW
 have hfc := fun id W hW => fedCarrier_any A c ws id W hW
 rw [hck] at hbd
 have HC := hd5 hbd hen hpa hlp hfc
 have HF := hd8 hck hcc ok hf g k rok pok
 have HE := hd2 ers eps
 have hbl : (bdL ws).length = (bdX ws).length := by rw [bdL_bdX hck, List.length_map]
 have hbx := bdX_le ws
 have hpn := pok.n
 rw [hbl] at HC
 clear hb3 k0 k1 k2 hbd hen hpa hlp hfc h hc ht hf rok pok g k ok hck hcc hbl ers eps hco
 go_enter Tryz.func8, Tryz.ntmps8
 go_upto_region 1 with fail
 generalize (((w.alloc (.cells #[.slice A ws.length c] 24)).alloc (.cells #[.slice cs.A0 cs.ri.length cs.c0, .slice cs.A1 cs.bo.length cs.c1] 27)).alloc (.cells #[.slice TA rs.length tc, .slice TB ps.length td] 42)) = W0 at *
 have p0 := cr 0 K.out.1.1.1.2
 go_upto_region 5 with (go_at_call 19; refine (HC.out.1 W0 K.out.1.2.1.1).mono ?_; rintro e w1 ⟨A1, c1, rfl, hrd, hb⟩; have K1 := Lib.hid ((K.out.on hb).and (stays_rd hrd)); clear hb hrd p0)
 clear K
 go_loopg [9] (bdX ws).length (fun gg i wr => ∃ j : Nat, j ≤ (bdX ws).length ∧ (bdX ws).length - j ≤ gg ∧ i = .int .i64 (j : Int) ∧ Aside (Below w1.heap.size w1 wr))
 case atStart => exact ⟨0, Nat.zero_le _, Nat.le_refl _, by go_num, Below.refl _ _⟩
 case round =>
  obtain ⟨j, hj, hgg, rfl, hA⟩ := hrel
  have K2 := Lib.hid (K1.out.on hA.out)
  have HA1 := Lib.hid hA.out
  clear hA
  by_cases hlt : j < (bdX ws).length
  ·have hltz : (j : Int) < ((bdX ws).length : Int) := by omega
   obtain ⟨hx, hxi⟩ := bdX_at hlt
   have hat := bdL_at HF.out.1 hlt
   obtain ⟨b, off, rfl, lb, hrd⟩ := K2.out.1.2 (by rw [bdL_bdX HF.out.1, List.length_map]; omega)
   have b0 := hrd j (by rw [bdL_bdX HF.out.1, List.length_map]; exact hlt)
   rw [hat] at b0
   clear hrd hat
   obtain ⟨x, hxe⟩ : ∃ x, (bdX ws).getD j 0 = x := ⟨_, rfl⟩
   rw [hxe] at hx hxi b0
   obtain ⟨ID, hID⟩ : ∃ ID, (oAt (outs ws) x).id = ID := ⟨_, rfl⟩
   rw [hID] at b0
   have hix : idxO ws ID = some x := by rw [← hID]; exact idx_of HF.out.2.2.2.2.1 hx
   have hq0 : askE ws cs ID = 0 := by
    unfold askE
    rw [if_pos HF.out.2.1, hix]
    rfl
   have hs0 : sigE ws ID = 0 := by
    unfold sigE
    rw [if_pos HF.out.1, hix]
    rfl
   have hsl : sgL ws ID ptX = ptX ws x := by
    unfold sgL
    rw [if_pos hs0, hix]
   have hpe := pays_ends HF.out.1 HF.out.2.2.2.2.1 HF.out.2.2.2.2.2.1 HF.out.2.2.1 HF.out.2.2.2.1 hx hxi
   have hpi := payId_psTo HF.out.2.2.2.2.1 (fl := flowsO ws s) hx
   rw [← HE.out.2, hID] at hpi
   have hE : ∀ W, Wk W A ws → Csd W cs → Calls Tryz.prog 20 #[.agg #[.slice A ws.length c], .agg #[.slice cs.A0 cs.ri.length cs.c0, .slice cs.A1 cs.bo.length cs.c1], .int .i64 ID] W fun e w' => ∃ s1 t1 : Wt, e = .returned (.tuple #[supV (endsF ws cs x) s1 t1, .int .i64 0]) ∧ Below W.heap.size W w' := fun W h1 h2 => (HC.out.2.1 _ W h1 h2).mono fun e w' ⟨hb, h⟩ => by
    rcases h with ⟨h, _⟩ | ⟨_, x', s', t', hi, he, _⟩
    ·exact absurd hq0 h
    ·rw [hix] at hi; cases hi; exact ⟨s', t', he, hb⟩
   have hPa := HC.out.2.2.1 ID
   rw [hsl, hs0] at hPa
   have hLp : paysB ws (flowsO ws s) x = true → ∃ L2 : List Int, L2.length = (ptX ws x).length ∧ (∀ n, n < (ptX ws x).length → fcI ws (nth (ptX ws x) n) = nth L2 n) ∧ ∀ W, TrAt W W.heap.size ⟨TA, tc, rs, TB, td, ps⟩ → Calls Tryz.prog 22 #[.agg #[.slice TA rs.length tc, .slice TB ps.length td], .int .i64 ID] W fun e w' => ∃ A' c', e = .returned (.tuple #[.slice A' (ptX ws x).length c', .int .i64 0]) ∧ Rd w' w'.heap.size A' L2 ∧ Below W.heap.size W w' := fun hp => by
    obtain ⟨i, hi, hy⟩ := psTo_has hx hp
    rw [← HE.out.2] at hi hy
    have hpl := path_len HF.out.2.2.2.2.1 (HE.out.1 ▸ HF.out.2.2.2.2.2.2.1) hx
    have hpa := fun n hn => path_at (k := n) HF.out.2.2.2.2.1 (HE.out.1 ▸ HF.out.2.2.2.2.2.2.1) hx hn
    rw [← HE.out.1] at hpl hpa
    have hcall := HC.out.2.2.2.1 i hi
    rw [hy, show (payT ws x).id = ID from hID, show (payT ws x).rc = (caAt ws x : Int) from rfl, hpl] at hcall
    refine ⟨_, by rw [ints_length, List.length_reverse, hpl], fun n hn => hpa n (by unfold ptX at hn; rwa [List.length_map] at hn), fun W hW => (hcall W hW).mono fun e w' ⟨⟨A', c', he, hr, _⟩, hb⟩ => ⟨A', c', he, hr, hb⟩⟩
   have HEN := Lib.hid hE
   have HPA := hd3 hPa hLp HC.out.2.2.2.2
   have hp6 : (ptX ws x).length ≤ 6 := by
    have h1 := upList_len HF.out.2.2.2.2.1 _ x rfl
    have h2 := caAt_lt hx
    unfold ptX pathN
    rw [List.length_map, List.length_reverse]
    omega
   have HQ := hd2 hpe hpi
   have HBJ := Lib.hid (show j < (bdL ws).length ∧ nth (bdL ws) j = ID from ⟨by rw [bdL_bdX HF.out.1, List.length_map]; exact hlt, by rw [bdL_at HF.out.1 hlt, hxe, hID]⟩)
   clear hE hq0 hs0 hsl hpe hpi hPa hLp hix hID hxi hxe
   go_upto_region 7 with fail
   rename World => wr
   go_cut [10, 11] from 26 to 133 (fun p e w' => ∃ b, p = .pointer (some ⟨b, 0, none⟩) ∧ e = .int .i64 0 ∧ Aside (∃ s1 t1 : Wt, Blk w' b #[.int .i64 (endsF ws cs x).1, .int .i64 (endsF ws cs x).2, .slice s1.A0 s1.ri.length s1.c0, .slice s1.A1 s1.bo.length s1.c1, .slice s1.A2 s1.lk.length s1.c2, .slice s1.A3 s1.lo.length s1.c3, .slice t1.A0 t1.ri.length t1.c0, .slice t1.A1 t1.bo.length t1.c1, .slice t1.A2 t1.lk.length t1.c2, .slice t1.A3 t1.lo.length t1.c3] 74 ∧ Below wr.heap.size wr w'))
   case first =>
    have p0 := cr 0 K2.out.1.1.1.1.2
    have p1 := cr 0 K2.out.1.1.1.2.1
    have p2 := cr 1 K2.out.1.1.1.2.1
    refine wp_region_R (fun j => j != 11) ?_
    have a0 : wr.drew.cell? ⟨w.heap.size, 0, none⟩ = _ := p0
    have a1 : wr.drew.cell? ⟨w.heap.size + 1, 0, none⟩ = _ := p1
    have a2 : wr.drew.cell? ⟨w.heap.size + 1, 1, none⟩ = _ := p2
    have d0 : wr.drew.cell? ⟨b, off + j, none⟩ = _ := b0
    have hbw : Below wr.heap.size wr wr.drew := (Below.refl _ _).drew
    have K3 := Lib.hid (K2.out.on hbw)
    clear p0 p1 p2 b0
    generalize wr.drew = X0 at *
    refine bT a0 0 rfl ?_
    refine bP a1 a2 1 rfl ?_
    refine bF 2 rfl ?_
    refine bF 3 rfl ?_
    refine bF 4 rfl ?_
    refine bT d0 5 rfl ?_
    clear a0 a1 a2 d0
    have h0 := Below.refl X0.heap.size X0
    refine bA (rs := [6, 10]) (AllR.cons rfl (fun K hK => ?_) (AllR.cons rfl (fun K hK => ?_) AllR.nil))
    ·go_simp
     refine (HEN.out X0 (K3.out.on h0).1.1.2.1.1 (K3.out.on h0).1.1.2.1.2).mono ?_
     rintro e X1 ⟨s1, t1, rfl, hb⟩
     dsimp only [supV]
     refine hK.out _ _ (fun _ => hb) ?_
     have h1 := h0.trans (hb.mono h0.size)
     clear hK
     refine bF 7 rfl ?_
     refine bF 8 rfl ?_
     refine bN 9 rfl ?_
     refine bR 10 rfl fun K hK => ?_
     go_simp
     refine hK.out _ _ (fun _ => (Below.refl _ _).alloc (Nat.le_refl _) _) ?_
     clear hK
     have hb3 := (Below.refl _ X1).alloc (Nat.le_refl _) (.cells #[.int .i64 0, .int .i64 0, .slice none 0 0, .slice none 0 0, .slice none 0 0, .slice none 0 0, .slice none 0 0, .slice none 0 0, .slice none 0 0, .slice none 0 0] 74)
     have h2 := h1.trans (hb3.mono h1.size)
     have hbk := blk_new X1 (g := X1.heap.size) #[.int .i64 0, .int .i64 0, .slice none 0 0, .slice none 0 0, .slice none 0 0, .slice none 0 0, .slice none 0 0, .slice none 0 0, .slice none 0 0, .slice none 0 0] 74 rfl
     have hh0 := h1.size
     refine bR 11 rfl fun K hK => ?_
     have hh := h2.size
     refine wp_store_mid 74 (.tmp 10) (.tmp 40) rfl X1.heap.size 0 #[.int .i64 (endsF ws cs x).1, .int .i64 (endsF ws cs x).2, .slice s1.A0 s1.ri.length s1.c0, .slice s1.A1 s1.bo.length s1.c1, .slice s1.A2 s1.lk.length s1.c2, .slice s1.A3 s1.lo.length s1.c3, .slice t1.A0 t1.ri.length t1.c0, .slice t1.A1 t1.bo.length t1.c1, .slice t1.A2 t1.lk.length t1.c2, .slice t1.A3 t1.lo.length t1.c3] rfl rfl (show World.there _ _ 0 10 from blk_there hbk) (by kernel_rfl) (by simp [Value.oneCell']) ?_
     refine hK.out _ _ (fun h => by cases h) ?_
     clear hK
     refine bF 12 rfl ?_
     refine bD ?_
     have hbz := hbw.trans (h2.mono hbw.size)
     have hwz := hbw.size
     go_wp2_with fail
     go_meet
     case rel => exact ⟨X1.heap.size, rfl, rfl, (show ∃ s1 t1 : Wt, _ ∧ _ from ⟨s1, t1, setCells_blk hbk _ rfl, setCells_below (by omega) _ _ _ hbz⟩)⟩
    ·go_simp
     refine hK.out _ _ (fun _ => (Below.refl _ _).alloc (Nat.le_refl _) _) ?_
     clear hK
     have h1 := h0.alloc (Nat.le_refl _) (.cells #[.int .i64 0, .int .i64 0, .slice none 0 0, .slice none 0 0, .slice none 0 0, .slice none 0 0, .slice none 0 0, .slice none 0 0, .slice none 0 0, .slice none 0 0] 74)
     have hbk := blk_new X0 (g := X0.heap.size) #[.int .i64 0, .int .i64 0, .slice none 0 0, .slice none 0 0, .slice none 0 0, .slice none 0 0, .slice none 0 0, .slice none 0 0, .slice none 0 0, .slice none 0 0] 74 rfl
     have hsz3 : (X0.alloc (.cells #[.int .i64 0, .int .i64 0, .slice none 0 0, .slice none 0 0, .slice none 0 0, .slice none 0 0, .slice none 0 0, .slice none 0 0, .slice none 0 0, .slice none 0 0] 74)).heap.size = X0.heap.size + 1 := by simp
     refine bR 6 rfl fun K hK => ?_
     go_simp
     refine (HEN.out (X0.alloc (.cells #[.int .i64 0, .int .i64 0, .slice none 0 0, .slice none 0 0, .slice none 0 0, .slice none 0 0, .slice none 0 0, .slice none 0 0, .slice none 0 0, .slice none 0 0] 74)) (K3.out.on h1).1.1.2.1.1 (K3.out.on h1).1.1.2.1.2).mono ?_
     rintro e X2 ⟨s1, t1, rfl, hb⟩
     dsimp only [supV]
     refine hK.out _ _ (fun _ => hb) ?_
     have h2 := h1.trans (hb.mono h1.size)
     clear hK
     have hbk' : Blk X2 X0.heap.size _ _ := (hb.block _ (by omega)).trans hbk
     refine bF 7 rfl ?_
     refine bF 8 rfl ?_
     refine bN 9 rfl ?_
     refine bR 11 rfl fun K hK => ?_
     have hh0 := h0.size
     have hh := h2.size
     refine wp_store_mid 74 (.tmp 10) (.tmp 40) rfl X0.heap.size 0 #[.int .i64 (endsF ws cs x).1, .int .i64 (endsF ws cs x).2, .slice s1.A0 s1.ri.length s1.c0, .slice s1.A1 s1.bo.length s1.c1, .slice s1.A2 s1.lk.length s1.c2, .slice s1.A3 s1.lo.length s1.c3, .slice t1.A0 t1.ri.length t1.c0, .slice t1.A1 t1.bo.length t1.c1, .slice t1.A2 t1.lk.length t1.c2, .slice t1.A3 t1.lo.length t1.c3] rfl rfl (show World.there _ _ 0 10 from blk_there hbk') (by kernel_rfl) (by simp [Value.oneCell']) ?_
     refine hK.out _ _ (fun h => by cases h) ?_
     clear hK
     refine bF 12 rfl ?_
     refine bD ?_
     have hbz := hbw.trans (h2.mono hbw.size)
     have hwz := hbw.size
     go_wp2_with fail
     go_meet
     case rel => exact ⟨X0.heap.size, rfl, rfl, (show ∃ s1 t1 : Wt, _ ∧ _ from ⟨s1, t1, setCells_blk hbk' _ rfl, setCells_below (by omega) _ _ _ hbz⟩)⟩
   obtain ⟨bS, rfl, rfl, hcA⟩ := hcut
   obtain ⟨s1, t1, hS, hbc⟩ : ∃ s1 t1 : Wt, Blk wc bS #[.int .i64 (endsF ws cs x).1, .int .i64 (endsF ws cs x).2, .slice s1.A0 s1.ri.length s1.c0, .slice s1.A1 s1.bo.length s1.c1, .slice s1.A2 s1.lk.length s1.c2, .slice s1.A3 s1.lo.length s1.c3, .slice t1.A0 t1.ri.length t1.c0, .slice t1.A1 t1.bo.length t1.c1, .slice t1.A2 t1.lk.length t1.c2, .slice t1.A3 t1.lo.length t1.c3] 74 ∧ Below wr.heap.size wr wc := hcA
   have K4 := Lib.hid ((K2.out.on hbc).and (stays_blk hS))
   have HA2 := Lib.hid (HA1.out.trans (hbc.mono HA1.out.size))
   clear HA1
   clear hS hbc b0 K2
   generalize (endsF ws cs x).1 = lo at *
   generalize (endsF ws cs x).2 = hi at *
   go_upto_region 10 with fail
   go_loopg [12, 13] ps.length (fun gg p i wr => ∃ n : Nat, n ≤ ps.length ∧ ps.length - n ≤ gg ∧ i = .int .i64 (n : Int) ∧ p = .bool (payId ps ID n) ∧ Aside (Below wc.heap.size wc wr))
   case atStart => exact ⟨0, Nat.zero_le _, Nat.le_refl _, by go_num, rfl, Below.refl _ _⟩
   case round =>
    obtain ⟨n, hn, hgn, rfl, rfl, hB⟩ := hrel
    have K5 := Lib.hid (K4.out.on hB.out)
    have HB := Lib.hid hB.out
    clear hB
    rename World => wr2
    obtain ⟨P, hP⟩ : ∃ P, payId ps ID n = P := ⟨_, rfl⟩
    rw [hP]
    have e1 := cr 1 K5.out.1.1.1.1.2.2
    by_cases hlp : n < ps.length
    ·have hlpz : (n : Int) < (ps.length : Int) := by omega
     have hsc := payId_succ ps ID n
     rw [hP] at hsc
     obtain ⟨b', off', rfl, lb', hc'⟩ := K5.out.1.1.1.2.2.p (by show 0 < ps.length; omega)
     have f0 := (hc' n hlp).1
     dsimp only at f0 lb'
     obtain ⟨lb2, d0⟩ := rd_nth K5.out.1.1.2 HBJ.out.1
     rw [HBJ.out.2] at d0
     have lt2 : w.heap.size + 1 + 1 < wr2.heap.size := (Array.getElem?_eq_some_iff.1 K5.out.1.1.1.1.2.2).1
     clear hc'
     go_upto_region 12 with fail
     cases P with
     | true =>
      refine wp_region_ext (by kernel_rfl) (by kernel_rfl) ?_
      intro ι _ X hX hC
      have rX := fun k => (bcell (hX k)).1
      repeat (first | go_big_quiet_skip | (go_big_quiet_want; go_big_quiet_op; first | go_big_quiet_on | (apply Exists.intro; refine ⟨fun _ => ?_, ?_⟩; (focus (fail)); go_big_quiet_on)))
      refine wpQuiet_nil ?_
      intro w6 hb6
      clear rX hX hC
      have HB6 := Lib.hid (HB.out.trans (hb6.mono HB.out.size))
      clear hb6
      have HSC := Lib.hid hsc
      clear hsc
      go_wp2
      go_roundg (ps.length - (n + 1))
      case measure => omega
      case rel => exact ⟨n + 1, by omega, by omega, by go_num, by rw [HSC.out]; rfl, HB6.out⟩
     | false =>
      obtain ⟨D, hD⟩ : ∃ D, ((yAt ps n).id == ID) = D := ⟨_, rfl⟩
      have hsc2 : payId ps ID (n + 1) = D := by rw [hsc, ← hD, Bool.false_or, Bool.eq_iff_iff]; simp
      have HSC := Lib.hid hsc2
      clear hsc hsc2
      refine wp_region_ext (by kernel_rfl) (by kernel_rfl) ?_
      intro ι _ X hX hC
      have rX := fun k => (bcell (hX k)).1
      repeat (first | go_big_quiet_skip | (go_big_quiet_want; go_big_quiet_op; first | go_big_quiet_on | (apply Exists.intro; refine ⟨fun _ => ?_, ?_⟩; (focus (fail)); go_big_quiet_on)))
      refine wpQuiet_nil ?_
      intro w6 hb6
      clear rX hX hC
      have HB6 := Lib.hid (HB.out.trans (hb6.mono HB.out.size))
      clear hb6
      go_wp2
      go_roundg (ps.length - (n + 1))
      case measure => omega
      case rel => exact ⟨n + 1, by omega, by omega, by go_num, by rw [HSC.out], HB6.out⟩
    ·obtain rfl : n = ps.length := by omega
     have hPe : paysB ws (flowsO ws s) x = P := by rw [← HQ.out.2, hP]
     have l0 := cr 0 K5.out.1.2
     have l1 := cr 1 K5.out.1.2
     have hlo : P = false → ¬ lo > 0 := fun h hl => by have := HQ.out.1.1 hl; rw [hPe, h] at this; cases this
     have hhi : P = true → (hi == 0) = false := fun h => by
      cases e : (hi == 0)
      ·rfl
      ·have := HQ.out.1.2 (by simpa using e)
       rw [hPe, h] at this; cases this
     have HLH := hd2 hlo hhi
     have HPE := Lib.hid hPe
     have HA3 := Lib.hid (HA2.out.trans (HB.out.mono HA2.out.size))
     clear hPe hlo hhi hP
     go_upto_region 13 with fail
     clear e1
     go_cut [83] from 26 to 133 (fun q w' => q = .bool false ∧ wr2 = w')
     case first =>
      cases P with
      | true =>
       have hz := HLH.out.2 rfl
       by_cases hl : lo > 0
       ·go_wp2_with fail
        go_meet
        case rel => exact ⟨rfl, rfl⟩
       ·go_wp2_with fail
        go_meet
        case rel => exact ⟨rfl, rfl⟩
      | false =>
       have hl := HLH.out.1 rfl
       cases hz : (hi == 0) with
       | true =>
        go_wp2_with fail
        go_meet
        case rel => exact ⟨rfl, rfl⟩
       | false =>
        go_wp2_with fail
        go_meet
        case rel => exact ⟨rfl, rfl⟩
     obtain ⟨rfl, rfl⟩ := hcut
     clear l0 l1
     cases P with
     | false =>
      go_wp2
      go_roundg ((bdX ws).length - (j + 1))
      case measure => omega
      case rel => exact ⟨j + 1, by omega, by omega, by go_num, HA3.out⟩
     | true =>
      obtain ⟨L2, hL2, hfc, hlp⟩ := HPA.out.2.1 HPE.out
      have hpa := HPA.out.1
      obtain ⟨L1, hL1⟩ : ∃ L1, ptX ws x = L1 := ⟨_, rfl⟩
      rw [hL1] at hL2 hfc hlp hpa hp6
      have HP1 := hd5 hpa hlp HPA.out.2.2 hfc hL2
      clear hpa hlp hfc hL1
      clear HPA
      go_upto_region 16 with fail
      refine wp_region_R (fun _ => true) ?_
      have K6 := Lib.hid (K5.out.on (Below.refl wr2.heap.size wr2).drew)
      have hX0 : Below wr2.heap.size wr2 wr2.drew := (Below.refl _ _).drew
      generalize wr2.drew = X0 at *
      have a0 := cr 0 K6.out.1.1.1.1.1.2
      obtain ⟨-, d0⟩ := rd_nth K6.out.1.1.2 HBJ.out.1
      rw [HBJ.out.2] at d0
      refine bT a0 0 rfl ?_
      refine bF 1 rfl ?_
      refine bF 2 rfl ?_
      refine bF 3 rfl ?_
      refine bT d0 4 rfl ?_
      refine bR 5 rfl fun K hK => ?_
      go_simp
      refine (HP1.out.1 X0 K6.out.1.1.1.2.1.1).mono ?_
      rintro e X1 ⟨A3, c3, rfl, hrd, hb⟩
      dsimp only
      refine hK.out _ _ (fun _ => hb) ?_
      clear hK a0 d0
      have K7 := Lib.hid ((K6.out.on hb).and (stays_rd hrd))
      have hX1 := hX0.trans (hb.mono hX0.size)
      refine bF 6 rfl ?_
      refine bF 7 rfl ?_
      refine bF 8 rfl ?_
      refine bF 9 rfl ?_
      refine bF 10 rfl ?_
      refine bD ?_
      clear hb hrd hX0 K6 K5
      go_upto_region 17 with fail
      refine wp_region_R (fun _ => true) ?_
      have K8 := Lib.hid (K7.out.on (Below.refl X1.heap.size X1).drew)
      have hX2 : Below wr2.heap.size wr2 X1.drew := hX1.drew
      clear hX1 K7
      generalize X1.drew = X2 at *
      have a0 := cr 0 K8.out.1.1.1.1.1.2.2
      have a1 := cr 1 K8.out.1.1.1.1.1.2.2
      obtain ⟨-, d0⟩ := rd_nth K8.out.1.1.1.2 HBJ.out.1
      rw [HBJ.out.2] at d0
      refine bP a0 a1 0 rfl ?_
      refine bF 1 rfl ?_
      refine bF 2 rfl ?_
      refine bF 3 rfl ?_
      refine bT d0 4 rfl ?_
      refine bR 5 rfl fun K hK => ?_
      go_simp
      refine (HP1.out.2.1 X2 K8.out.1.1.1.1.2.2).mono ?_
      rintro e X3 ⟨A4, c4, rfl, hrd, hb⟩
      dsimp only
      refine hK.out _ _ (fun _ => hb) ?_
      clear hK a0 a1 d0
      have K9 := Lib.hid ((K8.out.on hb).and (stays_rd hrd))
      have hX3 := hX2.trans (hb.mono hX2.size)
      have hL12 := HP1.out.2.2.2.2
      refine bF 6 rfl ?_
      refine bF 7 rfl ?_
      refine bF 8 rfl ?_
      refine bF 9 rfl ?_
      refine bF 10 rfl ?_
      refine bD ?_
      clear hb hrd hX2 K8
      go_upto_region 21 with fail
      clear hL12
      have HX3 := Lib.hid hX3
      clear hX3
      go_loopg [18] L1.length (fun gg i wr => ∃ n : Nat, n ≤ L1.length ∧ L1.length - n ≤ gg ∧ i = .int .i64 (n : Int) ∧ Aside (Below X3.heap.size X3 wr))
      case atStart => exact ⟨0, Nat.zero_le _, Nat.le_refl _, by go_num, Below.refl _ _⟩
      case round =>
       obtain ⟨n, hn, hgn, rfl, hB⟩ := hrel
       have K10 := Lib.hid (K9.out.on hB.out)
       have HB3 := Lib.hid hB.out
       clear hB
       rename World => wr3
       by_cases hln : n < L1.length
       ·have hlnz : (n : Int) < (L1.length : Int) := by omega
        obtain ⟨b3, o3, rfl, lb3, hc3⟩ := K10.out.1.1.2 (by omega)
        obtain ⟨b4, o4, rfl, lb4, hc4⟩ := K10.out.1.2 (by have := HP1.out.2.2.2.2; omega)
        have u0 := hc3 n hln
        have v0 := hc4 n (by have := HP1.out.2.2.2.2; omega)
        have a0 := cr 0 K10.out.1.1.1.1.1.1.1.2
        have HFC := Lib.hid (HP1.out.2.2.2.1 n hln)
        clear hc3 hc4
        go_upto_region 23 with fail
        refine wp_region_R (fun _ => true) ?_
        have K11 := Lib.hid (K10.out.on (Below.refl wr3.heap.size wr3).drew)
        have hX4 : Below X3.heap.size X3 wr3.drew := HB3.out.drew
        have q0 : wr3.drew.cell? ⟨b3, o3 + n, none⟩ = _ := u0
        have q1 : wr3.drew.cell? ⟨b4, o4 + n, none⟩ = _ := v0
        have q2 : wr3.drew.cell? ⟨w.heap.size, 0, none⟩ = _ := a0
        clear u0 v0 a0
        generalize wr3.drew = X4 at *
        refine bT q2 0 rfl ?_
        refine bF 1 rfl ?_
        refine bF 2 rfl ?_
        refine bF 3 rfl ?_
        refine bT q0 4 rfl ?_
        refine bF 6 rfl ?_
        refine bF 7 rfl ?_
        refine bF 8 rfl ?_
        refine bT q1 9 rfl ?_
        refine bR 5 rfl fun K hK => ?_
        go_simp
        refine (HP1.out.2.2.1 _ X4 K11.out.1.1.1.1.1.2.1.1).mono ?_
        rintro e X5 ⟨rfl, hb⟩
        rw [HFC.out]
        dsimp only
        refine hK.out _ _ (fun _ => hb) ?_
        clear hK
        have HX5 := Lib.hid (hX4.trans (hb.mono hX4.size))
        clear hb hX4 q0 q1 q2
        refine bF 10 rfl ?_
        refine bD ?_
        go_wp2
        go_roundg (L1.length - (n + 1))
        case measure => omega
        case rel => exact ⟨n + 1, by omega, by omega, by go_num, HX5.out⟩
       ·obtain rfl : n = L1.length := by omega
        have HZ := Lib.hid (HA3.out.trans ((HX3.out.trans (HB3.out.mono HX3.out.size)).mono HA3.out.size))
        go_wp2
        go_roundg ((bdX ws).length - (j + 1))
        case measure => omega
        case rel => exact ⟨j + 1, by omega, by omega, by go_num, HZ.out⟩
  ·obtain rfl : j = (bdX ws).length := by omega
   have HZ := Lib.hid K2.out.1.1.1.1.1
   go_wp2
   go_ret
   exact ⟨rfl, HZ.out⟩
end Go.Proofs.YtegmniphgahblaaGreat
