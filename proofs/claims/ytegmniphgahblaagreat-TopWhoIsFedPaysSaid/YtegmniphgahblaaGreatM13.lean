/- Walks: the two lists of inPence. | Walks: Pence, Shares, Used. | Words and walks: clone of any list of ints; blocks of values; makes of slices. -/
import Derived.Test.YtegmniphgahblaaGreatF12
import Derived.Test.YtegmniphgahblaaGreatW11
import Derived.Test.YtegmniphgahblaaGreatW19
import Derived.Test.YtegmniphgahblaaGreatA26
import Derived.Laws.MakeOwn
namespace Go.Proofs.YtegmniphgahblaaGreat
open Go.RowKit Go.Shelf

/-- Two lists of the call's own, apart from each other. -/
structure LH (W0 W : World) (v u : Value) (l m : List Int) : Prop where
 bl : Below W0.heap.size W0 W
 o1 : Own W W0.heap.size v l
 o2 : Own W W0.heap.size u m
 ne : ∀ k, v.ownBlock = some k → u.ownBlock ≠ some k
section
variable {W0 W W' : World} {v u v' u' : Value} {l m : List Int} {y : Int}
theorem LH.later (h : LH W0 W v u l m) (hb : Below W.heap.size W W') : LH W0 W' v u l m := ⟨h.bl.trans (hb.mono h.bl.size), h.o1.later hb, h.o2.later hb, h.ne⟩
theorem LH.swap (h : LH W0 W v u l m) : LH W0 W u v m l := ⟨h.bl, h.o2, h.o1, fun k e e2 => h.ne k e2 e⟩
theorem LH.app (h : LH W0 W v u l m) (ho : Own W' W0.heap.size v' (l ++ [y])) (hg : W.grownBy W' v.ownBlock) (hb : v'.ownBlock = v.ownBlock ∨ v'.ownBlock = some W.heap.size) : LH W0 W' v' u (l ++ [y]) m :=
 ⟨h.bl.grown hg h.bl.size (fun k e => (h.o1.blkIs e).1), ho, h.o2.blk (fun k e => hg.block k (h.o2.blkIs e).2.1 (fun e2 => h.ne k e2.symm e)), fun k e => by
  rcases hb with hb | hb
  ·exact h.ne k (hb ▸ e)
  ·intro e2
   have := (h.o2.blkIs e2).2.1
   rw [hb] at e; cases e; omega⟩
theorem LH.app2 (h : LH W0 W v u l m) (ho : Own W' W0.heap.size u' (m ++ [y])) (hg : W.grownBy W' u.ownBlock) (hb : u'.ownBlock = u.ownBlock ∨ u'.ownBlock = some W.heap.size) : LH W0 W' v u' l (m ++ [y]) := (h.swap.app ho hg hb).swap
end
theorem IntF.congr {w : World} {g n : Nat} {f f' : Nat → Int} (h : IntF w g n f) (e : ∀ j, j < n → f j = f' j) : IntF w g n f' := ⟨fun j hj => e j hj ▸ h.at_ j hj, h.fz⟩
theorem Own.intF {w : World} {base : Nat} {A : Option Addr} {n c : Nat} {xs : List Int} (h : Own w base (.slice A n c) xs) (hn : xs.length = n) (h0 : 0 < n) : ∃ g, A = some ⟨g, 0, none⟩ ∧ base ≤ g ∧ g < w.heap.size ∧ IntF w g n (nth xs) := by
 have h1 := h
 rcases h.2 with ⟨e, he⟩ | ⟨g, cap, cur, e, hbg, hg, hr⟩
 ·cases e; omega
 ·cases e
  have hlt := (Array.getElem?_eq_some_iff.1 hg).1
  refine ⟨g, rfl, hbg, hlt, fun j hj => ?_, fun o => by simp [World.frozen?, hg]⟩
  have h2 := World.ownsRow.cells h1 (g := g) rfl j (.int .i64 (nth xs j)) (by
   rw [List.getElem?_map, List.getElem?_eq_getElem (by omega)]
   simp [nth, List.getD_eq_getElem?_getD, List.getElem?_eq_getElem (show j < xs.length by omega)])
  rw [add_eq, Nat.zero_add] at h2
  exact h2
set_option maxRecDepth 100000 in
set_option maxHeartbeats 3200000 in
theorem inPence_any (t : Tr) (ok : RsOk t.rs) (pk : PsOk t.rs t.ps) (w : World) (ht : TrAt w w.heap.size t) :
  Calls Tryz.prog 57 #[t.v] w fun e w' => (∃ A c xs, e = .returned (.slice A xs.length c) ∧ PenceOk t.ps.length xs ∧ FairF t.rs t.ps (nth xs) ∧ Rd w' w'.heap.size A xs) ∧ Below w.heap.size w w' := by
 have hpn := pk.n
 have hsh := fun W hW => shares_any t ok pk W hW
 obtain ⟨A, c, rs, B, d, ps⟩ := t
 dsimp only [Tr.v] at *
 have hb1 : Below w.heap.size w (w.alloc (.cells #[.slice A rs.length c, .slice B ps.length d] 42)) := (Below.refl _ w).alloc (Nat.le_refl _) _
 have hs1 := hsh _ ((ht.ext hb1 (Nat.le_refl _)).mono hb1.size)
 have HK := hd3 hb1 (blk_new w (g := w.heap.size) #[.slice A rs.length c, .slice B ps.length d] 42 rfl) hs1
 have HT := hd3 ht ok pk
 obtain ⟨i0, hi0, hz0, hz1, hz2⟩ := info_parts info3
 clear hb1 ht ok pk hsh hs1
 go_enter Tryz.func57, Tryz.ntmps57
 go_upto_region 1 with fail
 generalize w.alloc (.cells #[.slice A rs.length c, .slice B ps.length d] 42) = W0 at *
 have r0 := cr 0 HK.out.2.1
 have r1 := cr 1 HK.out.2.1
 go_upto_region 3 with (go_at_call 29; refine HK.out.2.2.mono ?_; rintro e W1 ⟨A2, c2, rfl, hT, hb⟩)
 have k0 : Blk W1 w.heap.size #[.slice A rs.length c, .slice B ps.length d] 42 := (hb.block w.heap.size (Array.getElem?_eq_some_iff.1 HK.out.2.1).1).trans HK.out.2.1
 obtain ⟨A3, c3, e3, hcells⟩ := OwnK.rd (f := shL) (d := 0) (fun _ => rfl) hT
 rw [shTo_length] at e3 hcells
 cases e3
 have HC := hd3 (HK.out.1.trans (hb.mono HK.out.1.size)) k0 hcells
 clear hb k0 hcells r0 r1 hT HK
 go_loopg [3, 4, 13] ps.length (fun gg s u i wr => ∃ k : Nat, k ≤ ps.length ∧ ps.length - k ≤ gg ∧ i = .int .i64 (k : Int) ∧ ∃ A3 c3 A4 c4, s = .slice A3 k c3 ∧ u = .slice A4 k c4 ∧ Aside (LH W1 wr (.slice A3 k c3) (.slice A4 k c4) (tb k (loI rs ps)) (tb k (hiI rs ps))))
 case atStart => exact ⟨0, Nat.zero_le _, Nat.le_refl _, by go_num, none, 0, none, 0, rfl, rfl, Below.refl _ _, Own.nil _ _, Own.nil _ _, fun k e => by cases e⟩
 case round =>
  obtain ⟨k, hk, hgg, rfl, A3, c3, A4, c4, rfl, rfl, hA⟩ := hrel
  have HA := Lib.hid hA.out
  clear hA
  by_cases hlt : k < ps.length
  ·have hltz : (k : Int) < (ps.length : Int) := by omega
   obtain ⟨g, rfl, hg1, hg2, hc⟩ := HC.out.2.2 (by omega)
   have p0 := (HA.out.bl.cell (p := ⟨g, k * 2 + 0, none⟩) hg2).trans (hc k 0 _ hlt (by omega) rfl)
   have p1 := (HA.out.bl.cell (p := ⟨g, k * 2 + 1, none⟩) hg2).trans (hc k 1 _ hlt (by omega) rfl)
   have e0 : (shTo rs ps ps.length).getD k 0 = shN rs ps k := by simp [shTo, hlt]
   rw [e0] at p0 p1
   rw [Nat.add_zero] at p0
   clear hc e0
   go_upto_region 5 with fail
   have hb5 := (Below.refl _ wr).alloc (Nat.le_refl _) (.cells #[.int .i64 (ratN (shN rs ps k) lcmT : Int), .int .i64 (ratD (shN rs ps k) lcmT : Int)] 55)
   have k6 := blk_new wr (g := wr.heap.size) #[.int .i64 (ratN (shN rs ps k) lcmT : Int), .int .i64 (ratD (shN rs ps k) lcmT : Int)] 55 rfl
   have HA5 := hd2 (HA.out.later hb5) k6
   have hD0 : ¬ ratD (shN rs ps k) lcmT = 0 := by have := (rat_parts (n := shN rs ps k) lcmT_pos).2.2.1; omega
   have hl1 : loI rs ps k = ((ratN (shN rs ps k) lcmT / ratD (shN rs ps k) lcmT : Nat) : Int) := rfl
   have hh1 : hiI rs ps k = loI rs ps k + min 1 ((ratN (shN rs ps k) lcmT % ratD (shN rs ps k) lcmT : Nat) : Int) := rfl
   have hrg := loI_rng HT.out.2.1 HT.out.2.2 hlt
   have hNb := ratN_le (shN rs ps k) lcmT
   have hSb := shN_le HT.out.2.1 HT.out.2.2 hlt
   have hLc : lcmT = 5354228880 := rfl
   rw [hLc] at hSb
   have HG := hd2 (fun k e => (HA.out.o1.blkIs e (k := k)).2.1) (fun k e => (HA.out.o2.blkIs e (k := k)).2.1)
   clear hb5 k6 p0 p1 HA hLc
   generalize ratN (shN rs ps k) lcmT = N at *
   generalize ratD (shN rs ps k) lcmT = D at *
   generalize hg6 : wr.heap.size = g6 at *
   generalize wr.alloc (.cells #[.int .i64 (N : Int), .int .i64 (D : Int)] 55) = W5 at *
   have y0 := cr 0 HA5.out.2
   have y1 := cr 1 HA5.out.2
   have hq : IntKind.i64.wrap ((N : Int) / (D : Int)) = loI rs ps k := by
    rw [hl1, Int.natCast_ediv]
    exact IntWalk.i64_in _ (by
     have := Nat.div_le_self N D
     rw [← Int.natCast_ediv]
     omega)
   have HR := hd2 hh1 hrg
   clear hl1 hh1 hrg hNb hSb
   have hbA := (Below.refl _ W5).alloc (Nat.le_refl _) (.cells #[.int .i64 (loI rs ps k)] 3)
   have hA6 := HA5.out.1.later hbA
   have hbs6 : W1.heap.size ≤ (W5.alloc (.cells #[.int .i64 (loI rs ps k)] 3)).heap.size := hA6.bl.size
   have HO := hd3 (hA6.o1.row (tb_len k _)) hA6 ((hbA.block g6 (Array.getElem?_eq_some_iff.1 HA5.out.2).1).trans HA5.out.2)
   clear hbA hA6
   go_upto_region 7 with (at_builtin; go_loud (refine wpList_append_own_at _ rfl _ _ 28 rfl W1.heap.size 3 i0 (.int .i64 0) 1 8 Tryz.underlying28 hi0 hz0 hz1 hz2 rfl (by decide) (.slice A3 k c3) k _ rfl HO.out.1 ⟨W5.heap.size, 0, none⟩ 1 1 [.int .i64 (loI rs ps k)] rfl (by simp) (cell_one_new _ _ _) (by simp [Value.oneCell']) (by unfold maxLen; omega) (by omega) hbs6 ?_; intro v' w9 hown1 hgrow _ hbk; have hO9 := Own.of_row hown1 (tb_len k _); have HP9 := hd2 (HO.out.2.1.app hO9 hgrow hbk) ((hgrow.block g6 (Array.getElem?_eq_some_iff.1 HO.out.2.2).1 (fun e => by have := HG.out.1 _ e.symm; omega)).trans HO.out.2.2); clear hO9 hown1 hgrow hbk))
   obtain ⟨R, hR⟩ : ∃ R : Nat, N % D = R := ⟨_, rfl⟩
   have hrm : (N : Int).tmod (D : Int) = (R : Int) := by rw [← hR]; rfl
   clear y0 y1
   have y0 := cr 0 HP9.out.2
   have y1 := cr 1 HP9.out.2
   obtain ⟨M, hM⟩ : ∃ M : Int, (if (R : Int) < 1 then (R : Int) else 1) = M := ⟨_, rfl⟩
   have hwr : IntKind.i64.wrap (loI rs ps k + M) = hiI rs ps k := by
    have h1 := HR.out.1
    have h2 := HR.out.2
    rw [hR] at h1
    have h3 : M = min 1 (R : Int) := by rw [← hM]; split <;> omega
    rw [h3, ← h1]
    exact IntWalk.i64_in _ (by omega)
   obtain ⟨A5, c5, rfl⟩ := HP9.out.1.o1.slice (n := k + 1) (by rw [List.length_append, tb_len]; rfl)
   have hbA := (Below.refl _ w9).alloc (Nat.le_refl _) (.cells #[.int .i64 (hiI rs ps k)] 3)
   have hA6 := HP9.out.1.later hbA
   have hbs9 : W1.heap.size ≤ (w9.alloc (.cells #[.int .i64 (hiI rs ps k)] 3)).heap.size := hA6.bl.size
   have HO2 := hd2 (hA6.o2.row (tb_len k _)) hA6
   clear hbA hA6
   go_wp2_with (at_builtin; go_loud (refine wpList_append_own_at _ rfl _ _ 28 rfl W1.heap.size 3 i0 (.int .i64 0) 1 8 Tryz.underlying28 hi0 hz0 hz1 hz2 rfl (by decide) (.slice A4 k c4) k _ rfl HO2.out.1 ⟨w9.heap.size, 0, none⟩ 1 1 [.int .i64 (hiI rs ps k)] rfl (by simp) (cell_one_new _ _ _) (by simp [Value.oneCell']) (by unfold maxLen; omega) (by omega) hbs9 ?_; intro v2 w10 hown1 hgrow _ hbk; have hO9 := Own.of_row hown1 (tb_len k _); have HP10 := Lib.hid (HO2.out.2.app2 hO9 hgrow hbk); clear hO9 hown1 hgrow hbk))
   obtain ⟨A6, c6, rfl⟩ := HP10.out.o2.slice (n := k + 1) (by rw [List.length_append, tb_len]; rfl)
   go_roundg (ps.length - (k + 1))
   case measure => omega
   case rel => exact ⟨k + 1, by omega, by omega, by go_num, A5, c5, A6, c6, rfl, rfl, by rw [tb_succ, tb_succ]; exact HP10.out⟩
  ·obtain rfl : k = ps.length := by omega
   rename World => V0
   have hW1 := HA.out.bl.size
   have hkb : Blk V0 w.heap.size #[.slice A rs.length c, .slice B ps.length d] 42 := (HA.out.bl.block w.heap.size (Array.getElem?_eq_some_iff.1 HC.out.2.1).1).trans HC.out.2.1
   have hbw := HC.out.1.trans (HA.out.bl.mono HC.out.1.size)
   have hwl : w.heap.size < W1.heap.size := (Array.getElem?_eq_some_iff.1 HC.out.2.1).1
   go_upto_region 10 with fail
   by_cases hn0 : 0 < ps.length
   rotate_left
   ·obtain rfl : ps = [] := List.length_eq_zero_iff.1 (by omega)
    have HF := hd2 hbw (penR_fair HT.out.2.1 HT.out.2.2)
    clear hkb hbw
    go_loopg [40] 0 (fun gg i wr2 => i = .int .i64 0 ∧ V0 = wr2)
    case atStart => exact ⟨rfl, rfl⟩
    case round =>
     obtain ⟨rfl, rfl⟩ := hrel
     go_wp2
     go_ret
     exact ⟨⟨A3, c3, [], rfl, ⟨rfl, fun i hi => absurd hi (Nat.not_lt_zero _)⟩, HF.out.2.congr (fun i hi => absurd hi (Nat.not_lt_zero _)), Rd.nil⟩, HF.out.1⟩
   ·obtain ⟨gl, rfl, hgl, hgl2, il⟩ := HA.out.o1.intF (tb_len _ _) hn0
    obtain ⟨gh, rfl, hgh, hgh2, ih⟩ := HA.out.o2.intF (tb_len _ _) hn0
    have hne : gl ≠ gh := fun e => HA.out.ne gl rfl (by rw [e]; rfl)
    have il0 : IntF V0 gl ps.length (penR rs ps 0).1 := il.congr fun j hj => tb_at hj
    have ih0 : IntF V0 gh ps.length (penR rs ps 0).2 := ih.congr fun j hj => tb_at hj
    have HW := hd2 hbw hkb
    clear il ih hbw hkb HA
    go_loopg [40] ps.length (fun gg i wr2 => ∃ k : Nat, k ≤ ps.length ∧ ps.length - k ≤ gg ∧ i = .int .i64 (k : Int) ∧ Aside (ButB (fun b => b = gl ∨ b = gh) V0 wr2 ∧ IntF wr2 gl ps.length (penR rs ps k).1 ∧ IntF wr2 gh ps.length (penR rs ps k).2))
    case atStart => exact ⟨0, Nat.zero_le _, Nat.le_refl _, by go_num, ButB.refl _ _, il0, ih0⟩
    case round =>
     obtain ⟨k, hk, hgg, rfl, hA⟩ := hrel
     obtain ⟨hbt, il, ih⟩ := hA.out
     clear hA il0 ih0
     by_cases hlt : k < ps.length
     ·have hltz : (k : Int) < (ps.length : Int) := by omega
      have hrng := fun i (hi : i < ps.length) => penR_rng HT.out.2.1 HT.out.2.2 hk hi
      have hyes := penR_yes (rs := rs) (ps := ps) (k := k)
      have hno := penR_no (rs := rs) (ps := ps) (k := k)
      generalize (penR rs ps k).1 = P1 at *
      generalize (penR rs ps k).2 = P2 at *
      have cc1 := il.at_ k hlt
      have cc2 := ih.at_ k hlt
      have f1 := il.fz k
      have f2 := ih.fz k
      have hb2 := hbt.set (a := ⟨gl, k, none⟩) (.inl rfl) (.int .i64 (P2 k))
      have il2 := il.set hlt (P2 k)
      have ih2 : IntF (wr.setCell ⟨gl, k, none⟩ (.int .i64 (P2 k))) gh ps.length P2 := ih.heap (Below.heap_setCell _ _ _ _ (fun e => hne e.symm))
      have hzz : (wr.setCell ⟨gl, k, none⟩ (.int .i64 (P2 k))).heap.size = wr.heap.size := setCell_size' _ _ _
      have hx : PenceOk ps.length (tb ps.length (setI P1 k (P2 k))) := ⟨tb_len _ _, fun i hi => by
       rw [tb_at hi]
       unfold setI
       have h1 := hrng i hi
       have h2 := hrng k hlt
       split <;> omega⟩
      have hy : PenceOk ps.length (tb ps.length P2) := ⟨tb_len _ _, fun i hi => by
       rw [tb_at hi]
       have h1 := hrng i hi
       omega⟩
      have hHS := hd3 hb2 il2 ih2
      clear hbt il ih
      go_upto_region 14 with fail
      generalize wr.setCell ⟨gl, k, none⟩ (.int .i64 (P2 k)) = X1 at *
      clear cc1 cc2 f1 f2
      have hbX : Below w.heap.size w X1 := HW.out.1.trans (hHS.out.1.below HW.out.1.size (by intro b hb; omega))
      have kX : Blk X1 w.heap.size #[.slice A rs.length c, .slice B ps.length d] 42 := hHS.out.1.heap HW.out.2 (by omega)
      have hzX := hHS.out.1.size
      have hbe := between_any ⟨A, c, rs, B, d, ps⟩ HT.out.2.1 HT.out.2.2 (some ⟨gl, 0, none⟩) c3 _ hx (some ⟨gh, 0, none⟩) c4 _ hy X1 ((HT.out.1.ext hbX (Nat.le_refl _)).mono hbX.size) (IntF.rd (by rw [tb_len]; exact hHS.out.2.1) (by omega) (fun j hj => (tb_at (by rw [tb_len] at hj; exact hj)).symm)) (IntF.rd (by rw [tb_len]; exact hHS.out.2.2) (by omega) (fun j hj => (tb_at (by rw [tb_len] at hj; exact hj)).symm))
      rw [tb_len, tb_len] at hbe
      dsimp only [Tr.v] at hbe
      have hiff : Btw (abF rs) (coF rs) (rcF ps) ps.length rs.length (wholeF rs ps) (nth (tb ps.length (setI P1 k (P2 k)))) (nth (tb ps.length P2)) ↔ Btw (abF rs) (coF rs) (rcF ps) ps.length rs.length (wholeF rs ps) (setI P1 k (P2 k)) P2 := Btw.congr (fun i hi => tb_at hi) (fun i hi => tb_at hi)
      have r0 := cr 0 kX
      have r1 := cr 1 kX
      by_cases hB : Btw (abF rs) (coF rs) (rcF ps) ps.length rs.length (wholeF rs ps) (setI P1 k (P2 k)) P2
      ·have HQ := hd4 hbe (hiff.2 hB) (hyes hB) hHS.out
       clear hbe hiff hyes hno hB hHS hbX kX hx hy hrng hb2 il2 ih2
       go_wp2_with (refine HQ.out.1.mono ?_; rintro e w3 ⟨⟨bb, rfl, hbb⟩, hb3⟩; obtain rfl := hbb.2 HQ.out.2.1; have HB3 := Lib.hid hb3; clear hb3 hbb)
       go_roundg (ps.length - (k + 1))
       case measure => omega
       case rel => exact ⟨k + 1, by omega, by omega, by go_num, by
        rw [HQ.out.2.2.1]
        exact (show _ ∧ _ from ⟨HQ.out.2.2.2.1.trans (ButB.of_below (p := fun b => b = gl ∨ b = gh) HB3.out), HQ.out.2.2.2.2.1.heap (HB3.out.block gl (by omega)), HQ.out.2.2.2.2.2.heap (HB3.out.block gh (by omega))⟩)⟩
      ·have HQ := hd4 hbe (fun h => hB (hiff.1 h)) (hno hB) hHS.out
       clear hbe hiff hyes hno hB hHS hbX kX hx hy hrng hb2 il2 ih2
       go_wp2_with (refine HQ.out.1.mono ?_; rintro e w3 ⟨⟨bb, rfl, hbb⟩, hb3⟩; obtain rfl : bb = false := Bool.eq_false_iff.2 (fun e => HQ.out.2.1 (hbb.1 e)); have il3 := HQ.out.2.2.2.2.1.heap (hb3.block gl (by omega)); have ih3 := HQ.out.2.2.2.2.2.heap (hb3.block gh (by omega)); have cc1 := il3.at_ k hlt; have cc2 := ih3.at_ k hlt; have f1 := il3.fz k; have f2 := ih3.fz k; have HI3 := hd3 il3 ih3 (HQ.out.2.2.2.1.trans (ButB.of_below (p := fun b => b = gl ∨ b = gh) hb3)); clear hb3 hbb il3 ih3)
       go_roundg (ps.length - (k + 1))
       case measure => omega
       case rel => exact ⟨k + 1, by omega, by omega, by go_num, by
        rw [HQ.out.2.2.1]
        exact (show _ ∧ _ from ⟨(HI3.out.2.2.set (a := ⟨gl, k, none⟩) (.inl rfl) _).set (a := ⟨gh, k, none⟩) (.inr rfl) _, ((HI3.out.1.set hlt (P1 k)).heap (Below.heap_setCell _ _ _ _ hne)).congr (fun j _ => by
         unfold put
         by_cases e : j = k
         ·rw [if_pos e, e]
         ·rw [if_neg e, if_neg e]), (HI3.out.2.1.heap (Below.heap_setCell _ _ _ _ (fun e => hne e.symm))).set hlt (P1 k)⟩)⟩
     ·obtain rfl : k = ps.length := by omega
      have hfair := penR_fair HT.out.2.1 HT.out.2.2
      have hrng := fun i (hi : i < ps.length) => penR_rng HT.out.2.1 HT.out.2.2 (Nat.le_refl ps.length) hi
      have hbX : Below w.heap.size w wr := HW.out.1.trans (hbt.below HW.out.1.size (by intro b hb; omega))
      have hsz := hbt.size
      have HF := hd4 hfair hrng hbX il
      clear hfair hrng hbX hbt il ih
      go_wp2
      go_ret
      refine ⟨⟨some ⟨gl, 0, none⟩, c3, tb ps.length (penR rs ps ps.length).1, by rw [tb_len]; rfl, ⟨tb_len _ _, fun i hi => by rw [tb_at hi]; have := HF.out.2.1 i hi; omega⟩, HF.out.1.congr fun i hi => (tb_at hi).symm, ?_⟩, HF.out.2.2.1⟩
      exact IntF.rd (by rw [tb_len]; exact HF.out.2.2.2) (by omega) (fun j hj => (tb_at (by rw [tb_len] at hj; exact hj)).symm)
end Go.Proofs.YtegmniphgahblaaGreat
namespace Go.Proofs.YtegmniphgahblaaGreat
open Go.RowKit Go.Shelf

theorem OwnK.base {α : Type} {ty : TypeId} {k : Nat} {f : α → List Value} {w : World} {base base' : Nat} {v : Value} {l : List α} (h : OwnK ty k f w base v l) (hb : base' ≤ base) : OwnK ty k f w base' v l :=
 ⟨h.1, h.2.imp id fun ⟨g, cap, cur, e, hb', r⟩ => ⟨g, cap, cur, e, Nat.le_trans hb hb', r⟩⟩
theorem Pence_any (t : Tr) (ok : RsOk t.rs) (pk : PsOk t.rs t.ps) (w : World) (ht : TrAt w w.heap.size t) :
  Calls Tryz.prog 24 #[t.v] w fun e w' => (∃ A c xs, e = .returned (.tuple #[.slice A xs.length c, .int .i64 0]) ∧ PenceOk t.ps.length xs ∧ FairF t.rs t.ps (nth xs) ∧ Rd w' w'.heap.size A xs) ∧ Below w.heap.size w w' := by
 have hn24 := pk.n
 have hr24 := ok.n
 have hin := fun W hW => inPence_any t ok pk W hW
 obtain ⟨A, c, rs, B, d, ps⟩ := t
 have hb1 := (Below.refl _ w).alloc (Nat.le_refl _) (.cells #[.slice A rs.length c, .slice B ps.length d] 42)
 have hch := checkT_any ⟨A, c, rs, B, d, ps⟩ (w.alloc (.cells #[.slice A rs.length c, .slice B ps.length d] 42)) ((ht.ext hb1 (Nat.le_refl _)).mono hb1.size) (by unfold maxLen; omega) (by unfold maxLen; omega)
 dsimp only [Tr.v] at *
 have HK := hd6 hb1 hch (blk_new w (g := w.heap.size) #[.slice A rs.length c, .slice B ps.length d] 42 rfl) (show RsOk rs ∧ PsOk rs ps from ⟨ok, pk⟩) hin ht
 clear hb1 hch ht ok pk hn24 hr24 hin
 go_enter Tryz.func24, Tryz.ntmps24
 go_upto_region 1 with fail
 generalize w.alloc (.cells #[.slice A rs.length c, .slice B ps.length d] 42) = W1 at *
 have r0 := cr 0 HK.out.2.2.1
 have r1 := cr 1 HK.out.2.2.1
 go_wp2_with (first | (go_at_call 7; refine HK.out.2.1.mono ?_; rintro e w1 ⟨⟨E, rfl, hE⟩, hb2⟩; obtain rfl := hE.2 HK.out.2.2.2.1; have HK1 := hd2 (HK.out.1.trans (hb2.mono HK.out.1.size)) ((hb2.block w.heap.size (Array.getElem?_eq_some_iff.1 HK.out.2.2.1).1).trans HK.out.2.2.1); clear hb2 hE r0 r1; have r0 := cr 0 HK1.out.2; have r1 := cr 1 HK1.out.2; have HI := Lib.hid (HK.out.2.2.2.2.1 w1 ((HK.out.2.2.2.2.2.ext HK1.out.1 (Nat.le_refl _)).mono HK1.out.1.size))) | (go_at_call 57; refine HI.out.mono ?_; rintro e w2 ⟨⟨A2, c2, xs, rfl, h1, h2, h3⟩, hb3⟩; have HF := hd4 (HK1.out.1.trans (hb3.mono HK1.out.1.size)) h1 h2 h3; clear hb3 h1 h2 h3))
 go_ret2
 exact ⟨⟨A2, c2, xs, rfl, HF.out.2.1, HF.out.2.2.1, HF.out.2.2.2⟩, HF.out.1⟩
theorem Shares_any (t : Tr) (ok : RsOk t.rs) (pk : PsOk t.rs t.ps) (w : World) (ht : TrAt w w.heap.size t) :
  Calls Tryz.prog 10 #[t.v] w fun e w' => (∃ A c, e = .returned (.tuple #[.slice A t.ps.length c, .int .i64 0]) ∧ OwnT w' w.heap.size (.slice A t.ps.length c) (shTo t.rs t.ps t.ps.length)) ∧ Below w.heap.size w w' := by
 have hn24 := pk.n
 have hr24 := ok.n
 have hin := fun W hW => shares_any t ok pk W hW
 obtain ⟨A, c, rs, B, d, ps⟩ := t
 have hb1 := (Below.refl _ w).alloc (Nat.le_refl _) (.cells #[.slice A rs.length c, .slice B ps.length d] 42)
 have hch := checkT_any ⟨A, c, rs, B, d, ps⟩ (w.alloc (.cells #[.slice A rs.length c, .slice B ps.length d] 42)) ((ht.ext hb1 (Nat.le_refl _)).mono hb1.size) (by unfold maxLen; omega) (by unfold maxLen; omega)
 dsimp only [Tr.v] at *
 have HK := hd6 hb1 hch (blk_new w (g := w.heap.size) #[.slice A rs.length c, .slice B ps.length d] 42 rfl) (show RsOk rs ∧ PsOk rs ps from ⟨ok, pk⟩) hin ht
 clear hb1 hch ht ok pk hn24 hr24 hin
 go_enter Tryz.func10, Tryz.ntmps10
 go_upto_region 1 with fail
 generalize w.alloc (.cells #[.slice A rs.length c, .slice B ps.length d] 42) = W1 at *
 have r0 := cr 0 HK.out.2.2.1
 have r1 := cr 1 HK.out.2.2.1
 go_wp2_with (first | (go_at_call 7; refine HK.out.2.1.mono ?_; rintro e w1 ⟨⟨E, rfl, hE⟩, hb2⟩; obtain rfl := hE.2 HK.out.2.2.2.1; have HK1 := hd2 (HK.out.1.trans (hb2.mono HK.out.1.size)) ((hb2.block w.heap.size (Array.getElem?_eq_some_iff.1 HK.out.2.2.1).1).trans HK.out.2.2.1); clear hb2 hE r0 r1; have r0 := cr 0 HK1.out.2; have r1 := cr 1 HK1.out.2; have HI := Lib.hid (HK.out.2.2.2.2.1 w1 ((HK.out.2.2.2.2.2.ext HK1.out.1 (Nat.le_refl _)).mono HK1.out.1.size))) | (go_at_call 29; refine HI.out.mono ?_; rintro e w2 ⟨A2, c2, rfl, h1, hb3⟩; have HF := hd2 (HK1.out.1.trans (hb3.mono HK1.out.1.size)) (h1.base HK1.out.1.size); clear hb3 h1))
 go_ret2
 exact ⟨⟨A2, c2, rfl, HF.out.2⟩, HF.out.1⟩
/-- The reaches that somebody uses. -/
def usL (rs : List Rch) (ps : List Pay) (k : Nat) : List Nat := (List.range k).filter (usedB rs ps)
theorem usL_succ (rs : List Rch) (ps : List Pay) (k : Nat) : usL rs ps (k + 1) = if usedB rs ps k = true then usL rs ps k ++ [k] else usL rs ps k := by
 unfold usL
 rw [List.range_succ, List.filter_append]
 cases h : usedB rs ps k <;> simp [h]
theorem usL_len (rs : List Rch) (ps : List Pay) (k : Nat) : (usL rs ps k).length ≤ k := by
 have := List.length_filter_le (usedB rs ps) (List.range k)
 rw [List.length_range] at this
 exact this
set_option maxRecDepth 100000 in
theorem Used_any (t : Tr) (ok : RsOk t.rs) (pk : PsOk t.rs t.ps) (w : World) (ht : TrAt w w.heap.size t) :
  Calls Tryz.prog 26 #[t.v] w fun e w' => (∃ A c, e = .returned (.tuple #[.slice A (usL t.rs t.ps 24).length c, .int .i64 0]) ∧ Rd w' w'.heap.size A (ints (usL t.rs t.ps 24)) ∧ Fresh w.heap.size A) ∧ Below w.heap.size w w' := by
 have hn24 := pk.n
 have hr24 := ok.n
 have hin := fun W hW => weights_any t ok pk W hW
 obtain ⟨i0, hi0, hz0, hz1, hz2⟩ := info_parts info3
 obtain ⟨A, c, rs, B, d, ps⟩ := t
 have hb1 := (Below.refl _ w).alloc (Nat.le_refl _) (.cells #[.slice A rs.length c, .slice B ps.length d] 42)
 have hch := checkT_any ⟨A, c, rs, B, d, ps⟩ (w.alloc (.cells #[.slice A rs.length c, .slice B ps.length d] 42)) ((ht.ext hb1 (Nat.le_refl _)).mono hb1.size) (by unfold maxLen; omega) (by unfold maxLen; omega)
 dsimp only [Tr.v] at *
 have HK := hd6 hb1 hch (blk_new w (g := w.heap.size) #[.slice A rs.length c, .slice B ps.length d] 42 rfl) (show RsOk rs ∧ PsOk rs ps from ⟨ok, pk⟩) hin ht
 clear hb1 hch ht ok pk hn24 hr24 hin
 go_enter Tryz.func26, Tryz.ntmps26
 go_upto_region 1 with fail
 generalize w.alloc (.cells #[.slice A rs.length c, .slice B ps.length d] 42) = W1 at *
 have r0 := cr 0 HK.out.2.2.1
 have r1 := cr 1 HK.out.2.2.1
 go_upto_region 6 with (first | (go_at_call 7; refine HK.out.2.1.mono ?_; rintro e w1 ⟨⟨E, rfl, hE⟩, hb2⟩; obtain rfl := hE.2 HK.out.2.2.2.1; have HK1 := hd2 (HK.out.1.trans (hb2.mono HK.out.1.size)) ((hb2.block w.heap.size (Array.getElem?_eq_some_iff.1 HK.out.2.2.1).1).trans HK.out.2.2.1); clear hb2 hE r0 r1; have r0 := cr 0 HK1.out.2; have r1 := cr 1 HK1.out.2; have HI := Lib.hid (HK.out.2.2.2.2.1 w1 ((HK.out.2.2.2.2.2.ext HK1.out.1 (Nat.le_refl _)).mono HK1.out.1.size))) | (go_at_call 60; refine HI.out.mono ?_; rintro e w2 ⟨rfl, hb3⟩; have HF := Lib.hid (HK1.out.1.trans (hb3.mono HK1.out.1.size)); clear hb3))
 go_loopg [5, 15] 24 (fun gg s i wr => ∃ k : Nat, k ≤ 24 ∧ 24 - k ≤ gg ∧ i = .int .i64 (k : Int) ∧ ∃ n, n = (usL rs ps k).length ∧ ∃ A3 c3, s = .slice A3 n c3 ∧ Aside (Below w2.heap.size w2 wr ∧ Own wr w2.heap.size (.slice A3 n c3) (ints (usL rs ps k))))
 case atStart => exact ⟨0, Nat.zero_le _, Nat.le_refl _, by go_num, 0, rfl, none, 0, rfl, Below.refl _ _, Own.nil _ _⟩
 case round =>
  obtain ⟨k, hk, hgg, rfl, n, hn, A3, c3, rfl, hA⟩ := hrel
  have HA := Lib.hid hA.out
  have HN := Lib.hid hn
  have hnk : n ≤ k := by rw [hn]; exact usL_len rs ps k
  clear hA hn
  by_cases hlt : k < 24
  ·have hltz : (k : Int) < 24 := by omega
   have hix := fun W => arr_index (allF rs ps) hlt W
   have hus := usL_succ rs ps k
   by_cases hu : 0 < allF rs ps k
   ·rw [if_pos (show usedB rs ps k = true from decide_eq_true hu)] at hus
    have HU := Lib.hid hus
    have hbA := (Below.refl _ wr).alloc (Nat.le_refl _) (.cells #[.int .i64 (k : Int)] 3)
    have hown := HA.out.2.later hbA
    have hbl := HA.out.1.trans (hbA.mono HA.out.1.size)
    have hsz := hbl.size
    have HO := hd2 (hown.row (n := n) (by rw [ints_length, HN.out])) hbl
    clear hus hbA hown hbl
    go_wp2_with (at_builtin; go_loud (refine wpList_append_own_at _ rfl _ _ 28 rfl w2.heap.size 3 i0 (.int .i64 0) 1 8 Tryz.underlying28 hi0 hz0 hz1 hz2 rfl (by decide) (.slice A3 n c3) n _ rfl HO.out.1 ⟨wr.heap.size, 0, none⟩ 1 1 [.int .i64 (k : Int)] rfl (by simp) (cell_one_new _ _ _) (by simp [Value.oneCell']) (by unfold maxLen; omega) (by omega) hsz ?_; intro v' w9 hown1 hgrow _ hbk; have hO9 := Own.of_row hown1 (by rw [ints_length, HN.out]); have HP9 := hd2 hO9 (HO.out.2.grown hgrow hsz (fun k e => (HA.out.2.blkIs e).1)); clear hO9 hown1 hgrow hbk))
    obtain ⟨A5, c5, rfl⟩ := HP9.out.1.slice (n := n + 1) (by rw [List.length_append, ints_length, HN.out]; rfl)
    go_roundg (24 - (k + 1))
    case measure => omega
    case rel => exact ⟨k + 1, by omega, by omega, by go_num, n + 1, by rw [HU.out, List.length_append, HN.out]; rfl, A5, c5, rfl, by rw [HU.out, ints_append]; exact (show _ ∧ _ from ⟨HP9.out.2, HP9.out.1⟩)⟩
   ·rw [if_neg (show ¬ usedB rs ps k = true from fun h => hu (of_decide_eq_true h))] at hus
    have HU := Lib.hid hus
    clear hus
    go_wp2
    go_roundg (24 - (k + 1))
    case measure => omega
    case rel => exact ⟨k + 1, by omega, by omega, by go_num, n, by rw [HU.out, HN.out], A3, c3, rfl, by rw [HU.out]; exact HA.out⟩
  ·obtain rfl : k = 24 := by omega
   obtain ⟨A5, c5, h5, h6, h7⟩ := HA.out.2.rd
   cases h5
   have hsz := HF.out.size
   have HR := hd3 h6 (h7.mono hsz) (HF.out.trans (HA.out.1.mono hsz))
   clear h6 h7
   go_wp2
   go_ret2
   exact ⟨⟨A3, c3, by rw [HN.out]; rfl, HR.out.1, HR.out.2.1⟩, HR.out.2.2⟩
end Go.Proofs.YtegmniphgahblaaGreat
namespace Go.Proofs.YtegmniphgahblaaGreat
open Go.RowKit Go.Shelf

theorem cloneF_any (A : Option Addr) (c : Nat) (xs : List Int) (hm : xs.length ≤ 1000) (w : World) (h : Rd w w.heap.size A xs) :
  Calls Tryz.prog 42 #[.slice A xs.length c] w fun e w' => (∃ A' c', e = .returned (.slice A' xs.length c') ∧ (0 < xs.length → ∃ g, A' = some ⟨g, 0, none⟩ ∧ w.heap.size ≤ g ∧ g < w'.heap.size ∧ IntF w' g xs.length (nth xs))) ∧ Below w.heap.size w w' := by
 by_cases h0 : 0 < xs.length
 ·obtain ⟨b, off, rfl, lb, hc⟩ := h h0
  refine (clone_ints b off c xs w h h0 hm).mono ?_
  rintro e w' ⟨g, c', rfl, h1, h2, h3, h4⟩
  exact ⟨⟨_, c', rfl, fun _ => ⟨g, rfl, h1, h2, h3⟩⟩, h4⟩
 ·obtain rfl : xs = [] := List.length_eq_zero_iff.1 (by omega)
  clear h hm h0
  have q25 : ∀ (w : World) (a : Option Addr) (n c n' c' : Nat), (binOp .eql 28 (.slice a n c) (.slice none n' c')).run Tryz.prog w = .ok (.bool a.isNone) w := fun w a n c n' c' => Lib.run_eql_slice_nil w _ _ a n c n' c' Tryz.underlying28
  obtain ⟨i0, hi, hz0, hz1, hz2⟩ := info_parts info3
  cases A with
  | none =>
   go_enter Tryz.func42, Tryz.ntmps42
   go_wp2
   go_ret
   exact ⟨⟨none, 0, rfl, fun h => absurd h (by simp)⟩, Below.refl _ _⟩
  | some ad =>
   go_enter Tryz.func42, Tryz.ntmps42
   go_wp2_with (at_builtin; refine wpList_append_own_at _ rfl _ _ 28 rfl (w.heap.size) 3 i0 (.int .i64 0) 1 8 Tryz.underlying28 hi hz0 hz1 hz2 rfl (by decide) _ 0 [] rfl ?c1 ad 0 c [] rfl (by simp) ?c2 ?c3 ?c4 ?c5 ?c6 ?_)
   case c1 => exact World.ownsRow_made w #[] 0 (Nat.le_refl _) (by simp) rfl
   case c2 => intro j u hj; simp at hj
   case c3 => intro u hu; cases hu
   case c4 => unfold maxLen; omega
   case c5 => omega
   case c6 => simp
   intro v' w' hown hgrow _ _
   have hO : Own w' w.heap.size v' [] := hown
   have hb : Below w.heap.size w w' := (((Below.refl _ w).alloc (Nat.le_refl _) _).grown hgrow (by simp) (by intro k hk; simp [Value.ownBlock] at hk; omega))
   obtain ⟨A', c', rfl⟩ := hO.slice (n := 0) rfl
   clear hown hgrow
   go_wp2
   go_ret
   exact ⟨⟨A', c', rfl, fun h => absurd h (by simp)⟩, hb⟩

/-- n values in block g, from its begin on, that may be written. -/
structure VlF (W : World) (g n : Nat) (f : Nat → Value) : Prop where
 at_ : ∀ j, j < n → W.cell? ⟨g, j, none⟩ = some (f j)
 fz : ∀ o, W.frozen? ⟨g, o, none⟩ = false
section
variable {W W' : World} {g n i : Nat} {f f' : Nat → Value}
theorem VlF.heap (h : VlF W g n f) (e : W'.heap[g]? = W.heap[g]?) : VlF W' g n f := ⟨fun j hj => (cell_of_heap e).trans (h.at_ j hj), fun o => by have := h.fz o; unfold World.frozen? at this ⊢; rw [e]; exact this⟩
theorem VlF.set (h : VlF W g n f) (hi : i < n) (x : Value) : VlF (W.setCell ⟨g, i, none⟩ x) g n (fun j => if j = i then x else f j) := by
 refine ⟨fun j hj => ?_, fun o => by rw [World.frozen?_setCell]; exact h.fz o⟩
 by_cases e : j = i
 ·subst e
  rw [if_pos rfl]
  exact World.cell?_setCell_same' _ _ _ (by rw [h.at_ j hj]; rfl)
 ·rw [if_neg e]
  rw [cell_set_ne e]
  exact h.at_ j hj
theorem VlF.congr (h : VlF W g n f) (e : ∀ j, j < n → f j = f' j) : VlF W g n f' := ⟨fun j hj => e j hj ▸ h.at_ j hj, h.fz⟩
end
theorem made_one (z : Value) (n : Nat) : madeCells #[z] n = Array.replicate n z := by
 apply Array.ext
 ·simp [madeCells]
 ·intro i h1 h2
  have : i % 1 = 0 := by omega
  simp [madeCells, this]
theorem make_ints (n : Nat) (hn : n ≤ 1000) (W : World) : (Instr.makeSlice 28 (.int .i64 (n : Int)) (.int .i64 (n : Int))).run Tryz.prog W = .ok (.slice (some ⟨W.heap.size, 0, none⟩) n n) (W.alloc (.cells (Array.replicate n (Value.int .i64 0)) 3)) := by
 obtain ⟨i0, hi, hz0, hz1, hz2⟩ := info_parts info3
 have h := run_make (P := Tryz.prog) W 28 3 i0 (.int .i64 0) Tryz.underlying28 hi hz0 .i64 .i64 (n : Int) (n : Int) (by omega) (Int.le_refl _) (by rw [hz2]; omega) (by omega)
 rw [hz1, Int.toNat_natCast, Nat.mul_one, show madeCells (Value.cells (Value.int .i64 0)) n = (Array.replicate n (Value.int .i64 0)) from made_one _ _] at h
 exact h
theorem made_intF (n : Nat) (W : World) : IntF (W.alloc (.cells (Array.replicate n (Value.int .i64 0)) 3)) W.heap.size n (fun _ => 0) := by
 have h : ArrAt (W.alloc (.cells (Array.replicate n (Value.int .i64 0)) 3)) W.heap.size 3 n (fun _ => 0) := arr_zero W n 3
 exact ⟨fun j hj => h.cell hj, fun o => h.frozen o⟩
theorem info_ints : (Tryz.prog.info? 28).map (fun i => (i.zero, i.size, i.bytes)) = some (some (.slice none 0 0), 1, 24) := by kernel_rfl
theorem make_rows (n : Nat) (hn : n ≤ 1000) (W : World) : (Instr.makeSlice 82 (.int .i64 (n : Int)) (.int .i64 (n : Int))).run Tryz.prog W = .ok (.slice (some ⟨W.heap.size, 0, none⟩) n n) (W.alloc (.cells (Array.replicate n (Value.slice none 0 0)) 28)) := by
 obtain ⟨i0, hi, hz0, hz1, hz2⟩ := info_parts info_ints
 have h := run_make (P := Tryz.prog) W 82 28 i0 (.slice none 0 0) Tryz.underlying82 hi hz0 .i64 .i64 (n : Int) (n : Int) (by omega) (Int.le_refl _) (by rw [hz2]; omega) (by omega)
 rw [hz1, Int.toNat_natCast, Nat.mul_one, show madeCells (Value.cells (.slice none 0 0)) n = (Array.replicate n (Value.slice none 0 0)) from made_one _ _] at h
 exact h
theorem made_vlF (v : Value) (ty : TypeId) (n : Nat) (W : World) : VlF (W.alloc (.cells (Array.replicate n v) ty)) W.heap.size n (fun _ => v) := by
 have h : (W.alloc (.cells (Array.replicate n v) ty)).heap[W.heap.size]? = _ := World.alloc_heap_new W _
 refine ⟨fun j hj => ?_, fun o => by unfold World.frozen?; rw [h]; simp⟩
 rw [cell_row h]
 simp [hj]
end Go.Proofs.YtegmniphgahblaaGreat
