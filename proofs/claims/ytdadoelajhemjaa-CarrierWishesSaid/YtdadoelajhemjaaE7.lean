/- Walks: the specification's Send. -/
import Derived.Test.YtdadoelajhemjaaE3
import Derived.Test.YtdadoelajhemjaaE6
namespace Go.Proofs.Ytdadoelajhemjaa
open Go.RowKit Go.Shelf

/-- The head that Send counts to. -/
def hdTo (ws : List Car) (x : Nat) : Nat → Nat
  | 0 => 0
  | k + 1 => if (headsTo ws ws.length).getD k 0 = caAt ws (headOf ws x) then k else hdTo ws x k
theorem hdTo_in {ws : List Car} {x : Nat} : ∀ (k j : Nat), j < k → (headsTo ws ws.length).getD j 0 = caAt ws (headOf ws x) → hdTo ws x k < k ∧ (headsTo ws ws.length).getD (hdTo ws x k) 0 = caAt ws (headOf ws x)
  | 0, j, h, _ => absurd h (Nat.not_lt_zero _)
  | k + 1, j, h, e => by
    unfold hdTo
    by_cases hk : (headsTo ws ws.length).getD k 0 = caAt ws (headOf ws x)
    · rw [if_pos hk]; exact ⟨Nat.lt_succ_self _, hk⟩
    · rw [if_neg hk]
      have hj : j < k := by
        have : j ≠ k := fun e2 => hk (e2 ▸ e)
        omega
      have h2 := hdTo_in k j hj e
      exact ⟨Nat.lt_succ_of_lt h2.1, h2.2⟩
theorem rivS_at {ws : List Car} {x k : Nat} (hk : k < (headsTo ws ws.length).length) : nth (rivS ws x) k = if (headsTo ws ws.length).getD k 0 = caAt ws (headOf ws x) then 1 else 0 := by
  unfold rivS rivTo nth
  simp [hk]
set_option maxRecDepth 100000 in
set_option maxHeartbeats 3200000 in
theorem rSend_ok (A : Option Addr) (c : Nat) (ws : List Car) (B1 A2 A3 : Option Addr) (bb ob d0 d1 d2 d3 : Nat) (ri bo lk lo : List Int) (id want : Int) (w : World) (h : Wk w A ws) (hs : Wet w ⟨some ⟨bb, ob, none⟩, B1, A2, A3, d0, d1, d2, d3, ri, bo, lk, lo⟩) (h0 : wishE ws ⟨some ⟨bb, ob, none⟩, B1, A2, A3, d0, d1, d2, d3, ri, bo, lk, lo⟩ id want = 0) :
    Calls Try.prog 36 #[.agg #[.slice A ws.length c], .agg #[.slice (some ⟨bb, ob, none⟩) ri.length d0, .slice B1 bo.length d1, .slice A2 lk.length d2, .slice A3 lo.length d3], .int .i64 id, .int .i64 want] w fun e w' => SendR ws ⟨some ⟨bb, ob, none⟩, B1, A2, A3, d0, d1, d2, d3, ri, bo, lk, lo⟩ id want e ∧ Below w.heap.size w w' := by
  obtain ⟨i0, hi0, hz0, hz1, hz2⟩ := info_parts info3
  have hb : Below w.heap.size w ((w.alloc (.cells #[.slice A ws.length c] 24)).alloc (.cells #[.slice (some ⟨bb, ob, none⟩) ri.length d0, .slice B1 bo.length d1, .slice A2 lk.length d2, .slice A3 lo.length d3] 27)) := ((Below.refl _ w).alloc (Nat.le_refl _) _).alloc (by simp) _
  have K := Lib.hid ((((stays_bl hb).and (stays_blk (blk_alloc (blk_new w #[.slice A ws.length c] 24 rfl) _))).and (stays_blk (g := w.heap.size + 1) (blk_new (w.alloc (.cells #[.slice A ws.length c] 24)) #[.slice (some ⟨bb, ob, none⟩) ri.length d0, .slice B1 bo.length d1, .slice A2 lk.length d2, .slice A3 lo.length d3] 27 (by simp)))).and ((stays_wk (h.ext hb)).and (stays_wet (hs.ext hb))))
  clear hb h hs
  have HC := Lib.hid (fun W hW hs => rWished_any A c ws ⟨some ⟨bb, ob, none⟩, B1, A2, A3, d0, d1, d2, d3, ri, bo, lk, lo⟩ id want W hW hs)
  obtain ⟨g, ok, hwt, x, hx, hxl, -⟩ := wish_zero h0
  have hi : wishI ws ⟨some ⟨bb, ob, none⟩, B1, A2, A3, d0, d1, d2, d3, ri, bo, lk, lo⟩ id want = (x : Int) := by unfold wishI; rw [if_pos h0, hx]; rfl
  rw [hi, h0] at HC
  have HO := Lib.hid (fun W hW => rSigns0_any A c ws x hxl W hW g)
  have HI := Lib.hid (And.intro g (And.intro ok (And.intro hx (And.intro hxl h0))))
  have hn2 := g.n2
  have hxz : (x : Int) < ((outs ws).length : Int) := by omega
  clear g ok hx h0 hi hwt
  go_enter Try.func36, Try.ntmps36
  go_upto_region 1 with fail
  generalize ((w.alloc (.cells #[.slice A ws.length c] 24)).alloc (.cells #[.slice (some ⟨bb, ob, none⟩) ri.length d0, .slice B1 bo.length d1, .slice A2 lk.length d2, .slice A3 lo.length d3] 27)) = W0 at *
  have p0 := cell_row (i := 0) K.out.1.1.1.2
  have p1 := cell_row (i := 0) K.out.1.1.2
  have p2 := cell_row (i := 1) K.out.1.1.2
  have p3 := cell_row (i := 2) K.out.1.1.2
  have p4 := cell_row (i := 3) K.out.1.1.2
  go_upto_region 4 with (go_at_call 96; refine (HC.out _ K.out.1.2.1 K.out.1.2.2).mono ?_; rintro e w1 ⟨rfl, hb⟩; have K1 := Lib.hid (K.out.on hb); clear hb)
  clear p0 p1 p2 p3 p4
  have p0 := cell_row (i := 0) K1.out.1.1.1.2
  have p1 := cell_row (i := 0) K1.out.1.1.2
  have p2 := cell_row (i := 1) K1.out.1.1.2
  have p3 := cell_row (i := 2) K1.out.1.1.2
  have p4 := cell_row (i := 3) K1.out.1.1.2
  go_upto_region 6 with (go_at_call 101; refine (HO.out _ K1.out.1.2.1).mono ?_; rintro e w2 ⟨A5, c5, A6, c6, A7, c7, rfl, hr, -, hb⟩; have K2 := Lib.hid (And.intro (K1.out.on hb) hr.1); clear hb hr)
  clear p0 p1 p2 p3 p4
  go_upto_region 7 with fail
  have HX := Lib.hid (And.intro (K2.out.1.on ((Below.refl _ w2).alloc (Nat.le_refl _) (.cells #[.slice A5 (headsTo ws ws.length).length c5, .slice A6 (outs ws).length c6, .slice A7 (outs ws).length c7, .int .i64 0] 69))) (And.intro (blk_new w2 #[.slice A5 (headsTo ws ws.length).length c5, .slice A6 (outs ws).length c6, .slice A7 (outs ws).length c7, .int .i64 0] 69 rfl) (K2.out.2.ext ((Below.refl _ w2).alloc (Nat.le_refl _) (.cells #[.slice A5 (headsTo ws ws.length).length c5, .slice A6 (outs ws).length c6, .slice A7 (outs ws).length c7, .int .i64 0] 69)))))
  clear K2
  generalize w2.alloc (.cells #[.slice A5 (headsTo ws ws.length).length c5, .slice A6 (outs ws).length c6, .slice A7 (outs ws).length c7, .int .i64 0] 69) = x3 at *
  generalize w2.heap.size = g12 at *
  obtain ⟨k0, hk0, he0⟩ := head_num HI.out.1 hxl
  have hnh : 0 < (headsTo ws ws.length).length := by omega
  have hn16 : (headsTo ws ws.length).length ≤ 16 := by have := headsTo_le ws ws.length; have := HI.out.1.n1; omega
  have hrl : (rivS ws x).length = (headsTo ws ws.length).length := rivTo_length (Nat.le_refl _)
  obtain ⟨b5, o5, rfl, hl5, hc5⟩ := HX.out.2.2 (by rw [hrl]; exact hnh)
  rw [hrl] at hc5
  have HD := Lib.hid (hdTo_in (headsTo ws ws.length).length k0 hk0 he0)
  have H5 := Lib.hid hc5
  clear hc5 hl5 hrl hk0 he0
  go_loopg [13, 14] (headsTo ws ws.length).length (fun gg hv kk wr => ∃ t : Nat, t ≤ (headsTo ws ws.length).length ∧ (headsTo ws ws.length).length - t ≤ gg ∧ kk = .int .i64 t ∧ hv = .int .i64 ((hdTo ws x t : Nat) : Int) ∧ Aside (wr = x3))
  case atStart => exact ⟨0, Nat.zero_le _, by omega, rfl, rfl, rfl⟩
  case round =>
    obtain ⟨t, ht0, htg, rfl, rfl, hA⟩ := hrel
    obtain rfl := hA.out
    have q0 := cell_row (i := 0) HX.out.2.1
    by_cases htl : t < (headsTo ws ws.length).length
    · have htz : (t : Int) < ((headsTo ws ws.length).length : Int) := by omega
      have z := H5.out t htl
      rw [rivS_at htl] at z
      by_cases he : (headsTo ws ws.length).getD t 0 = caAt ws (headOf ws x)
      · rw [if_pos he] at z
        have hs : hdTo ws x (t + 1) = t := if_pos he
        have HE := Lib.hid hs
        clear he hs
        go_wp2
        go_roundg ((headsTo ws ws.length).length - (t + 1))
        case measure => omega
        case rel => exact ⟨t + 1, by omega, by omega, by go_num, by rw [HE.out], rfl⟩
      · rw [if_neg he] at z
        have hs : hdTo ws x (t + 1) = hdTo ws x t := if_neg he
        have HE := Lib.hid hs
        clear he hs
        go_wp2
        go_roundg ((headsTo ws ws.length).length - (t + 1))
        case measure => omega
        case rel => exact ⟨t + 1, by omega, by omega, by go_num, by rw [HE.out], rfl⟩
    · have htz : ¬ (t : Int) < ((headsTo ws ws.length).length : Int) := by omega
      obtain rfl : t = (headsTo ws ws.length).length := by omega
      obtain ⟨hd, hhd⟩ : ∃ hd, hdTo ws x (headsTo ws ws.length).length = hd := ⟨_, rfl⟩
      rw [hhd] at HD ⊢
      clear hhd
      have p0 := cell_row (i := 0) HX.out.1.1.1.1.2
      have p1 := cell_row (i := 0) HX.out.1.1.1.2
      have p2 := cell_row (i := 1) HX.out.1.1.1.2
      have p3 := cell_row (i := 2) HX.out.1.1.1.2
      have p4 := cell_row (i := 3) HX.out.1.1.1.2
      clear H5
      generalize wr = w7 at *
      go_upto_region 12 with fail
      clear p0 p1 p2 p3 p4 q0
      have HX2 := Lib.hid (And.intro (blk_new w7 #[.slice (some ⟨bb, ob, none⟩) ri.length d0, .slice B1 bo.length d1, .slice A2 lk.length d2, .slice A3 lo.length d3] 27 rfl) ((Below.refl _ w7).alloc (Nat.le_refl _) (.cells #[.slice (some ⟨bb, ob, none⟩) ri.length d0, .slice B1 bo.length d1, .slice A2 lk.length d2, .slice A3 lo.length d3] 27)))
      have HGS := Lib.hid (show w7.heap.size < (w7.alloc (.cells #[.slice (some ⟨bb, ob, none⟩) ri.length d0, .slice B1 bo.length d1, .slice A2 lk.length d2, .slice A3 lo.length d3] 27)).heap.size by simp)
      generalize w7.alloc (.cells #[.slice (some ⟨bb, ob, none⟩) ri.length d0, .slice B1 bo.length d1, .slice A2 lk.length d2, .slice A3 lo.length d3] 27) = x3 at *
      generalize hG : w7.heap.size = g4 at *
      have HG4 := Lib.hid hG
      clear hG
      have hm : ri.length ≤ 1000 := HX.out.1.1.2.2.m0
      have hl1 : ri.length = (headsTo ws ws.length).length := HI.out.2.1.l0
      have HE := Lib.hid ((HX.out.1.on (by rw [HG4.out]; exact HX2.out.2)).on ((Below.refl _ x3).alloc (Nat.le_refl _) (.cells #[] 3)))
      have HN : Hid ((x3.alloc (.cells #[] 3)).ownsRow x3.heap.size 3 1 (.slice (some ⟨x3.heap.size, 0, none⟩) 0 0) 0 [] ∧ (∀ (j : Nat) (u : Value), (ri.map (Value.int .i64))[j]? = some u → (x3.alloc (.cells #[] 3)).cell? ((⟨bb, ob, none⟩ : Addr).add j) = some u) ∧ Below x3.heap.size x3 (x3.alloc (.cells #[] 3))) := by
        refine Lib.hid ⟨⟨rfl, .inr ⟨x3.heap.size, 0, #[], rfl, Nat.le_refl _, World.alloc_heap_new _ _, Nat.le_refl _, by unfold maxLen; omega, rfl, rfl⟩⟩, fun j u hj => ?_, (Below.refl _ x3).alloc (Nat.le_refl _) (.cells #[] 3)⟩
        obtain ⟨hl, rfl⟩ := map_nth hj
        obtain ⟨b', off', e, hlb, hc⟩ := (show Rd _ _ (some ⟨bb, ob, none⟩) ri from HE.out.1.2.2.r0) (by omega)
        simp only [Option.some.injEq, Addr.mk.injEq, and_true] at e
        obtain ⟨rfl, rfl⟩ := e
        rw [add_eq]
        exact hc j hl
      have hxb2 : hd < ri.length := by have := HD.out.1; omega
      have hxb : (hd : Int) < (ri.length : Int) := by omega
      have hl0 : 0 < ri.length := by omega
      clear hl1
      have p2 := cell_row (i := 0) HE.out.1.1.2
      have q1 := cell_row (i := 0) HX2.out.1
      have f1 := blk_frozen (i := 0) HX2.out.1
      go_upto_region 13 with (at_builtin; refine wpList_append_own_at _ rfl _ _ 25 rfl x3.heap.size 3 i0 (.int .i64 0) 1 8 Try.underlying25 hi0 hz0 hz1 hz2 rfl (by decide) (.slice (some ⟨x3.heap.size, 0, none⟩) 0 0) 0 [] rfl HN.out.1 ⟨bb, ob, none⟩ ri.length d0 (ri.map (Value.int .i64)) rfl (by simp) HN.out.2.1 (ints_oneCell _ _) (by unfold maxLen; omega) (by omega) HN.out.2.2.size ?_; intro v' w9 hown hgrow _ _; obtain ⟨g9, cp, rfl, hg9, hg9', hI⟩ := own_int hown (by omega); have hb9 : Below x3.heap.size x3 w9 := (((Below.refl _ x3).alloc (Nat.le_refl _) _).grown hgrow (by simp) (by intro k hk; simp [Value.ownBlock] at hk; omega)); have HB := Lib.hid (And.intro hg9 (And.intro hI (And.intro hb9 hg9'))); have q1 := cell_row (i := 0) (blk_on HX2.out.1 hb9); have f1 := blk_frozen (i := 0) (blk_on HX2.out.1 hb9); clear hown hgrow hb9 hg9 hI hg9')
      clear p2 q1 f1 HN HE
      have HY : Hid (Blk (w9.setCell ⟨g4, 0, none⟩ (.slice (some ⟨g9, 0, none⟩) ri.length cp)) g4 #[.slice (some ⟨g9, 0, none⟩) ri.length cp, .slice B1 bo.length d1, .slice A2 lk.length d2, .slice A3 lo.length d3] 27 ∧ IntF (w9.setCell ⟨g4, 0, none⟩ (.slice (some ⟨g9, 0, none⟩) ri.length cp)) g9 ri.length (nth ri) ∧ Below g4 w7 (w9.setCell ⟨g4, 0, none⟩ (.slice (some ⟨g9, 0, none⟩) ri.length cp)) ∧ g4 < g9 ∧ g9 < (w9.setCell ⟨g4, 0, none⟩ (.slice (some ⟨g9, 0, none⟩) ri.length cp)).heap.size) := by
        have h1 := HGS.out
        have h2 := HB.out.1
        have h3 := HX2.out.2
        refine Lib.hid ⟨heap_setCell_same _ _ 0 _ _ _ (blk_on HX2.out.1 HB.out.2.2.1), HB.out.2.1.heap (Below.heap_setCell _ _ _ _ (by show g9 ≠ g4; omega)), ((h3.trans (HB.out.2.2.1.mono (by omega))).setCell (p := ⟨g4, 0, none⟩) (Nat.le_refl _) _), by omega, by rw [World.size_setCell]; exact HB.out.2.2.2⟩
      clear HX2 HB HGS
      generalize w9.setCell ⟨g4, 0, none⟩ (.slice (some ⟨g9, 0, none⟩) ri.length cp) = x4 at *
      have HP := Lib.hid (send_mono HI.out.1 HI.out.2.1 hxl HD.out.1 HD.out.2 want)
      go_upto_region 15 with fail
      go_loopg [16, 17, 18] 1048577 (fun gg ll hh _ wr => ∃ l h : Int, ll = .int .i64 l ∧ hh = .int .i64 h ∧ 0 ≤ l ∧ l ≤ h ∧ h ≤ 1048577 ∧ (h - l).toNat ≤ gg ∧ Aside ((h ≤ 1048576 → sendP ws ⟨some ⟨bb, ob, none⟩, B1, A2, A3, d0, d1, d2, d3, ri, bo, lk, lo⟩ x hd want h = true) ∧ (∀ j, 0 ≤ j → j < l → sendP ws ⟨some ⟨bb, ob, none⟩, B1, A2, A3, d0, d1, d2, d3, ri, bo, lk, lo⟩ x hd want j = false) ∧ ∃ f : Nat → Int, IntF wr g9 ri.length f ∧ (∀ j, j ≠ hd → f j = nth ri j) ∧ Blk wr g4 #[.slice (some ⟨g9, 0, none⟩) ri.length cp, .slice B1 bo.length d1, .slice A2 lk.length d2, .slice A3 lo.length d3] 27 ∧ Below g4 w7 wr ∧ g4 < g9 ∧ g9 < wr.heap.size))
      case atStart => exact ⟨0, 1048577, rfl, rfl, by omega, by omega, by omega, by omega, fun h => by omega, fun j h1 h2 => by omega, nth ri, HY.out.2.1, fun _ _ => rfl, HY.out.1, HY.out.2.2⟩
      case round =>
        obtain ⟨l, h, rfl, rfl, hl, hlh, hhm, hgg, hA⟩ := hrel
        obtain ⟨hA1, hA2, f, hA3⟩ := hA.out
        have HA := Lib.hid (And.intro hA1 (And.intro hA2 hA3))
        clear hA hA1 hA2 hA3
        by_cases hlt : l < h
        · have hw1 : IntKind.i64.wrap (l + h) = l + h := IntWalk.i64_in _ (by omega)
          go_upto_region 17 with fail
          obtain ⟨m, hm⟩ : ∃ m, m = (l + h) / 2 := ⟨_, rfl⟩
          have hlm : l ≤ m := by omega
          have hmh : m < h := by omega
          rw [← hm]
          clear hm hw1
          have q1 := cell_row (i := 0) HA.out.2.2.2.2.1
          have q2 := HA.out.2.2.1.at_ hd hxb2
          have f2 := HA.out.2.2.1.fz hd
          go_upto_region 18 with fail
          have HZ : Hid (Blk (wr.setCell ⟨g9, hd, none⟩ (.int .i64 m)) g4 #[.slice (some ⟨g9, 0, none⟩) ri.length cp, .slice B1 bo.length d1, .slice A2 lk.length d2, .slice A3 lo.length d3] 27 ∧ Rd (wr.setCell ⟨g9, hd, none⟩ (.int .i64 m)) (wr.setCell ⟨g9, hd, none⟩ (.int .i64 m)).heap.size (some ⟨g9, 0, none⟩) (ri.set hd m) ∧ IntF (wr.setCell ⟨g9, hd, none⟩ (.int .i64 m)) g9 ri.length (put f hd m) ∧ Below g4 w7 (wr.setCell ⟨g9, hd, none⟩ (.int .i64 m)) ∧ g9 < (wr.setCell ⟨g9, hd, none⟩ (.int .i64 m)).heap.size) := by
            have h1 := HA.out.2.2.2.2.2
            have h2 := HA.out.2.2.1.set hxb2 m
            refine Lib.hid ⟨(Below.heap_setCell _ _ _ _ (by show g4 ≠ g9; omega)).trans HA.out.2.2.2.2.1, IntF.rd (f := put f hd m) (by rw [List.length_set]; exact h2) (by rw [World.size_setCell]; exact h1.2.2) (fun j hj => ?_), h2, h1.1.setCell (p := ⟨g9, hd, none⟩) (by show g4 ≤ g9; omega) _, by rw [World.size_setCell]; exact h1.2.2⟩
            rw [nth_set _ (by rw [List.length_set] at hj; exact hj)]
            unfold put
            by_cases e : j = hd
            · rw [if_pos e, if_pos e]
            · rw [if_neg e, if_neg e]; exact HA.out.2.2.2.1 j e
          have HPF := Lib.hid (show ∀ j, j ≠ hd → put f hd m j = nth ri j from fun j e => by unfold put; rw [if_neg e]; exact HA.out.2.2.2.1 j e)
          have HG9 := Lib.hid (show g4 < g9 from HA.out.2.2.2.2.2.2.1)
          have HA1 := Lib.hid (And.intro HA.out.1 HA.out.2.1)
          clear q1 q2 f2 HA
          generalize wr.setCell ⟨g9, hd, none⟩ (.int .i64 m) = x5 at *
          have K5 := Lib.hid (HX.out.1.on (by rw [HG4.out]; exact HZ.out.2.2.2.1))
          have hw := K5.out.1.2.2
          have hw2 : Wet x5 ⟨some ⟨g9, 0, none⟩, B1, A2, A3, cp, d1, d2, d3, ri.set hd m, bo, lk, lo⟩ := ⟨HZ.out.2.1, hw.r1, hw.r2, hw.r3, by show (ri.set hd m).length ≤ 1000; rw [List.length_set]; exact hm, hw.m1, hw.m2, hw.m3⟩
          have hok := givW_ok HI.out.2.1 (k := hd) (v := m) (by omega) (by omega)
          have hF := rFlow_any A c ws ⟨some ⟨g9, 0, none⟩, B1, A2, A3, cp, d1, d2, d3, ri.set hd m, bo, lk, lo⟩ x5 K5.out.1.2.1 hw2 HI.out.1 ⟨hok.l0, hok.l1, hok.l2, hok.l3, hok.r0, hok.r1, hok.r2, hok.r3⟩
          obtain ⟨fl, hfl⟩ : ∃ fl, flowF ws ⟨some ⟨g9, 0, none⟩, B1, A2, A3, cp, d1, d2, d3, ri.set hd m, bo, lk, lo⟩ x = fl := ⟨_, rfl⟩
          have HOP : Hid (sendP ws ⟨some ⟨bb, ob, none⟩, B1, A2, A3, d0, d1, d2, d3, ri, bo, lk, lo⟩ x hd want m = decide (want ≤ fl)) := by
            unfold sendP
            rw [← hfl, flowF_congr (s := givW ⟨some ⟨bb, ob, none⟩, B1, A2, A3, d0, d1, d2, d3, ri, bo, lk, lo⟩ hd m) (t := ⟨some ⟨g9, 0, none⟩, B1, A2, A3, cp, d1, d2, d3, ri.set hd m, bo, lk, lo⟩) rfl rfl rfl rfl]
            exact Lib.hid rfl
          have hat : nth (FLto ws ⟨some ⟨g9, 0, none⟩, B1, A2, A3, cp, d1, d2, d3, ri.set hd m, bo, lk, lo⟩ (outs ws).length) x = fl := by rw [FLto_at hxl, hfl]
          have hlen := FLto_length ws ⟨some ⟨g9, 0, none⟩, B1, A2, A3, cp, d1, d2, d3, ri.set hd m, bo, lk, lo⟩ (outs ws).length
          simp only [Wt.v, List.length_set] at hF
          generalize FLto ws ⟨some ⟨g9, 0, none⟩, B1, A2, A3, cp, d1, d2, d3, ri.set hd m, bo, lk, lo⟩ (outs ws).length = FL at *
          generalize TLto ws ⟨some ⟨g9, 0, none⟩, B1, A2, A3, cp, d1, d2, d3, ri.set hd m, bo, lk, lo⟩ ws.length = TL at *
          generalize LOto ws ⟨some ⟨g9, 0, none⟩, B1, A2, A3, cp, d1, d2, d3, ri.set hd m, bo, lk, lo⟩ (outs ws).length = LN at *
          have HFL := Lib.hid (And.intro hF (And.intro hat hlen))
          clear hF hat hlen hfl hok hw hw2
          have p0 := cell_row (i := 0) K5.out.1.1.1.2
          have q0 := cell_row (i := 0) HZ.out.1
          have q1 := cell_row (i := 1) HZ.out.1
          have q2 := cell_row (i := 2) HZ.out.1
          have q3 := cell_row (i := 3) HZ.out.1
          have qf0 := fieldFl0
          have hw2 : IntKind.i64.wrap (m + 1) = m + 1 := IntWalk.i64_in _ (by omega)
          by_cases hq : want ≤ fl
          · have HT := Lib.hid (show sendP ws ⟨some ⟨bb, ob, none⟩, B1, A2, A3, d0, d1, d2, d3, ri, bo, lk, lo⟩ x hd want m = true by rw [HOP.out]; exact decide_eq_true hq)
            go_wp2_with (go_at_call 82; refine HFL.out.1.mono ?_; rintro e w10 ⟨A8, c8, A9, c9, rfl, r8, -, -, -, hb⟩; obtain ⟨b8, o8, rfl, -, hc8⟩ := r8 (by rw [HFL.out.2.2]; omega); have z1 := hc8 x (by rw [HFL.out.2.2]; omega); rw [HFL.out.2.1] at z1; have HB6 := Lib.hid (And.intro (HZ.out.2.2.1.heap (hb.block g9 HZ.out.2.2.2.2)) (And.intro (blk_on HZ.out.1 hb) (And.intro (HZ.out.2.2.2.1.trans (hb.mono (by have := HZ.out.2.2.2.1.size; have := HG4.out; omega))) (Nat.lt_of_lt_of_le HZ.out.2.2.2.2 hb.size)))); clear hb hc8 r8)
            go_roundg (m - l).toNat
            case measure => omega
            case rel => exact ⟨l, m, rfl, rfl, hl, hlm, by omega, by omega, fun _ => HT.out, HA1.out.2, put f hd m, HB6.out.1, HPF.out, HB6.out.2.1, HB6.out.2.2.1, HG9.out, HB6.out.2.2.2⟩
          · have HT := Lib.hid (show ∀ j : Int, 0 ≤ j → j < m + 1 → sendP ws ⟨some ⟨bb, ob, none⟩, B1, A2, A3, d0, d1, d2, d3, ri, bo, lk, lo⟩ x hd want j = false from fun j h1 h2 => by
              cases hj : sendP ws ⟨some ⟨bb, ob, none⟩, B1, A2, A3, d0, d1, d2, d3, ri, bo, lk, lo⟩ x hd want j with
              | false => rfl
              | true =>
                have h3 := HP.out j m h1 (by omega) (by omega) hj
                rw [HOP.out, decide_eq_true_eq] at h3
                exact absurd h3 hq)
            go_wp2_with (go_at_call 82; refine HFL.out.1.mono ?_; rintro e w10 ⟨A8, c8, A9, c9, rfl, r8, -, -, -, hb⟩; obtain ⟨b8, o8, rfl, -, hc8⟩ := r8 (by rw [HFL.out.2.2]; omega); have z1 := hc8 x (by rw [HFL.out.2.2]; omega); rw [HFL.out.2.1] at z1; have HB6 := Lib.hid (And.intro (HZ.out.2.2.1.heap (hb.block g9 HZ.out.2.2.2.2)) (And.intro (blk_on HZ.out.1 hb) (And.intro (HZ.out.2.2.2.1.trans (hb.mono (by have := HZ.out.2.2.2.1.size; have := HG4.out; omega))) (Nat.lt_of_lt_of_le HZ.out.2.2.2.2 hb.size)))); clear hb hc8 r8)
            go_roundg (h - (m + 1)).toNat
            case measure => omega
            case rel => exact ⟨m + 1, h, rfl, rfl, by omega, by omega, hhm, by omega, HA1.out.1, HT.out, put f hd m, HB6.out.1, HPF.out, HB6.out.2.1, HB6.out.2.2.1, HG9.out, HB6.out.2.2.2⟩
        · obtain rfl : l = h := by omega
          have K6 := Lib.hid (HX.out.1.on (by rw [HG4.out]; exact HA.out.2.2.2.2.2.1))
          by_cases hbig : 1048576 < l
          · have HR : Hid (SendR ws ⟨some ⟨bb, ob, none⟩, B1, A2, A3, d0, d1, d2, d3, ri, bo, lk, lo⟩ id want (.returned (.tuple #[.int .i64 0, .int .i64 5]))) := Lib.hid (.inr ⟨HI.out.2.2.2.2, x, hd, HI.out.2.2.1, HD.out.1, HD.out.2, .inl ⟨HA.out.2.1 _ (by omega) hbig, rfl⟩⟩)
            go_wp2
            go_ret2
            exact ⟨HR.out, K6.out.1.1.1.1⟩
          · have HR : Hid (SendR ws ⟨some ⟨bb, ob, none⟩, B1, A2, A3, d0, d1, d2, d3, ri, bo, lk, lo⟩ id want (.returned (.tuple #[.int .i64 l, .int .i64 0]))) := Lib.hid (.inr ⟨HI.out.2.2.2.2, x, hd, HI.out.2.2.1, HD.out.1, HD.out.2, .inr ⟨l, hl, by omega, HA.out.1 (by omega), HA.out.2.1, rfl⟩⟩)
            go_wp2
            go_ret2
            exact ⟨HR.out, K6.out.1.1.1.1⟩
set_option maxRecDepth 100000 in
set_option maxHeartbeats 3200000 in
theorem rSend_any (A : Option Addr) (c : Nat) (ws : List Car) (s : Wt) (id want : Int) (w : World) (h : Wk w A ws) (hs : Wet w s) :
    Calls Try.prog 36 #[.agg #[.slice A ws.length c], s.v, .int .i64 id, .int .i64 want] w fun e w' => SendR ws s id want e ∧ Below w.heap.size w w' := by
  obtain ⟨i0, hi0, hz0, hz1, hz2⟩ := info_parts info3
  obtain ⟨A0, B1, A2, A3, d0, d1, d2, d3, ri, bo, lk, lo⟩ := s
  show Calls _ _ #[.agg #[.slice A ws.length c], .agg #[.slice A0 ri.length d0, .slice B1 bo.length d1, .slice A2 lk.length d2, .slice A3 lo.length d3], .int .i64 id, .int .i64 want] _ _
  by_cases h0 : wishE ws ⟨A0, B1, A2, A3, d0, d1, d2, d3, ri, bo, lk, lo⟩ id want = 0
  rotate_left
  · have hi : wishI ws ⟨A0, B1, A2, A3, d0, d1, d2, d3, ri, bo, lk, lo⟩ id want = 0 := if_neg h0
    have hR : SendR ws ⟨A0, B1, A2, A3, d0, d1, d2, d3, ri, bo, lk, lo⟩ id want (.returned (.tuple #[.int .i64 0, .int .i64 (wishE ws ⟨A0, B1, A2, A3, d0, d1, d2, d3, ri, bo, lk, lo⟩ id want)])) := .inl ⟨h0, rfl⟩
    have hb : Below w.heap.size w ((w.alloc (.cells #[.slice A ws.length c] 24)).alloc (.cells #[.slice A0 ri.length d0, .slice B1 bo.length d1, .slice A2 lk.length d2, .slice A3 lo.length d3] 27)) := ((Below.refl _ w).alloc (Nat.le_refl _) _).alloc (by simp) _
    have K := Lib.hid ((((stays_bl hb).and (stays_blk (blk_alloc (blk_new w #[.slice A ws.length c] 24 rfl) _))).and (stays_blk (g := w.heap.size + 1) (blk_new (w.alloc (.cells #[.slice A ws.length c] 24)) #[.slice A0 ri.length d0, .slice B1 bo.length d1, .slice A2 lk.length d2, .slice A3 lo.length d3] 27 (by simp)))).and ((stays_wk (h.ext hb)).and (stays_wet (hs.ext hb))))
    clear hb h hs
    have HC := Lib.hid (fun W hW hs => rWished_any A c ws ⟨A0, B1, A2, A3, d0, d1, d2, d3, ri, bo, lk, lo⟩ id want W hW hs)
    have HR := Lib.hid hR
    clear hR
    rw [hi] at HC
    generalize wishE ws ⟨A0, B1, A2, A3, d0, d1, d2, d3, ri, bo, lk, lo⟩ id want = E at *
    have hz : (E != 0) = true := by simpa using h0
    clear h0 hi
    go_enter Try.func36, Try.ntmps36
    go_upto_region 1 with fail
    generalize ((w.alloc (.cells #[.slice A ws.length c] 24)).alloc (.cells #[.slice A0 ri.length d0, .slice B1 bo.length d1, .slice A2 lk.length d2, .slice A3 lo.length d3] 27)) = W0 at *
    have p0 := cell_row (i := 0) K.out.1.1.1.2
    have p1 := cell_row (i := 0) K.out.1.1.2
    have p2 := cell_row (i := 1) K.out.1.1.2
    have p3 := cell_row (i := 2) K.out.1.1.2
    have p4 := cell_row (i := 3) K.out.1.1.2
    go_wp2_with (go_at_call 96; refine (HC.out _ K.out.1.2.1 K.out.1.2.2).mono ?_; rintro e w1 ⟨rfl, hb⟩; have K1 := Lib.hid (K.out.on hb); clear hb)
    go_ret2
    exact ⟨HR.out, K1.out.1.1.1.1⟩
  · obtain ⟨g, ok, -, x, -, hxl, -⟩ := wish_zero h0
    obtain ⟨k, hk, -⟩ := head_num g hxl
    have hl : ri.length = (headsTo ws ws.length).length := ok.l0
    obtain ⟨bb, ob, rfl, -, -⟩ := (show Rd w w.heap.size A0 ri from hs.r0) (by omega)
    exact rSend_ok A c ws B1 A2 A3 bb ob d0 d1 d2 d3 ri bo lk lo id want w h hs h0
end Go.Proofs.Ytdadoelajhemjaa
