/- Walks: the specification's Open. -/
import Derived.Test.YtdadoelajhemjaaC9
import Derived.Test.YtdadoelajhemjaaE5
namespace Go.Proofs.Ytdadoelajhemjaa
open Go.RowKit Go.Shelf

theorem own_int {B : Nat} {w' : World} {v' : Value} {bo : List Int} (hown : w'.ownsRow B 3 1 v' (0 + bo.length) ([] ++ bo.map (Value.int .i64))) (h0 : 0 < bo.length) : ∃ g cap, v' = .slice (some ⟨g, 0, none⟩) bo.length cap ∧ B ≤ g ∧ g < w'.heap.size ∧ IntF w' g bo.length (nth bo) := by
  rw [Nat.zero_add, List.nil_append] at hown
  rcases hown.2 with ⟨e, hn⟩ | ⟨g, cap, cur, e, hbg, hg2, _⟩
  · omega
  · subst e
    exact ⟨g, cap, rfl, hbg, (Array.getElem?_eq_some_iff.1 hg2).1, fun j hj => by
      have h1 := World.ownsRow.cells hown (g := g) rfl j _ (nth_map hj)
      rw [add_eq, Nat.zero_add] at h1
      exact h1, fun o => by simp [World.frozen?, hg2]⟩
theorem fieldFl0 (A : Option Addr) (n c : Nat) (B : Option Addr) (m d : Nat) (k : Int) (w : World) : (Instr.field 128 (.agg #[.slice A n c, .slice B m d, .int .i64 k]) 0).run Try.prog w = .ok (.slice A n c) w := by kernel_rfl
set_option maxRecDepth 100000 in
set_option maxHeartbeats 3200000 in
theorem rOpen_ok (A : Option Addr) (c : Nat) (ws : List Car) (A0 A2 A3 : Option Addr) (bb ob d0 d1 d2 d3 : Nat) (ri bo lk lo : List Int) (id want : Int) (w : World) (h : Wk w A ws) (hs : Wet w ⟨A0, some ⟨bb, ob, none⟩, A2, A3, d0, d1, d2, d3, ri, bo, lk, lo⟩) (h0 : wishE ws ⟨A0, some ⟨bb, ob, none⟩, A2, A3, d0, d1, d2, d3, ri, bo, lk, lo⟩ id want = 0) :
    Calls Try.prog 34 #[.agg #[.slice A ws.length c], .agg #[.slice A0 ri.length d0, .slice (some ⟨bb, ob, none⟩) bo.length d1, .slice A2 lk.length d2, .slice A3 lo.length d3], .int .i64 id, .int .i64 want] w fun e w' => OpenR ws ⟨A0, some ⟨bb, ob, none⟩, A2, A3, d0, d1, d2, d3, ri, bo, lk, lo⟩ id want e ∧ Below w.heap.size w w' := by
  obtain ⟨i0, hi0, hz0, hz1, hz2⟩ := info_parts info3
  have hb : Below w.heap.size w ((w.alloc (.cells #[.slice A ws.length c] 24)).alloc (.cells #[.slice A0 ri.length d0, .slice (some ⟨bb, ob, none⟩) bo.length d1, .slice A2 lk.length d2, .slice A3 lo.length d3] 27)) := ((Below.refl _ w).alloc (Nat.le_refl _) _).alloc (by simp) _
  have K := Lib.hid ((((stays_bl hb).and (stays_blk (blk_alloc (blk_new w #[.slice A ws.length c] 24 rfl) _))).and (stays_blk (g := w.heap.size + 1) (blk_new (w.alloc (.cells #[.slice A ws.length c] 24)) #[.slice A0 ri.length d0, .slice (some ⟨bb, ob, none⟩) bo.length d1, .slice A2 lk.length d2, .slice A3 lo.length d3] 27 (by simp)))).and ((stays_wk (h.ext hb)).and (stays_wet (hs.ext hb))))
  clear hb h hs
  have HC := Lib.hid (fun W hW hs => rWished_any A c ws ⟨A0, some ⟨bb, ob, none⟩, A2, A3, d0, d1, d2, d3, ri, bo, lk, lo⟩ id want W hW hs)
  obtain ⟨g, ok, hwt, x, hx, hxl, -⟩ := wish_zero h0
  have hi : wishI ws ⟨A0, some ⟨bb, ob, none⟩, A2, A3, d0, d1, d2, d3, ri, bo, lk, lo⟩ id want = (x : Int) := by unfold wishI; rw [if_pos h0, hx]; rfl
  rw [hi, h0] at HC
  have HO := Lib.hid (fun W hW => rOutlets_any A c ws W hW)
  have HI := Lib.hid (And.intro g (And.intro ok (And.intro hx (And.intro hxl h0))))
  have hn2 := g.n2
  have hps := (g.fine hxl).n
  have hxz : (x : Int) < ((outs ws).length : Int) := by omega
  clear g ok hx h0 hi hwt
  go_enter Try.func34, Try.ntmps34
  go_upto_region 1 with fail
  generalize ((w.alloc (.cells #[.slice A ws.length c] 24)).alloc (.cells #[.slice A0 ri.length d0, .slice (some ⟨bb, ob, none⟩) bo.length d1, .slice A2 lk.length d2, .slice A3 lo.length d3] 27)) = W0 at *
  have p0 := cell_row (i := 0) K.out.1.1.1.2
  have p1 := cell_row (i := 0) K.out.1.1.2
  have p2 := cell_row (i := 1) K.out.1.1.2
  have p3 := cell_row (i := 2) K.out.1.1.2
  have p4 := cell_row (i := 3) K.out.1.1.2
  go_upto_region 4 with (go_at_call 96; refine (HC.out _ K.out.1.2.1 K.out.1.2.2).mono ?_; rintro e w1 ⟨rfl, hb⟩; have K1 := Lib.hid (K.out.on hb); clear hb)
  clear p0 p1 p2 p3 p4
  have p0 := cell_row (i := 0) K1.out.1.1.1.2
  have p1 := cell_row (i := 0) K1.out.1.1.2
  have p2 := cell_row (i := 1) K1.out.1.1.2
  have p3 := cell_row (i := 2) K1.out.1.1.2
  have p4 := cell_row (i := 3) K1.out.1.1.2
  go_upto_region 6 with (go_at_call 90; refine (HO.out _ K1.out.1.2.1).mono ?_; rintro e w2 ⟨A5, c5, rfl, hr, -, hb⟩; have K2 := Lib.hid (And.intro (K1.out.on hb) hr); clear hb hr)
  clear p0 p1 p2 p3 p4
  obtain ⟨b5, o5, rfl, hl5, hc5⟩ := K2.out.2 (by omega)
  have H5 := Lib.hid (And.intro hl5 (hc5 x hxl))
  clear hl5 hc5
  go_loopg [13, 14] (oAt (outs ws) x).ps.length (fun gg vb _ wr => ∃ t : Nat, t ≤ (oAt (outs ws) x).ps.length ∧ (oAt (outs ws) x).ps.length - t ≤ gg ∧ vb = .int .i64 t ∧ Aside ((∀ j : Int, 0 ≤ j → j < t → openP ws ⟨A0, some ⟨bb, ob, none⟩, A2, A3, d0, d1, d2, d3, ri, bo, lk, lo⟩ x want j = false) ∧ Below w2.heap.size w2 wr))
  case atStart => exact ⟨0, Nat.zero_le _, by omega, rfl, fun j h1 h2 => by omega, Below.refl _ _⟩
  case round =>
    obtain ⟨t, ht0, htg, rfl, hA⟩ := hrel
    have HA := Lib.hid hA.out
    clear hA
    have hc2 := (HA.out.2.cell (p := ⟨b5, o5 + x * 7 + 2, none⟩) H5.out.1).trans H5.out.2.c2
    have K3 := Lib.hid (K2.out.1.on HA.out.2)
    by_cases htl : t < (oAt (outs ws) x).ps.length
    · have htz : (t : Int) < ((oAt (outs ws) x).ps.length : Int) := by omega
      have p0 := cell_row (i := 0) K3.out.1.1.1.2
      have p1 := cell_row (i := 0) K3.out.1.1.2
      have p2 := cell_row (i := 1) K3.out.1.1.2
      have p3 := cell_row (i := 2) K3.out.1.1.2
      have p4 := cell_row (i := 3) K3.out.1.1.2
      go_upto_region 9 with fail
      clear p0 p1 p2 p3 p4 hc2
      have HX := Lib.hid (And.intro (K3.out.on ((Below.refl _ wr).alloc (Nat.le_refl _) (.cells #[.slice A0 ri.length d0, .slice (some ⟨bb, ob, none⟩) bo.length d1, .slice A2 lk.length d2, .slice A3 lo.length d3] 27))) (And.intro (blk_new wr #[.slice A0 ri.length d0, .slice (some ⟨bb, ob, none⟩) bo.length d1, .slice A2 lk.length d2, .slice A3 lo.length d3] 27 rfl) (And.intro (HA.out.2.trans (((Below.refl _ wr).alloc (Nat.le_refl _) (.cells #[.slice A0 ri.length d0, .slice (some ⟨bb, ob, none⟩) bo.length d1, .slice A2 lk.length d2, .slice A3 lo.length d3] 27)).mono HA.out.2.size)) HA.out.2.size)))
      have HGS := Lib.hid (show wr.heap.size < (wr.alloc (.cells #[.slice A0 ri.length d0, .slice (some ⟨bb, ob, none⟩) bo.length d1, .slice A2 lk.length d2, .slice A3 lo.length d3] 27)).heap.size by simp)
      clear K3
      generalize wr.alloc (.cells #[.slice A0 ri.length d0, .slice (some ⟨bb, ob, none⟩) bo.length d1, .slice A2 lk.length d2, .slice A3 lo.length d3] 27) = x3 at *
      generalize wr.heap.size = g4 at *
      have q1 := cell_row (i := 1) HX.out.2.1
      have f1 := blk_frozen (i := 1) HX.out.2.1
      have hm : bo.length ≤ 1000 := HX.out.1.1.2.2.m1
      have hl1 : bo.length = (outs ws).length := HI.out.2.1.l1
      have HE := Lib.hid (HX.out.1.on ((Below.refl _ x3).alloc (Nat.le_refl _) (.cells #[] 3)))
      have HN : Hid ((x3.alloc (.cells #[] 3)).ownsRow x3.heap.size 3 1 (.slice (some ⟨x3.heap.size, 0, none⟩) 0 0) 0 [] ∧ (∀ (j : Nat) (u : Value), (bo.map (Value.int .i64))[j]? = some u → (x3.alloc (.cells #[] 3)).cell? ((⟨bb, ob, none⟩ : Addr).add j) = some u) ∧ Below x3.heap.size x3 (x3.alloc (.cells #[] 3))) := by
        refine Lib.hid ⟨⟨rfl, .inr ⟨x3.heap.size, 0, #[], rfl, Nat.le_refl _, World.alloc_heap_new _ _, Nat.le_refl _, by unfold maxLen; omega, rfl, rfl⟩⟩, fun j u hj => ?_, (Below.refl _ x3).alloc (Nat.le_refl _) (.cells #[] 3)⟩
        obtain ⟨hl, rfl⟩ := map_nth hj
        obtain ⟨b', off', e, hlb, hc⟩ := (show Rd _ _ (some ⟨bb, ob, none⟩) bo from HE.out.1.2.2.r1) (by omega)
        simp only [Option.some.injEq, Addr.mk.injEq, and_true] at e
        obtain ⟨rfl, rfl⟩ := e
        rw [add_eq]
        exact hc j hl
      have HL := Lib.hid hl1
      have hl0 : 0 < bo.length := by omega
      have hxb : (x : Int) < (bo.length : Int) := by omega
      clear hl1
      have p2 := cell_row (i := 1) HE.out.1.1.2
      go_upto_region 10 with (at_builtin; refine wpList_append_own_at _ rfl _ _ 25 rfl x3.heap.size 3 i0 (.int .i64 0) 1 8 Try.underlying25 hi0 hz0 hz1 hz2 rfl (by decide) (.slice (some ⟨x3.heap.size, 0, none⟩) 0 0) 0 [] rfl HN.out.1 ⟨bb, ob, none⟩ bo.length d1 (bo.map (Value.int .i64)) rfl (by simp) HN.out.2.1 (ints_oneCell _ _) (by unfold maxLen; omega) (by omega) HN.out.2.2.size ?_; intro v' w9 hown hgrow _ _; obtain ⟨g9, cp, rfl, hg9, hg9', hI⟩ := own_int hown (by omega); have hb9 : Below x3.heap.size x3 w9 := (((Below.refl _ x3).alloc (Nat.le_refl _) _).grown hgrow (by simp) (by intro k hk; simp [Value.ownBlock] at hk; omega)); have HB := Lib.hid (And.intro hg9 (And.intro hI (And.intro hb9 hg9'))); have q1 := cell_row (i := 1) (blk_on HX.out.2.1 hb9); have f1 := blk_frozen (i := 1) (blk_on HX.out.2.1 hb9); clear hown hgrow hb9 hg9 hI hg9')
      clear p2 q1 f1 HN HE
      have HY : Hid (Blk (w9.setCell ⟨g4, 1, none⟩ (.slice (some ⟨g9, 0, none⟩) bo.length cp)) g4 #[.slice A0 ri.length d0, .slice (some ⟨g9, 0, none⟩) bo.length cp, .slice A2 lk.length d2, .slice A3 lo.length d3] 27 ∧ IntF (w9.setCell ⟨g4, 1, none⟩ (.slice (some ⟨g9, 0, none⟩) bo.length cp)) g9 bo.length (nth bo) ∧ Below w2.heap.size w2 (w9.setCell ⟨g4, 1, none⟩ (.slice (some ⟨g9, 0, none⟩) bo.length cp)) ∧ g4 < g9 ∧ g9 < (w9.setCell ⟨g4, 1, none⟩ (.slice (some ⟨g9, 0, none⟩) bo.length cp)).heap.size ∧ w2.heap.size ≤ g4) := by
        have h1 := HGS.out
        have h2 := HB.out.1
        have h3 := HX.out.2.2.2
        refine Lib.hid ⟨heap_setCell_same _ _ 1 _ _ _ (blk_on HX.out.2.1 HB.out.2.2.1), HB.out.2.1.heap (Below.heap_setCell _ _ _ _ (by show g9 ≠ g4; omega)), ((HX.out.2.2.1.trans (HB.out.2.2.1.mono HX.out.2.2.1.size)).setCell (p := ⟨g4, 1, none⟩) h3 _), by omega, by rw [World.size_setCell]; exact HB.out.2.2.2, h3⟩
      clear HX HB HGS
      generalize w9.setCell ⟨g4, 1, none⟩ (.slice (some ⟨g9, 0, none⟩) bo.length cp) = x4 at *
      have q1 := cell_row (i := 1) HY.out.1
      have q2 := HY.out.2.1.at_ x (by omega)
      have f2 := HY.out.2.1.fz x
      go_upto_region 11 with fail
      have hxb2 : x < bo.length := by omega
      have HZ : Hid (Blk (x4.setCell ⟨g9, x, none⟩ (.int .i64 (t : Int))) g4 #[.slice A0 ri.length d0, .slice (some ⟨g9, 0, none⟩) bo.length cp, .slice A2 lk.length d2, .slice A3 lo.length d3] 27 ∧ Rd (x4.setCell ⟨g9, x, none⟩ (.int .i64 (t : Int))) (x4.setCell ⟨g9, x, none⟩ (.int .i64 (t : Int))).heap.size (some ⟨g9, 0, none⟩) (bo.set x (t : Int)) ∧ Below w2.heap.size w2 (x4.setCell ⟨g9, x, none⟩ (.int .i64 (t : Int)))) := by
        have h1 := HY.out.2.2.2
        refine Lib.hid ⟨(Below.heap_setCell _ _ _ _ (by show g4 ≠ g9; omega)).trans HY.out.1, IntF.rd (f := put (nth bo) x (t : Int)) (by rw [List.length_set]; exact HY.out.2.1.set hxb2 _) (by rw [World.size_setCell]; exact h1.2.1) (fun j hj => (nth_set _ (by rw [List.length_set] at hj; exact hj)).symm), HY.out.2.2.1.setCell (p := ⟨g9, x, none⟩) (by show w2.heap.size ≤ g9; omega) _⟩
      clear q1 q2 f2 HY
      generalize x4.setCell ⟨g9, x, none⟩ (.int .i64 (t : Int)) = x5 at *
      have K5 := Lib.hid (K2.out.1.on HZ.out.2.2)
      have hw := K5.out.1.2.2
      have hw2 : Wet x5 ⟨A0, some ⟨g9, 0, none⟩, A2, A3, d0, cp, d2, d3, ri, bo.set x (t : Int), lk, lo⟩ := ⟨hw.r0, HZ.out.2.1, hw.r2, hw.r3, hw.m0, by show (bo.set x _).length ≤ 1000; rw [List.length_set]; exact hm, hw.m2, hw.m3⟩
      have hok := brdW_ok HI.out.2.1 hxl (v := (t : Int)) (by omega) (by omega)
      have hF := rFlow_any A c ws ⟨A0, some ⟨g9, 0, none⟩, A2, A3, d0, cp, d2, d3, ri, bo.set x (t : Int), lk, lo⟩ x5 K5.out.1.2.1 hw2 HI.out.1 ⟨hok.l0, hok.l1, hok.l2, hok.l3, hok.r0, hok.r1, hok.r2, hok.r3⟩
      obtain ⟨fl, hfl⟩ : ∃ fl, flowF ws ⟨A0, some ⟨g9, 0, none⟩, A2, A3, d0, cp, d2, d3, ri, bo.set x (t : Int), lk, lo⟩ x = fl := ⟨_, rfl⟩
      have HOP : Hid (openP ws ⟨A0, some ⟨bb, ob, none⟩, A2, A3, d0, d1, d2, d3, ri, bo, lk, lo⟩ x want t = decide (want ≤ fl)) := by
        unfold openP
        rw [← hfl, flowF_congr (s := brdW ⟨A0, some ⟨bb, ob, none⟩, A2, A3, d0, d1, d2, d3, ri, bo, lk, lo⟩ x t) (t := ⟨A0, some ⟨g9, 0, none⟩, A2, A3, d0, cp, d2, d3, ri, bo.set x (t : Int), lk, lo⟩) rfl rfl rfl rfl]
        exact Lib.hid rfl
      have hat : nth (FLto ws ⟨A0, some ⟨g9, 0, none⟩, A2, A3, d0, cp, d2, d3, ri, bo.set x (t : Int), lk, lo⟩ (outs ws).length) x = fl := by rw [FLto_at hxl, hfl]
      have hlen := FLto_length ws ⟨A0, some ⟨g9, 0, none⟩, A2, A3, d0, cp, d2, d3, ri, bo.set x (t : Int), lk, lo⟩ (outs ws).length
      simp only [Wt.v, List.length_set] at hF
      generalize FLto ws ⟨A0, some ⟨g9, 0, none⟩, A2, A3, d0, cp, d2, d3, ri, bo.set x (t : Int), lk, lo⟩ (outs ws).length = FL at *
      generalize TLto ws ⟨A0, some ⟨g9, 0, none⟩, A2, A3, d0, cp, d2, d3, ri, bo.set x (t : Int), lk, lo⟩ ws.length = TL at *
      generalize LOto ws ⟨A0, some ⟨g9, 0, none⟩, A2, A3, d0, cp, d2, d3, ri, bo.set x (t : Int), lk, lo⟩ (outs ws).length = LN at *
      have HFL := Lib.hid (And.intro hF (And.intro hat hlen))
      clear hF hat hlen hfl hok hw hw2 hxb2
      have p0 := cell_row (i := 0) K5.out.1.1.1.2
      have q0 := cell_row (i := 0) HZ.out.1
      have q1 := cell_row (i := 1) HZ.out.1
      have q2 := cell_row (i := 2) HZ.out.1
      have q3 := cell_row (i := 3) HZ.out.1
      have qf0 := fieldFl0
      have ht8 : t ≤ 100 := by omega
      by_cases hq : want ≤ fl
      · have HR : Hid (OpenR ws ⟨A0, some ⟨bb, ob, none⟩, A2, A3, d0, d1, d2, d3, ri, bo, lk, lo⟩ id want (.returned (.tuple #[.int .i64 (t : Int), .int .i64 0]))) := Lib.hid (.inr ⟨HI.out.2.2.2.2, x, HI.out.2.2.1, .inr ⟨(t : Int), by omega, by omega, by rw [HOP.out]; exact decide_eq_true hq, HA.out.1, rfl⟩⟩)
        go_wp2_with (go_at_call 82; refine HFL.out.1.mono ?_; rintro e w10 ⟨A8, c8, A9, c9, rfl, r8, -, -, -, hb⟩; obtain ⟨b8, o8, rfl, -, hc8⟩ := r8 (by rw [HFL.out.2.2]; omega); have z1 := hc8 x (by rw [HFL.out.2.2]; omega); rw [HFL.out.2.1] at z1; have K6 := Lib.hid (K5.out.on hb); clear hb hc8 r8)
        go_ret2
        exact ⟨HR.out, K6.out.1.1.1.1⟩
      · have HR : Hid (∀ j : Int, 0 ≤ j → j < ((t + 1 : Nat) : Int) → openP ws ⟨A0, some ⟨bb, ob, none⟩, A2, A3, d0, d1, d2, d3, ri, bo, lk, lo⟩ x want j = false) := Lib.hid (fun j h1 h2 => by
          by_cases hj : j < (t : Int)
          · exact HA.out.1 j h1 hj
          · obtain rfl : j = (t : Int) := by omega
            rw [HOP.out]; exact decide_eq_false hq)
        go_wp2_with (go_at_call 82; refine HFL.out.1.mono ?_; rintro e w10 ⟨A8, c8, A9, c9, rfl, r8, -, -, -, hb⟩; obtain ⟨b8, o8, rfl, -, hc8⟩ := r8 (by rw [HFL.out.2.2]; omega); have z1 := hc8 x (by rw [HFL.out.2.2]; omega); rw [HFL.out.2.1] at z1; have HB6 := Lib.hid (HZ.out.2.2.trans (hb.mono HZ.out.2.2.size)); clear hb hc8 r8)
        go_roundg ((oAt (outs ws) x).ps.length - (t + 1))
        case measure => omega
        case rel => exact ⟨t + 1, by omega, by omega, by go_num, HR.out, HB6.out⟩
    · have htz : ¬ (t : Int) < ((oAt (outs ws) x).ps.length : Int) := by omega
      have HR : Hid (OpenR ws ⟨A0, some ⟨bb, ob, none⟩, A2, A3, d0, d1, d2, d3, ri, bo, lk, lo⟩ id want (.returned (.tuple #[.int .i64 0, .int .i64 5]))) := Lib.hid (.inr ⟨HI.out.2.2.2.2, x, HI.out.2.2.1, .inl ⟨HA.out.1 _ (by omega) (by omega), rfl⟩⟩)
      go_wp2
      go_ret2
      exact ⟨HR.out, K3.out.1.1.1.1⟩
set_option maxRecDepth 100000 in
set_option maxHeartbeats 3200000 in
theorem rOpen_any (A : Option Addr) (c : Nat) (ws : List Car) (s : Wt) (id want : Int) (w : World) (h : Wk w A ws) (hs : Wet w s) :
    Calls Try.prog 34 #[.agg #[.slice A ws.length c], s.v, .int .i64 id, .int .i64 want] w fun e w' => OpenR ws s id want e ∧ Below w.heap.size w w' := by
  obtain ⟨i0, hi0, hz0, hz1, hz2⟩ := info_parts info3
  obtain ⟨A0, B1, A2, A3, d0, d1, d2, d3, ri, bo, lk, lo⟩ := s
  show Calls _ _ #[.agg #[.slice A ws.length c], .agg #[.slice A0 ri.length d0, .slice B1 bo.length d1, .slice A2 lk.length d2, .slice A3 lo.length d3], .int .i64 id, .int .i64 want] _ _
  by_cases h0 : wishE ws ⟨A0, B1, A2, A3, d0, d1, d2, d3, ri, bo, lk, lo⟩ id want = 0
  rotate_left
  · have hi : wishI ws ⟨A0, B1, A2, A3, d0, d1, d2, d3, ri, bo, lk, lo⟩ id want = 0 := if_neg h0
    have hR : OpenR ws ⟨A0, B1, A2, A3, d0, d1, d2, d3, ri, bo, lk, lo⟩ id want (.returned (.tuple #[.int .i64 0, .int .i64 (wishE ws ⟨A0, B1, A2, A3, d0, d1, d2, d3, ri, bo, lk, lo⟩ id want)])) := .inl ⟨h0, rfl⟩
    have hb : Below w.heap.size w ((w.alloc (.cells #[.slice A ws.length c] 24)).alloc (.cells #[.slice A0 ri.length d0, .slice B1 bo.length d1, .slice A2 lk.length d2, .slice A3 lo.length d3] 27)) := ((Below.refl _ w).alloc (Nat.le_refl _) _).alloc (by simp) _
    have K := Lib.hid ((((stays_bl hb).and (stays_blk (blk_alloc (blk_new w #[.slice A ws.length c] 24 rfl) _))).and (stays_blk (g := w.heap.size + 1) (blk_new (w.alloc (.cells #[.slice A ws.length c] 24)) #[.slice A0 ri.length d0, .slice B1 bo.length d1, .slice A2 lk.length d2, .slice A3 lo.length d3] 27 (by simp)))).and ((stays_wk (h.ext hb)).and (stays_wet (hs.ext hb))))
    clear hb h hs
    have HC := Lib.hid (fun W hW hs => rWished_any A c ws ⟨A0, B1, A2, A3, d0, d1, d2, d3, ri, bo, lk, lo⟩ id want W hW hs)
    have HR := Lib.hid hR
    clear hR
    rw [hi] at HC
    generalize wishE ws ⟨A0, B1, A2, A3, d0, d1, d2, d3, ri, bo, lk, lo⟩ id want = E at *
    have hz : (E != 0) = true := by simpa using h0
    clear h0 hi
    go_enter Try.func34, Try.ntmps34
    go_upto_region 1 with fail
    generalize ((w.alloc (.cells #[.slice A ws.length c] 24)).alloc (.cells #[.slice A0 ri.length d0, .slice B1 bo.length d1, .slice A2 lk.length d2, .slice A3 lo.length d3] 27)) = W0 at *
    have p0 := cell_row (i := 0) K.out.1.1.1.2
    have p1 := cell_row (i := 0) K.out.1.1.2
    have p2 := cell_row (i := 1) K.out.1.1.2
    have p3 := cell_row (i := 2) K.out.1.1.2
    have p4 := cell_row (i := 3) K.out.1.1.2
    go_wp2_with (go_at_call 96; refine (HC.out _ K.out.1.2.1 K.out.1.2.2).mono ?_; rintro e w1 ⟨rfl, hb⟩; have K1 := Lib.hid (K.out.on hb); clear hb)
    go_ret2
    exact ⟨HR.out, K1.out.1.1.1.1⟩
  · obtain ⟨g, ok, -, x, -, hxl, -⟩ := wish_zero h0
    have hl : bo.length = (outs ws).length := ok.l1
    obtain ⟨bb, ob, rfl, -, -⟩ := (show Rd w w.heap.size B1 bo from hs.r1) (by omega)
    exact rOpen_ok A c ws A0 A2 A3 bb ob d0 d1 d2 d3 ri bo lk lo id want w h hs h0
end Go.Proofs.Ytdadoelajhemjaa
