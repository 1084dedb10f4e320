/- Walks: Without. -/
import Derived.Test.YtdadoelajhemjaaZ2
import Derived.Test.YtdadoelajhemjaaM12
import Derived.Test.YtdadoelajhemjaaM5
namespace Go.Proofs.Ytdadoelajhemjaa
open Go.RowKit Go.Shelf

theorem blk_set1 {W : World} {g : Nat} {ty : TypeId} {z0 : Value} (h : Blk W g #[z0] ty) (v0 : Value) : Blk (W.setCell ⟨g, 0, none⟩ v0) g #[v0] ty := heap_setCell_same _ _ 0 _ _ _ h
/-- What Without returns. -/
def WithR (w : World) (ws : List Car) (n : Int) (e : Ending) (w' : World) : Prop := ∃ A' c' ws', e = .returned (.tuple #[.agg #[.slice A' ws'.length c'], .int .i64 (withE ws n)]) ∧ RdW w' w'.heap.size A' ws' ∧ contW ws' = withC ws n ∧ Below w.heap.size w w'
set_option maxRecDepth 100000 in
set_option maxHeartbeats 1600000 in
theorem Without_bad (A : Option Addr) (c : Nat) (ws : List Car) (n : Int) (w : World) (h : Wk w A ws) (he : withE ws n ≠ 0) :
  Calls Try.prog 51 #[.agg #[.slice A ws.length c], .int .i64 n] w fun e w' => WithR w ws n e w' := by
 have hb : Below w.heap.size w ((w.alloc (.cells #[.slice A ws.length c] 24)).alloc (.cells #[.slice none 0 0] 24)) := ((Below.refl _ w).alloc (Nat.le_refl _) _).alloc (by simp) _
 have K := Lib.hid ((((stays_bl hb).and (stays_blk (blk_alloc (blk_new w #[.slice A ws.length c] 24 rfl) _))).and (stays_blk (g := w.heap.size + 1) (blk_new (w.alloc (.cells #[.slice A ws.length c] 24)) #[.slice none 0 0] 24 (by simp)))).and (stays_wk (h.ext hb)))
 have hC : withC ws n = [] := if_neg he
 have HC := hd2 (fun W hW => Check_any A c ws W hW) hC
 have hn1 := h.n1
 clear hb h
 by_cases h0 : checkE ws = 0
 ·have hE : withE ws n = 5 := by
   unfold withE at he ⊢
   rw [if_pos h0] at he ⊢
   by_cases h1 : 0 ≤ n ∧ n ≤ (ws.length : Int) - 1
   ·rw [if_pos h1] at he; exact absurd rfl he
   ·rw [if_neg h1]
  have hr : withinB n 0 ((ws.length : Int) - 1) = false := by
   unfold withE at hE
   rw [if_pos h0] at hE
   unfold withinB
   rw [decide_eq_false_iff_not]
   intro h1
   rw [if_pos h1] at hE
   cases hE
  unfold WithR
  rw [hE]
  have hw := within_any n 0 ((ws.length : Int) - 1)
  rw [hr] at hw
  rw [h0] at HC
  have HW := Lib.hid hw
  have hw1 : IntKind.i64.wrap ((ws.length : Int) - 1) = (ws.length : Int) - 1 := by rw [IntKind.wrap_i64]; omega
  clear h0 hE hr hw he hC
  go_enter Try.func51, Try.ntmps51
  go_upto_region 1 with fail
  generalize ((w.alloc (.cells #[.slice A ws.length c] 24)).alloc (.cells #[.slice none 0 0] 24)) = W2 at *
  have p0 := cr 0 K.out.1.1.1.2
  go_upto_region 4 with (go_at_call 74; refine (HC.out.1 _ K.out.1.2).mono ?_; rintro e w1 ⟨rfl, hb⟩; have K1 := Lib.hid (K.out.on hb); clear hb)
  clear p0 K
  have p0 := cr 0 K1.out.1.1.1.2
  have p1 := cr 0 K1.out.1.1.2
  have f1 := bf 0 K1.out.1.1.2
  go_wp2_with (go_at_call 105; refine (HW.out _).mono ?_; rintro e w2 ⟨rfl, rfl⟩)
  have v1 := cr 0 (blk_set1 K1.out.1.1.2 (.slice none 0 0))
  exact bodyPost_ret (v := .tuple #[.agg #[.slice none 0 0], .int .i64 5]) (by simp [results, Try.results51, go_sem, v1]) rfl ⟨none, 0, [], rfl, fun h => absurd h (by simp), by rw [HC.out.2]; rfl, K1.out.1.1.1.1.setCell (p := ⟨w.heap.size + 1, 0, none⟩) (by show w.heap.size ≤ w.heap.size + 1; omega) _⟩
 ·have hE : withE ws n = checkE ws := if_neg h0
  unfold WithR
  rw [hE]
  generalize checkE ws = E at *
  have hz : (E != 0) = true := by simpa using h0
  clear h0 hE he hC
  go_enter Try.func51, Try.ntmps51
  go_upto_region 1 with fail
  generalize ((w.alloc (.cells #[.slice A ws.length c] 24)).alloc (.cells #[.slice none 0 0] 24)) = W2 at *
  have p0 := cr 0 K.out.1.1.1.2
  go_upto_region 2 with (go_at_call 74; refine (HC.out.1 _ K.out.1.2).mono ?_; rintro e w1 ⟨rfl, hb⟩; have K1 := Lib.hid (K.out.on hb); clear hb)
  clear p0 K
  have p0 := cr 0 K1.out.1.1.1.2
  have p1 := cr 0 K1.out.1.1.2
  have f1 := bf 0 K1.out.1.1.2
  go_wp2
  have v1 := cr 0 (blk_set1 K1.out.1.1.2 (.slice none 0 0))
  exact bodyPost_ret (v := .tuple #[.agg #[.slice none 0 0], .int .i64 E]) (by simp [results, Try.results51, go_sem, v1]) rfl ⟨none, 0, [], rfl, fun h => absurd h (by simp), by rw [HC.out.2]; rfl, K1.out.1.1.1.1.setCell (p := ⟨w.heap.size + 1, 0, none⟩) (by show w.heap.size ≤ w.heap.size + 1; omega) _⟩
theorem info38 : (Try.prog.info? 38).map (fun i => (i.zero, i.size, i.bytes)) = some (some (.agg #[.slice none 0 0]), 1, 24) := by kernel_rfl
/-- The box of an outlet that is being turned, and its passes. -/
structure TuI (W5 wr X : World) (gB : Nat) (cs : Array Value) (PA : Option Addr) (ps : List Int) : Prop where
 b : Below W5.heap.size W5 X
 o : ∀ k, k < wr.heap.size → X.heap[k]? = wr.heap[k]?
 s : wr.heap.size ≤ X.heap.size
 r : Rd X X.heap.size PA ps
 f : Fresh wr.heap.size PA
 f2 : Fresh (gB + 1) PA
 k : Blk X gB cs 42
 g : wr.heap.size ≤ gB ∧ W5.heap.size ≤ gB
theorem TuI.set {W5 wr X : World} {gB : Nat} {cs : Array Value} {PA : Option Addr} {ps : List Int} (h : TuI W5 wr X gB cs PA ps) (j : Nat) (v : Value) : TuI W5 wr (X.setCell ⟨gB, j, none⟩ v) gB (cs.setIfInBounds j v) PA ps := by
 have g := h.g
 refine ⟨h.b.setCell (p := ⟨gB, j, none⟩) g.2 _, fun k hk => (Below.heap_setCell _ _ _ _ (by show k ≠ gB; omega)).trans (h.o k hk), by rw [World.size_setCell]; exact h.s, ?_, h.f, h.f2, heap_setCell_same _ _ j _ _ _ h.k, g⟩
 rw [World.size_setCell]
 exact h.r.setCell (fun ad e => by have := h.f2 _ e; show ad.block ≠ gB; omega) _
/-- The map of new numbers, while it is made. -/
structure AnI (X Y : World) (ws : List Car) (n : Int) (t : Nat) : Prop where
 bl : Below X.heap.size X Y
 m : MapN Y X.heap.size t (anewF ws n t)
theorem AnI.on {X Y Z : World} {ws : List Car} {n : Int} {t : Nat} (h : AnI X Y ws n t) (hb : Below Y.heap.size Y Z) : AnI X Z ws n t := ⟨h.bl.trans (hb.mono h.bl.size), h.m.below hb h.m.lt⟩
theorem AnI.no {X Y : World} {ws : List Car} {n : Int} {t : Nat} (h : AnI X Y ws n t) (hs : stB ws n t = false) : AnI X Y ws n (t + 1) := ⟨h.bl, by rw [← anewF_no hs]; exact h.m.mono (by omega)⟩
theorem AnI.yes {X Y Z : World} {ws : List Car} {n : Int} {t : Nat} (h : AnI X Y ws n t) (hs : stB ws n t = true) (hm : MapN Z X.heap.size (t + 1) (upd (anewF ws n t) (t : Int) (cntB ws n t : Int))) (hg : Y.grownBy Z (some X.heap.size)) : AnI X Z ws n (t + 1) :=
 ⟨h.bl.grown hg h.bl.size (fun k e => by cases e; exact Nat.le_refl _), by rw [← anewF_yes hs]; exact hm⟩
set_option maxRecDepth 100000 in
set_option maxHeartbeats 3200000 in
theorem Without_ok (A : Option Addr) (c : Nat) (ws : List Car) (n : Int) (w : World) (h : Wk w A ws) (he : withE ws n = 0) :
  Calls Try.prog 51 #[.agg #[.slice A ws.length c], .int .i64 n] w fun e w' => WithR w ws n e w' := by
 have hb : Below w.heap.size w ((w.alloc (.cells #[.slice A ws.length c] 24)).alloc (.cells #[.slice none 0 0] 24)) := ((Below.refl _ w).alloc (Nat.le_refl _) _).alloc (by simp) _
 have K := Lib.hid ((((stays_bl hb).and (stays_blk (blk_alloc (blk_new w #[.slice A ws.length c] 24 rfl) _))).and (stays_blk (g := w.heap.size + 1) (blk_new (w.alloc (.cells #[.slice A ws.length c] 24)) #[.slice none 0 0] 24 (by simp)))).and (stays_wk (h.ext hb)))
 have HS0 := Lib.hid (show ((w.alloc (.cells #[.slice A ws.length c] 24)).alloc (.cells #[.slice none 0 0] 24)).heap.size = w.heap.size + 2 by simp)
 have hC : withC ws n = wioTo ws n ws.length := if_pos he
 have hch : checkE ws = 0 := by
  unfold withE at he
  by_cases h0 : checkE ws = 0
  ·exact h0
  ·rw [if_neg h0] at he; exact absurd he h0
 have g := good_of_check hch
 have hr0 : 0 ≤ n ∧ n ≤ (ws.length : Int) - 1 := by
  unfold withE at he
  rw [if_pos hch] at he
  by_cases h1 : 0 ≤ n ∧ n ≤ (ws.length : Int) - 1
  ·exact h1
  ·rw [if_neg h1] at he; cases he
 have hr : withinB n 0 ((ws.length : Int) - 1) = true := decide_eq_true hr0
 have hw := within_any n 0 ((ws.length : Int) - 1)
 rw [hr] at hw
 have hm : ws.length ≤ maxLen := by have := h.n1; unfold maxLen; omega
 have hN : (outs ws).length ≤ 1000000000 := by have := h.n2; omega
 have hfe := fun W (hW : Wk W A ws) => feeders_any A c ws W hW.rd hm hN (fun i hi => (g.wf hi).2)
 have hck := fun W hW => Check_any A c ws W hW
 rw [hch] at hck
 have HC := hd5 hck hC hfe hw g
 have hn16 := g.n1
 have hw1 : IntKind.i64.wrap ((ws.length : Int) - 1) = (ws.length : Int) - 1 := by rw [IntKind.wrap_i64]; omega
 unfold WithR
 rw [he]
 clear hb h hC hch g hr hw hm hN hfe hck he
 have hmm := @run_makeMap Try.prog
 obtain ⟨i0, hi0, hz0, hz1, hz2⟩ := info_parts info42
 obtain ⟨j0, hj0, hy0, hy1, hy2⟩ := info_parts info38
 go_enter Try.func51, Try.ntmps51
 go_upto_region 1 with fail
 generalize ((w.alloc (.cells #[.slice A ws.length c] 24)).alloc (.cells #[.slice none 0 0] 24)) = W2 at *
 have p0 := cr 0 K.out.1.1.1.2
 go_upto_region 4 with (go_at_call 74; refine (HC.out.1 _ K.out.1.2).mono ?_; rintro e w1 ⟨rfl, hb⟩; have K1 := Lib.hid (K.out.on hb); clear hb)
 clear p0 K
 have p0 := cr 0 K1.out.1.1.1.2
 go_upto_region 6 with (go_at_call 105; refine (HC.out.2.2.2.1 _).mono ?_; rintro e w2 ⟨rfl, rfl⟩)
 go_upto_region 7 with (go_at_call 111; refine (HC.out.2.2.1 _ K1.out.1.2).mono ?_; rintro e X0 ⟨gm, rfl, hM, hg1, hb⟩; have K2 := hd3 (K1.out.on hb) hM hM.lt; clear hb hM hg1)
 clear p0 K1 hw1
 have p0 := cr 0 K2.out.1.1.1.1.2
 go_upto_region 8 with fail
 have HA0 : Hid (AnI X0 (X0.alloc (.map #[] 0)) ws n 0) := Lib.hid ⟨(Below.refl _ X0).alloc (Nat.le_refl _) _, by rw [anewF_zero]; exact MapI.made X0 _ _⟩
 generalize X0.alloc (.map #[] 0) = X1 at *
 have p0 := cr 0 (K2.out.1.on HA0.out.bl).1.1.1.2
 go_wp2
 go_loopg [9, 10, 11, 12, 13, 14, 45] ws.length (fun gg vn _ _ _ _ _ i wr => ∃ t : Nat, t ≤ ws.length ∧ ws.length - t ≤ gg ∧ i = .int .i64 t ∧ vn = .int .i64 (cntB ws n t : Int) ∧ Aside (AnI X0 wr ws n t))
 case atStart => exact ⟨0, Nat.zero_le _, by omega, rfl, rfl, HA0.out⟩
 case round =>
  obtain ⟨t, ht, hg, rfl, rfl, hS⟩ := hrel
  have HS := Lib.hid hS.out
  clear hS
  by_cases hlt : t < ws.length
  ·have hltz : (t : Int) < (ws.length : Int) := by omega
   have hct := cntB_le ws n t
   have lk := MapP.look (K2.out.2.1.below HS.out.bl K2.out.2.2) (nat_wf (n := t) (by omega))
   rw [feed_at HC.out.2.2.2.2 t] at lk
   cases hu : upO ws (t : Int) with
   | some y =>
    rw [hu] at lk
    simp only [Option.map_some, Option.getD_some, Option.isSome_some, pl, plV_eq] at lk
    have hya := (up_lower HC.out.2.2.2.2 hu).2
    have HT := Lib.hid (stB_some HC.out.2.2.2.2 (c := n) hu)
    clear hu
    go_upto_region 13 with fail
    have HB := Lib.hid (HS.out.on ((Below.refl _ wr).alloc (Nat.le_refl _) (.cells #[.int .i64 (y : Int), .int .i64 (caAt ws y : Int), .int .i64 (atAt ws y : Int)] 131)))
    have q1 := cr 1 (blk_new wr #[.int .i64 (y : Int), .int .i64 (caAt ws y : Int), .int .i64 (atAt ws y : Int)] 131 rfl)
    clear HS lk
    generalize wr.alloc (.cells #[.int .i64 (y : Int), .int .i64 (caAt ws y : Int), .int .i64 (atAt ws y : Int)] 131) = w5 at *
    have lk := MapN.look HB.out.m (nat_wf (n := caAt ws y) (by omega))
    rw [anewF_at hya] at lk
    by_cases hn : (t : Int) = n
    ·have hst : stB ws n t = false := by rw [HT.out, decide_eq_false (fun h => h hn)]; rfl
     generalize (if stB ws n (caAt ws y) = true then some (cntB ws n (caAt ws y) : Int) else none) = OO at lk
     have HN := hd2 (HB.out.no hst) (cntB_no hst)
     clear HB
     go_wp2
     go_roundg (ws.length - (t + 1))
     case measure => omega
     case rel => exact ⟨t + 1, by omega, by omega, by go_num, by rw [HN.out.2], HN.out.1⟩
    ·cases hs : stB ws n (caAt ws y) with
     | true =>
      have hst : stB ws n t = true := by rw [HT.out, decide_eq_true hn, hs]; rfl
      rw [hs] at lk
      simp only [if_true, Option.getD_some, Option.isSome_some] at lk
      clear hs
      have hwf := nat_wf (n := t) (by omega)
      have hwf2 := nat_wf (n := cntB ws n t) (by omega)
      have HST := Lib.hid hst
      go_wp2_with (at_mapUpdate; refine wpList_put rfl _ _ _ 157 rfl 3 (by kernel_rfl) rfl HB.out.m (by unfold maxLen; omega) (.int .i64 (cntB ws n t : Int)) (t : Int) (cntB ws n t : Int) rfl hwf rfl [] (plainElem_int Try.underlying3 hwf2) ?_; intro w6 hM1 hg1; have HN := hd2 (HB.out.yes HST.out hM1 hg1) (cntB_yes HST.out); clear hM1 hg1)
      go_roundg (ws.length - (t + 1))
      case measure => omega
      case rel => exact ⟨t + 1, by omega, by omega, by go_num, by rw [HN.out.2]; go_num, HN.out.1⟩
     | false =>
      have hst : stB ws n t = false := by rw [HT.out, hs, Bool.and_false]
      rw [hs] at lk
      simp only [Bool.false_eq_true, if_false, Option.getD_none, Option.isSome_none] at lk
      clear hs
      have HN := hd2 (HB.out.no hst) (cntB_no hst)
      clear HB
      go_wp2
      go_roundg (ws.length - (t + 1))
      case measure => omega
      case rel => exact ⟨t + 1, by omega, by omega, by go_num, by rw [HN.out.2], HN.out.1⟩
   | none =>
    rw [hu] at lk
    simp only [Option.map_none, Option.getD_none, Option.isSome_none, plV_eq] at lk
    have HT := Lib.hid (stB_none (c := n) hu)
    clear hu
    go_upto_region 13 with fail
    have HB := Lib.hid (HS.out.on ((Below.refl _ wr).alloc (Nat.le_refl _) (.cells #[.int .i64 0, .int .i64 0, .int .i64 0] 131)))
    have q1 := cr 1 (blk_new wr #[.int .i64 0, .int .i64 0, .int .i64 0] 131 rfl)
    clear HS lk
    generalize wr.alloc (.cells #[.int .i64 0, .int .i64 0, .int .i64 0] 131) = w5 at *
    have lk := MapN.look HB.out.m (x := 0) (by decide)
    by_cases hn : (t : Int) = n
    ·have hst : stB ws n t = false := by rw [HT.out, decide_eq_false (fun h => h hn)]
     have HN := hd2 (HB.out.no hst) (cntB_no hst)
     clear HB
     go_wp2
     go_roundg (ws.length - (t + 1))
     case measure => omega
     case rel => exact ⟨t + 1, by omega, by omega, by go_num, by rw [HN.out.2], HN.out.1⟩
    ·have hst : stB ws n t = true := by rw [HT.out, decide_eq_true hn]
     have hwf := nat_wf (n := t) (by omega)
     have hwf2 := nat_wf (n := cntB ws n t) (by omega)
     have HST := Lib.hid hst
     go_wp2_with (at_mapUpdate; refine wpList_put rfl _ _ _ 157 rfl 3 (by kernel_rfl) rfl HB.out.m (by unfold maxLen; omega) (.int .i64 (cntB ws n t : Int)) (t : Int) (cntB ws n t : Int) rfl hwf rfl [] (plainElem_int Try.underlying3 hwf2) ?_; intro w6 hM1 hg1; have HN := hd2 (HB.out.yes HST.out hM1 hg1) (cntB_yes HST.out); clear hM1 hg1)
     go_roundg (ws.length - (t + 1))
     case measure => omega
     case rel => exact ⟨t + 1, by omega, by omega, by go_num, by rw [HN.out.2]; go_num, HN.out.1⟩
  ·have hltz : ¬ (t : Int) < (ws.length : Int) := by omega
   obtain rfl : t = ws.length := by omega
   have HM := Lib.hid HS.out.m
   have HML := Lib.hid HS.out.m.lt
   have K3 := Lib.hid (K2.out.1.on HS.out.bl)
   clear p0 hmm
   have p0 := cr 0 K3.out.1.1.1.2
   go_upto_region 19 with fail
   have HW0 : Hid (WoI wr (wr.alloc (.cells #[.slice none 0 0] 24)) (wr.alloc (.cells #[.slice none 0 0] 24)) wr.heap.size none 0 []) := Lib.hid ⟨(Below.refl _ wr).alloc (Nat.le_refl _) _, blk_new wr #[.slice none 0 0] 24 rfl, CsI.nil _ _, Nat.le_refl _, by simp⟩
   generalize wr.alloc (.cells #[.slice none 0 0] 24) = W1 at *
   generalize wr = W0 at *
   have p0 := cr 0 (K3.out.on HW0.out.bl).1.1.1.2
   have HWK := Lib.hid K3.out.1.2.rd
   clear HS HA0 K2
   go_wp2
   clear p0
   go_loopg [80] ws.length (fun gg i wr => ∃ (t : Nat) (A2 : Option Addr) (c2 : Nat) (cs : List Car), t ≤ ws.length ∧ ws.length - t ≤ gg ∧ i = .int .i64 t ∧ Aside (WoI W0 W1 wr W0.heap.size A2 c2 cs ∧ contW cs = wioTo ws n t))
   case atStart => exact ⟨0, none, 0, [], Nat.zero_le _, by omega, rfl, HW0.out, rfl⟩
   case round =>
    obtain ⟨t, A2, c2, cs, ht, hg, rfl, hA⟩ := hrel
    have HA := Lib.hid hA.out
    clear hA
    by_cases hlt : t < ws.length
    ·have hltz : (t : Int) < (ws.length : Int) := by omega
     obtain ⟨b, off, rfl, hbl, hcs⟩ := HWK.out (by omega)
     have p1 := (HA.out.1.bl.cell (p := ⟨b, off + t, none⟩) hbl).trans (hcs t hlt).1
     have HO := Lib.hid (hcs t hlt).2
     have HGF : Hid (((cAt ws t).os.length ≤ 60) ∧ ∀ d, d < (cAt ws t).os.length → (oAt (cAt ws t).os d).ps.length ≤ 8 ∧ (Lit.int .i64 (oAt (cAt ws t).os d).into).wf = true) := Lib.hid ⟨by
      have h1 := start_succ hlt
      have h2 := start_mono (ws := ws) (c := t + 1) (d := ws.length) hlt (Nat.le_refl _)
      rw [start_all] at h2
      have := HC.out.2.2.2.2.n2
      omega, fun d hd => by
      have e := oAt_outs hlt hd
      have hl := start_lt hlt hd
      rw [← e]
      exact ⟨(HC.out.2.2.2.2.fine hl).n.2, (HC.out.2.2.2.2.wf hl).2⟩⟩
     have HWY : Hid (stB ws n t = true → wioTo ws n (t + 1) = wioTo ws n t ++ [(cAt ws t).os.map (turnO ws n)]) := Lib.hid wioTo_yes
     clear hcs hbl
     generalize (cAt ws t).A = A4 at *
     generalize (cAt ws t).c = c4 at *
     generalize (cAt ws t).os = os0 at *
     go_upto_region 22 with fail
     have hb5 := (Below.refl _ wr).alloc (Nat.le_refl _) (.cells #[.slice A4 os0.length c4] 38)
     have HA5 := Lib.hid (HA.out.1.on hb5)
     have k5 := blk_new wr #[.slice A4 os0.length c4] 38 rfl
     have HAC := Lib.hid HA.out.2
     have HR5 : Hid (∀ k, (Value.slice A2 cs.length c2).ownBlock = some k → k < (wr.alloc (.cells #[.slice A4 os0.length c4] 38)).heap.size) := Lib.hid (fun k e => (row_lt HA5.out.ci.own e).2)
     clear p1 hb5 HA
     generalize wr.alloc (.cells #[.slice A4 os0.length c4] 38) = W5 at *
     generalize wr.heap.size = g17 at *
     have lk := MapN.look (HM.out.below HA5.out.bl HML.out) (nat_wf (n := t) (by omega))
     rw [anewF_at hlt] at lk
     cases hs : stB ws n t with
     | false =>
      rw [hs] at lk
      simp only [Bool.false_eq_true, if_false, Option.getD_none, Option.isSome_none] at lk
      have HN := Lib.hid (wioTo_no hs)
      clear hs
      go_wp2
      go_roundg (ws.length - (t + 1))
      case measure => omega
      case rel => exact ⟨t + 1, A2, c2, cs, by omega, by omega, by go_num, HA5.out, by rw [HN.out]; exact HAC.out⟩
     | true =>
      rw [hs] at lk
      simp only [if_true, Option.getD_some, Option.isSome_some] at lk
      have HN := Lib.hid (HWY.out hs)
      clear hs HWY
      have q17 := cr 0 k5
      have hl60 := HGF.out.1
      go_wp2
      clear lk q17
      have hlo := HA5.out.lt
      go_loopg [20, 96] os0.length (fun gg l i wr => ∃ (d : Nat) (A3 : Option Addr) (c3 : Nat) (os' : List Ot), d ≤ os0.length ∧ os0.length - d ≤ gg ∧ i = .int .i64 d ∧ l = .slice A3 d c3 ∧ Aside (InI W5 wr ws n os0 (.slice A3 d c3) d os'))
      case atStart => exact ⟨0, none, 0, [], Nat.zero_le _, by omega, rfl, rfl, Below.refl _ _, OsI.nil _ _, rfl, rfl⟩
      case round =>
       obtain ⟨d, A3, c3, os', hd0, hdg, rfl, rfl, hI⟩ := hrel
       have HI := Lib.hid hI.out
       clear hI
       by_cases hdl : d < os0.length
       ·have hdz : (d : Int) < (os0.length : Int) := by omega
        obtain ⟨b2, o2, rfl, hb2, hc2⟩ := HO.out (by omega)
        have hbw : Below W0.heap.size W0 wr := HA5.out.bl.trans (HI.out.bl.mono HA5.out.bl.size)
        have oa := (hc2 d hdl).below hbw (Nat.le_refl _) hb2
        have hps8 := (HGF.out.2 d hdl).1
        have hwf := (HGF.out.2 d hdl).2
        obtain ⟨o, ho⟩ : ∃ o, oAt os0 d = o := ⟨_, rfl⟩
        have HOE := Lib.hid ho
        have HDL := Lib.hid hdl
        rw [ho] at oa hps8 hwf
        have e0 := oa.c0
        have e1 := oa.c1
        have e2 := oa.c2
        have e3 := oa.c3
        have e4 := oa.c4
        have e5 := oa.c5
        have e6 := oa.c6
        have HRP := Lib.hid (oa.rd.mono hbw.size)
        clear hc2 oa ho hbw
        go_upto_region 28 with fail
        clear e0 e1 e2 e3 e4 e5 e6
        have hbB := (Below.refl _ wr).alloc (Nat.le_refl _) (.cells #[.int .i64 o.id, .int .i64 o.into, .slice o.P o.ps.length o.c, .int .i64 o.kl, .int .i64 o.kh, .int .i64 o.sl, .int .i64 o.sh] 42)
        have kB := blk_new wr #[.int .i64 o.id, .int .i64 o.into, .slice o.P o.ps.length o.c, .int .i64 o.kl, .int .i64 o.kh, .int .i64 o.sl, .int .i64 o.sh] 42 rfl
        have HB := hd3 hbB (HRP.out.ext hbB) (lt_of_cell' (cr 0 kB))
        clear hbB HRP
        obtain ⟨gB, hgB⟩ : ∃ gB, wr.heap.size = gB := ⟨_, rfl⟩
        rw [hgB] at kB HB
        rw [hgB]
        generalize wr.alloc (.cells #[.int .i64 o.id, .int .i64 o.into, .slice o.P o.ps.length o.c, .int .i64 o.kl, .int .i64 o.kh, .int .i64 o.sl, .int .i64 o.sh] 42) = wB at *
        have q2 := cr 2 kB
        go_upto_region 29 with (go_at_call 80; refine (clone_gen o.P o.c o.ps wB HB.out.2.1 (by omega)).mono ?_; rintro e wC ⟨PA, pc, rfl, hr, hf, hb⟩; have kC := blk_on kB hb; have q2 := cr 2 kC; have f2 := bf 2 kC; have HC2 := hd3 hr hf hb; clear hr hf hb)
        clear q2 f2
        have HD0 : Hid (TuI W5 wr wC gB #[.int .i64 o.id, .int .i64 o.into, .slice o.P o.ps.length o.c, .int .i64 o.kl, .int .i64 o.kh, .int .i64 o.sl, .int .i64 o.sh] PA o.ps) := by
         have hgl : W5.heap.size ≤ gB := by rw [← hgB]; exact HI.out.bl.size
         have hbC : Below gB wr wC := HB.out.1.trans (HC2.out.2.2.mono (Nat.le_of_lt HB.out.2.2))
         have hsz := HC2.out.2.2.size
         have hgl2 := HB.out.2.2
         refine Lib.hid ⟨HI.out.bl.trans (hbC.mono hgl), fun k hk => hbC.block k (by omega), by omega, HC2.out.1, HC2.out.2.1.mono (by omega), HC2.out.2.1.mono hgl2, kC, by omega, hgl⟩
        have HD := Lib.hid (HD0.out.set 2 (.slice PA o.ps.length pc))
        clear kB kC HB HC2 HD0 hgB
        generalize wC.setCell ⟨gB, 2, none⟩ (.slice PA o.ps.length pc) = wD at *
        have lk := MapN.look (HM.out.below (HA5.out.bl.trans (HD.out.b.mono HA5.out.bl.size)) HML.out) hwf
        have kD := HD.out.k
        have q1 := cr 1 kD
        have f1 := bf 1 kD
        cases hz : anewF ws n ws.length o.into with
        | some v =>
         rw [hz] at lk
         simp only [Option.getD_some, Option.isSome_some] at lk
         have HV : Hid (newInto ws n o.into = v) := Lib.hid (by unfold newInto; rw [hz]; rfl)
         clear hz
         go_upto_region 33 with fail
         have kE : Blk (wD.setCell ⟨gB, 1, none⟩ (.int .i64 (v))) gB #[.int .i64 o.id, .int .i64 (v), .slice PA o.ps.length pc, .int .i64 o.kl, .int .i64 o.kh, .int .i64 o.sl, .int .i64 o.sh] 42 := heap_setCell_same _ _ 1 _ _ _ HD.out.k
         have HE := Lib.hid (HD.out.set 1 (.int .i64 (v)))
         clear q1 f1 lk HD kD
         generalize wD.setCell ⟨gB, 1, none⟩ (.int .i64 (v)) = wE at *
         have v0 := cr 0 kE
         have v1 := cr 1 kE
         have v2 := cr 2 kE
         have v3 := cr 3 kE
         have v4 := cr 4 kE
         have v5 := cr 5 kE
         have v6 := cr 6 kE
         clear kE
         have hbN := (Below.refl _ wE).alloc (Nat.le_refl _) (.cells #[.int .i64 o.id, .int .i64 (v), .slice PA o.ps.length pc, .int .i64 o.kl, .int .i64 o.kh, .int .i64 o.sl, .int .i64 o.sh] 42)
         have HX : Hid ((wE.alloc (.cells #[.int .i64 o.id, .int .i64 (v), .slice PA o.ps.length pc, .int .i64 o.kl, .int .i64 o.kh, .int .i64 o.sl, .int .i64 o.sh] 42)).ownsRow W5.heap.size 42 7 (.slice A3 d c3) d (cellsO os') ∧ (∀ (j : Nat) (u : Value), (#[.int .i64 o.id, .int .i64 (v), .slice PA o.ps.length pc, .int .i64 o.kl, .int .i64 o.kh, .int .i64 o.sl, .int .i64 o.sh].toList)[j]? = some u → (wE.alloc (.cells #[.int .i64 o.id, .int .i64 (v), .slice PA o.ps.length pc, .int .i64 o.kl, .int .i64 o.kh, .int .i64 o.sl, .int .i64 o.sh] 42)).cell? ((⟨wE.heap.size, 0, none⟩ : Addr).add j) = some u) ∧ W5.heap.size ≤ (wE.alloc (.cells #[.int .i64 o.id, .int .i64 (v), .slice PA o.ps.length pc, .int .i64 o.kl, .int .i64 o.kh, .int .i64 o.sl, .int .i64 o.sh] 42)).heap.size ∧ Below W5.heap.size W5 (wE.alloc (.cells #[.int .i64 o.id, .int .i64 (v), .slice PA o.ps.length pc, .int .i64 o.kl, .int .i64 o.kh, .int .i64 o.sl, .int .i64 o.sh] 42)) ∧ (∀ k, k < wr.heap.size → (wE.alloc (.cells #[.int .i64 o.id, .int .i64 (v), .slice PA o.ps.length pc, .int .i64 o.kl, .int .i64 o.kh, .int .i64 o.sl, .int .i64 o.sh] 42)).heap[k]? = wr.heap[k]?) ∧ wr.heap.size ≤ (wE.alloc (.cells #[.int .i64 o.id, .int .i64 (v), .slice PA o.ps.length pc, .int .i64 o.kl, .int .i64 o.kh, .int .i64 o.sl, .int .i64 o.sh] 42)).heap.size ∧ Rd (wE.alloc (.cells #[.int .i64 o.id, .int .i64 (v), .slice PA o.ps.length pc, .int .i64 o.kl, .int .i64 o.kh, .int .i64 o.sl, .int .i64 o.sh] 42)) (wE.alloc (.cells #[.int .i64 o.id, .int .i64 (v), .slice PA o.ps.length pc, .int .i64 o.kl, .int .i64 o.kh, .int .i64 o.sl, .int .i64 o.sh] 42)).heap.size PA o.ps) := by
          have h1 := HI.out.oi.own
          unfold OwnO at h1
          rw [HI.out.len] at h1
          have hk : ∀ k, k < wr.heap.size → (wE.alloc (.cells #[.int .i64 o.id, .int .i64 (v), .slice PA o.ps.length pc, .int .i64 o.kl, .int .i64 o.kh, .int .i64 o.sl, .int .i64 o.sh] 42)).heap[k]? = wr.heap[k]? := fun k h => (hbN.block k (Nat.lt_of_lt_of_le h HE.out.s)).trans (HE.out.o k h)
          exact Lib.hid ⟨row_keep h1 (fun k e => hk k (row_lt h1 e).2), World.news_of_block (cs := #[.int .i64 o.id, .int .i64 (v), .slice PA o.ps.length pc, .int .i64 o.kl, .int .i64 o.kh, .int .i64 o.sl, .int .i64 o.sh]) (t := 42) (fr := (0, 0)) (World.alloc_heap_new wE (.cells #[.int .i64 o.id, .int .i64 (v), .slice PA o.ps.length pc, .int .i64 o.kl, .int .i64 o.kh, .int .i64 o.sl, .int .i64 o.sh] 42)), Nat.le_trans (Nat.le_trans HI.out.bl.size HE.out.s) hbN.size, HE.out.b.trans (hbN.mono (Nat.le_trans HI.out.bl.size HE.out.s)), hk, Nat.le_trans HE.out.s hbN.size, HE.out.r.ext hbN⟩
         clear hbN
         go_wp2_with (at_builtin; refine wpList_append_own_at _ rfl _ _ 36 rfl W5.heap.size 42 i0 (.agg #[.int .i64 0, .int .i64 0, .slice none 0 0, .int .i64 0, .int .i64 0, .int .i64 0, .int .i64 0]) 7 72 Try.underlying36 hi0 hz0 hz1 hz2 rfl (by decide) (.slice A3 d c3) d _ rfl HX.out.1 ⟨wE.heap.size, 0, none⟩ 1 1 #[.int .i64 o.id, .int .i64 (v), .slice PA o.ps.length pc, .int .i64 o.kl, .int .i64 o.kh, .int .i64 o.sl, .int .i64 o.sh].toList rfl (by simp) HX.out.2.1 (by simp [Value.oneCell']) (by unfold maxLen; omega) (by omega) HX.out.2.2.1 ?_; intro v' w9 hown1 hgrow _ hb1; obtain ⟨A9, c9, rfl⟩ := row_slice hown1; have HIN := Lib.hid (InI.push HI.out HDL.out HX.out.2.2.2.1 HX.out.2.2.2.2.1 HX.out.2.2.2.2.2.1 (pc := pc) (by rw [HOE.out]; exact HX.out.2.2.2.2.2.2) HE.out.f (o := ⟨o.id, v, PA, pc, o.ps, o.kl, o.kh, o.sl, o.sh⟩) (by rw [HOE.out, HV.out]) hown1 hgrow hb1); clear hown1 hgrow hb1)
         go_roundg (os0.length - (d + 1))
         case measure => omega
         case rel => exact ⟨d + 1, A9, c9, _, by omega, by omega, by go_num, rfl, HIN.out⟩
        | none =>
         rw [hz] at lk
         simp only [Option.getD_none, Option.isSome_none] at lk
         have HV : Hid (newInto ws n o.into = -1) := Lib.hid (by unfold newInto; rw [hz]; rfl)
         clear hz
         go_upto_region 33 with fail
         have kE : Blk (wD.setCell ⟨gB, 1, none⟩ (.int .i64 ((-1)))) gB #[.int .i64 o.id, .int .i64 ((-1)), .slice PA o.ps.length pc, .int .i64 o.kl, .int .i64 o.kh, .int .i64 o.sl, .int .i64 o.sh] 42 := heap_setCell_same _ _ 1 _ _ _ HD.out.k
         have HE := Lib.hid (HD.out.set 1 (.int .i64 ((-1))))
         clear q1 f1 lk HD kD
         generalize wD.setCell ⟨gB, 1, none⟩ (.int .i64 ((-1))) = wE at *
         have v0 := cr 0 kE
         have v1 := cr 1 kE
         have v2 := cr 2 kE
         have v3 := cr 3 kE
         have v4 := cr 4 kE
         have v5 := cr 5 kE
         have v6 := cr 6 kE
         clear kE
         have hbN := (Below.refl _ wE).alloc (Nat.le_refl _) (.cells #[.int .i64 o.id, .int .i64 ((-1)), .slice PA o.ps.length pc, .int .i64 o.kl, .int .i64 o.kh, .int .i64 o.sl, .int .i64 o.sh] 42)
         have HX : Hid ((wE.alloc (.cells #[.int .i64 o.id, .int .i64 ((-1)), .slice PA o.ps.length pc, .int .i64 o.kl, .int .i64 o.kh, .int .i64 o.sl, .int .i64 o.sh] 42)).ownsRow W5.heap.size 42 7 (.slice A3 d c3) d (cellsO os') ∧ (∀ (j : Nat) (u : Value), (#[.int .i64 o.id, .int .i64 ((-1)), .slice PA o.ps.length pc, .int .i64 o.kl, .int .i64 o.kh, .int .i64 o.sl, .int .i64 o.sh].toList)[j]? = some u → (wE.alloc (.cells #[.int .i64 o.id, .int .i64 ((-1)), .slice PA o.ps.length pc, .int .i64 o.kl, .int .i64 o.kh, .int .i64 o.sl, .int .i64 o.sh] 42)).cell? ((⟨wE.heap.size, 0, none⟩ : Addr).add j) = some u) ∧ W5.heap.size ≤ (wE.alloc (.cells #[.int .i64 o.id, .int .i64 ((-1)), .slice PA o.ps.length pc, .int .i64 o.kl, .int .i64 o.kh, .int .i64 o.sl, .int .i64 o.sh] 42)).heap.size ∧ Below W5.heap.size W5 (wE.alloc (.cells #[.int .i64 o.id, .int .i64 ((-1)), .slice PA o.ps.length pc, .int .i64 o.kl, .int .i64 o.kh, .int .i64 o.sl, .int .i64 o.sh] 42)) ∧ (∀ k, k < wr.heap.size → (wE.alloc (.cells #[.int .i64 o.id, .int .i64 ((-1)), .slice PA o.ps.length pc, .int .i64 o.kl, .int .i64 o.kh, .int .i64 o.sl, .int .i64 o.sh] 42)).heap[k]? = wr.heap[k]?) ∧ wr.heap.size ≤ (wE.alloc (.cells #[.int .i64 o.id, .int .i64 ((-1)), .slice PA o.ps.length pc, .int .i64 o.kl, .int .i64 o.kh, .int .i64 o.sl, .int .i64 o.sh] 42)).heap.size ∧ Rd (wE.alloc (.cells #[.int .i64 o.id, .int .i64 ((-1)), .slice PA o.ps.length pc, .int .i64 o.kl, .int .i64 o.kh, .int .i64 o.sl, .int .i64 o.sh] 42)) (wE.alloc (.cells #[.int .i64 o.id, .int .i64 ((-1)), .slice PA o.ps.length pc, .int .i64 o.kl, .int .i64 o.kh, .int .i64 o.sl, .int .i64 o.sh] 42)).heap.size PA o.ps) := by
          have h1 := HI.out.oi.own
          unfold OwnO at h1
          rw [HI.out.len] at h1
          have hk : ∀ k, k < wr.heap.size → (wE.alloc (.cells #[.int .i64 o.id, .int .i64 ((-1)), .slice PA o.ps.length pc, .int .i64 o.kl, .int .i64 o.kh, .int .i64 o.sl, .int .i64 o.sh] 42)).heap[k]? = wr.heap[k]? := fun k h => (hbN.block k (Nat.lt_of_lt_of_le h HE.out.s)).trans (HE.out.o k h)
          exact Lib.hid ⟨row_keep h1 (fun k e => hk k (row_lt h1 e).2), World.news_of_block (cs := #[.int .i64 o.id, .int .i64 ((-1)), .slice PA o.ps.length pc, .int .i64 o.kl, .int .i64 o.kh, .int .i64 o.sl, .int .i64 o.sh]) (t := 42) (fr := (0, 0)) (World.alloc_heap_new wE (.cells #[.int .i64 o.id, .int .i64 ((-1)), .slice PA o.ps.length pc, .int .i64 o.kl, .int .i64 o.kh, .int .i64 o.sl, .int .i64 o.sh] 42)), Nat.le_trans (Nat.le_trans HI.out.bl.size HE.out.s) hbN.size, HE.out.b.trans (hbN.mono (Nat.le_trans HI.out.bl.size HE.out.s)), hk, Nat.le_trans HE.out.s hbN.size, HE.out.r.ext hbN⟩
         clear hbN
         go_wp2_with (at_builtin; refine wpList_append_own_at _ rfl _ _ 36 rfl W5.heap.size 42 i0 (.agg #[.int .i64 0, .int .i64 0, .slice none 0 0, .int .i64 0, .int .i64 0, .int .i64 0, .int .i64 0]) 7 72 Try.underlying36 hi0 hz0 hz1 hz2 rfl (by decide) (.slice A3 d c3) d _ rfl HX.out.1 ⟨wE.heap.size, 0, none⟩ 1 1 #[.int .i64 o.id, .int .i64 ((-1)), .slice PA o.ps.length pc, .int .i64 o.kl, .int .i64 o.kh, .int .i64 o.sl, .int .i64 o.sh].toList rfl (by simp) HX.out.2.1 (by simp [Value.oneCell']) (by unfold maxLen; omega) (by omega) HX.out.2.2.1 ?_; intro v' w9 hown1 hgrow _ hb1; obtain ⟨A9, c9, rfl⟩ := row_slice hown1; have HIN := Lib.hid (InI.push HI.out HDL.out HX.out.2.2.2.1 HX.out.2.2.2.2.1 HX.out.2.2.2.2.2.1 (pc := pc) (by rw [HOE.out]; exact HX.out.2.2.2.2.2.2) HE.out.f (o := ⟨o.id, (-1), PA, pc, o.ps, o.kl, o.kh, o.sl, o.sh⟩) (by rw [HOE.out, HV.out]) hown1 hgrow hb1); clear hown1 hgrow hb1)
         go_roundg (os0.length - (d + 1))
         case measure => omega
         case rel => exact ⟨d + 1, A9, c9, _, by omega, by omega, by go_num, rfl, HIN.out⟩
       ·have hdz : ¬ (d : Int) < (os0.length : Int) := by omega
        obtain rfl : d = os0.length := by omega
        have HA6 := Lib.hid (HA5.out.on HI.out.bl)
        have hcl : cs.length ≤ 16 := by
         have h1 := congrArg List.length HAC.out
         rw [wioTo_length] at h1
         have h2 : (contW cs).length = cs.length := by simp [contW]
         have := cntB_le ws n t
         omega
        have HDN := Lib.hid (HI.out.oi.done (lo' := W1.heap.size) (r := (Value.slice A2 cs.length c2).ownBlock) hlo HR5.out)
        rw [HI.out.len] at HDN
        have q15 := cr 0 HA6.out.bk
        have hbN := (Below.refl _ wr).alloc (Nat.le_refl _) (.cells #[.slice A3 os0.length c3] 38)
        have HX : Hid ((wr.alloc (.cells #[.slice A3 os0.length c3] 38)).ownsRow W1.heap.size 38 1 (.slice A2 cs.length c2) cs.length (cs.map cV) ∧ (∀ (j : Nat) (u : Value), ([.slice A3 os0.length c3] : List Value)[j]? = some u → (wr.alloc (.cells #[.slice A3 os0.length c3] 38)).cell? ((⟨wr.heap.size, 0, none⟩ : Addr).add j) = some u) ∧ W1.heap.size ≤ (wr.alloc (.cells #[.slice A3 os0.length c3] 38)).heap.size ∧ WoI W0 W1 (wr.alloc (.cells #[.slice A3 os0.length c3] 38)) W0.heap.size A2 c2 cs) := Lib.hid ⟨(HA6.out.on hbN).ci.own, World.news_of_block (cs := #[.slice A3 os0.length c3]) (t := 38) (fr := (0, 0)) (World.alloc_heap_new wr _), (HA6.out.on hbN).lt, HA6.out.on hbN⟩
        have HBN := Lib.hid hbN
        clear hbN
        go_wp2_with (at_builtin; refine wpList_append_own_at _ rfl _ _ 22 rfl W1.heap.size 38 j0 (.agg #[.slice none 0 0]) 1 24 Try.underlying22 hj0 hy0 hy1 hy2 rfl (by decide) (.slice A2 cs.length c2) cs.length (cs.map cV) rfl HX.out.1 ⟨wr.heap.size, 0, none⟩ 1 1 [.slice A3 os0.length c3] rfl (by simp) HX.out.2.1 (by simp [Value.oneCell']) (by unfold maxLen; omega) (by omega) HX.out.2.2.1 ?_; intro v' w9 hown1 hgrow _ hb1; obtain ⟨A9, c9, rfl⟩ := row_slice hown1; have q15 := cr 0 (HX.out.2.2.2.app hgrow); have f15 := bf 0 (HX.out.2.2.2.app hgrow); have HP := hd3 hown1 hgrow hb1; clear hown1 hgrow hb1)
        have HWN : Hid (WoI W0 W1 (w9.setCell ⟨W0.heap.size, 0, none⟩ (.slice A9 (cs.length + 1) c9)) W0.heap.size A9 c9 (cs ++ [⟨A3, c3, os'⟩]) ∧ contW (cs ++ [⟨A3, c3, os'⟩]) = wioTo ws n (t + 1)) := by
         obtain ⟨A7, c7, e7, h7, h8⟩ := HDN.out
         simp only [Value.slice.injEq, true_and] at e7
         obtain ⟨rfl, rfl⟩ := e7
         refine Lib.hid ⟨HX.out.2.2.2.push (k := ⟨A3, c3, os'⟩) (h7.ext HBN.out) h8 (by rw [show cV ⟨A3, c3, os'⟩ = .slice A3 os0.length c3 from by unfold cV; rw [HI.out.len]]; exact HP.out.1) HP.out.2.1 HP.out.2.2, ?_⟩
         rw [contW_snoc, HAC.out, HN.out]
         dsimp only
         rw [HI.out.co, List.take_length]
        have hfe : (cs ++ [(⟨A3, c3, os'⟩ : Car)]).length = cs.length + 1 := by simp
        go_roundg (ws.length - (t + 1))
        case measure => omega
        case rel => exact ⟨t + 1, A9, c9, _, by omega, by omega, by go_num, HWN.out⟩
    ·have hltz : ¬ (t : Int) < (ws.length : Int) := by omega
     obtain rfl : t = ws.length := by omega
     have hlt4 : w.heap.size + 1 < W0.heap.size := (Array.getElem?_eq_some_iff.1 K3.out.1.1.2).1
     have K5 := Lib.hid (K3.out.on HA.out.1.bl)
     have p4 := cr 0 K5.out.1.1.2
     have f4 := bf 0 K5.out.1.1.2
     have q15 := cr 0 HA.out.1.bk
     have HL4 := Lib.hid hlt4
     clear hlt4
     go_wp2
     have v1 := cr 0 (blk_set1 K5.out.1.1.2 (.slice A2 cs.length c2))
     have hk : CsI (wr.setCell ⟨w.heap.size + 1, 0, none⟩ (.slice A2 cs.length c2)) W1.heap.size (.slice A2 cs.length c2) cs := HA.out.1.ci.keep (fun k h1 _ => Below.heap_setCell _ _ _ _ (by have := HL4.out; have := HA.out.1.gl; show k ≠ w.heap.size + 1; omega)) (by rw [World.size_setCell]; exact Nat.le_refl _)
     obtain ⟨A7, c7, e7, h7⟩ := hk.done
     simp only [Value.slice.injEq, true_and] at e7
     obtain ⟨rfl, rfl⟩ := e7
     exact bodyPost_ret (v := .tuple #[.agg #[.slice A2 cs.length c2], .int .i64 0]) (by simp [results, Try.results51, go_sem, v1]) rfl ⟨A2, c2, cs, rfl, h7, by rw [HC.out.2.1]; exact HA.out.2, K5.out.1.1.1.1.setCell (p := ⟨w.heap.size + 1, 0, none⟩) (by show w.heap.size ≤ w.heap.size + 1; omega) _⟩
theorem Without_any (A : Option Addr) (c : Nat) (ws : List Car) (n : Int) (w : World) (h : Wk w A ws) :
  Calls Try.prog 51 #[.agg #[.slice A ws.length c], .int .i64 n] w fun e w' => WithR w ws n e w' := by
 by_cases he : withE ws n = 0
 ·exact Without_ok A c ws n w h he
 ·exact Without_bad A c ws n w h he
end Go.Proofs.Ytdadoelajhemjaa
