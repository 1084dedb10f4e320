/- Walks: fedTree. -/
import Derived.Test.YtegmniphgahblaaGreatM16
import Derived.Test.YtegmniphgahblaaGreatM13
import Derived.Deep.CutRange
namespace Go.Proofs.YtegmniphgahblaaGreat
open Go.RowKit Go.Shelf

/-- A slice of uint16. -/
def RdU (w : World) (B : Nat) (A : Option Addr) (xs : List Int) : Prop :=
 (∀ i, i < xs.length → 0 ≤ nth xs i ∧ nth xs i ≤ 65535) ∧ (0 < xs.length → ∃ b off, A = some ⟨b, off, none⟩ ∧ b < B ∧ ∀ i, i < xs.length → w.cell? ⟨b, off + i, none⟩ = some (.int .u16 (nth xs i)))
theorem RdU.ext {w w' : World} {A : Option Addr} {xs : List Int} {B : Nat} (h : RdU w B A xs) (hb : Below w.heap.size w w') (hB : B ≤ w.heap.size) : RdU w' B A xs := ⟨h.1, fun hn => by
 obtain ⟨b, off, e, hl, hc⟩ := h.2 hn
 exact ⟨b, off, e, hl, fun i hi => (hb.cell (p := ⟨b, off + i, none⟩) (by dsimp only; omega)).trans (hc i hi)⟩⟩
theorem info_reach : (Tryz.prog.info? 65).map (fun i => (i.zero, i.size, i.bytes)) = some (some (.agg #[.int .i64 0, .int .i64 0]), 2, 16) := by kernel_rfl
theorem info_payer : (Tryz.prog.info? 53).map (fun i => (i.zero, i.size, i.bytes)) = some (some (.agg #[.int .i64 0, .int .i64 0, .int .i64 0]), 3, 24) := by kernel_rfl
theorem news3 {W : World} {g : Nat} {x y z : Value} {ty : TypeId} (h : Blk W g #[x, y, z] ty) : ∀ j u, [x, y, z][j]? = some u → W.cell? ((⟨g, 0, none⟩ : Addr).add j) = some u := fun j u hj => by
 match j, hj with
 | 0, hj => cases hj; exact cr 0 h
 | 1, hj => cases hj; rw [add_eq]; exact cr 1 h
 | 2, hj => cases hj; rw [add_eq]; exact cr 2 h
theorem own_pay {w : World} {base np : Nat} {v : Value} {Y : List Pay} {a b c : Int} (h : w.ownsRow base 53 3 v (np + 1) (Y.flatMap pyL ++ [.int .i64 a, .int .i64 b, .int .i64 c])) (hn : Y.length = np) : OwnK 53 3 pyL w base v (Y ++ [⟨a, b, c⟩]) := OwnK.of_row (y := (⟨a, b, c⟩ : Pay)) h (by rw [hn])
theorem OwnK.cap {α : Type} {ty : TypeId} {k : Nat} {f : α → List Value} {w : World} {base n c : Nat} {A : Option Addr} {l : List α} (h : OwnK ty k f w base (.slice A n c) l) : n ≤ c := by
 rcases h.2 with ⟨e, _⟩ | ⟨g, cap, cur, e, hb, hg, hnc, _⟩
 ·cases e; exact Nat.le_refl _
 ·cases e; exact hnc
/-- A tree that is made reads as it is. -/
theorem FtI.tree {V W : World} {gT gA m A1 A2 c1 c2} {R : List Rch} {Y : List Pay} {f : Nat → Int} (h : FtI V gT gA m (.slice A1 R.length c1) (.slice A2 Y.length c2) R Y f W) {W' : World} (hb : ∀ b, V.heap.size ≤ b → b < W.heap.size → W'.heap[b]? = W.heap[b]?) : TrAt W' W.heap.size ⟨A1, c1, R, A2, c2, Y⟩ := by
 obtain ⟨a1, d1, e1, h1⟩ := OwnK.rd (f := rcL) (fun _ => rfl) default h.o1
 obtain ⟨a2, d2, e2, h2⟩ := OwnK.rd (f := pyL) (fun _ => rfl) default h.o2
 cases e1; cases e2
 refine ⟨fun h0 => ?_, fun h0 => ?_, h.o2.cap⟩
 ·obtain ⟨g, rfl, hbg, hg, hc⟩ := h1 h0
  refine ⟨g, 0, rfl, hg, fun i hi => ?_⟩
  rw [Nat.zero_add]
  exact ⟨(World.cell?_of_block (hb g hbg hg)).trans (hc i 0 _ hi (by decide) rfl), (World.cell?_of_block (hb g hbg hg)).trans (hc i 1 _ hi (by decide) rfl)⟩
 ·obtain ⟨g, rfl, hbg, hg, hc⟩ := h2 h0
  refine ⟨g, 0, rfl, hg, fun i hi => ?_⟩
  rw [Nat.zero_add]
  exact ⟨(World.cell?_of_block (hb g hbg hg)).trans (hc i 0 _ hi (by decide) rfl), (World.cell?_of_block (hb g hbg hg)).trans (hc i 1 _ hi (by decide) rfl), (World.cell?_of_block (hb g hbg hg)).trans (hc i 2 _ hi (by decide) rfl)⟩
set_option maxRecDepth 100000 in
set_option maxHeartbeats 3200000 in
theorem fedTree_any (A : Option Addr) (c : Nat) (ws : List Car) (s : Wt) (K : Option Addr) (kc : Nat) (cost : List Int) (w : World) (h : Wk w A ws) (hs : Wet w s) (hk : RdU w w.heap.size K cost) (g : Good ws) (he : cwE ws s = 0) (hm : ws.length ≤ 6) (hN : (outs ws).length ≤ 14) :
  Calls Tryz.prog 6 #[.agg #[.slice A ws.length c], s.v, .slice K cost.length kc] w fun e w' => (∃ t : Tr, t.rs = rsTo ws cost ws.length ∧ t.ps = psTo ws (flowsO ws s) (outs ws).length ∧ e = .returned (.tuple #[t.v, .int .i64 0]) ∧ TrAt w' w'.heap.size t) ∧ Below w.heap.size w w' := by
 have hb3 : Below w.heap.size w (((w.alloc (.cells #[.slice A ws.length c] 24)).alloc (.cells #[.slice s.A0 s.ri.length s.c0, .slice s.A1 s.bo.length s.c1, .slice s.A2 s.lk.length s.c2, .slice s.A3 s.lo.length s.c3] 30)).alloc (.cells #[.slice none 0 0, .slice none 0 0] 42)) := (((Below.refl _ w).alloc (Nat.le_refl _) _).alloc (by simp) _).alloc (by simp; omega) _
 have k0 : Blk (((w.alloc (.cells #[.slice A ws.length c] 24)).alloc (.cells #[.slice s.A0 s.ri.length s.c0, .slice s.A1 s.bo.length s.c1, .slice s.A2 s.lk.length s.c2, .slice s.A3 s.lo.length s.c3] 30)).alloc (.cells #[.slice none 0 0, .slice none 0 0] 42)) w.heap.size #[.slice A ws.length c] 24 := blk_alloc (blk_alloc (blk_new w _ _ rfl) _) _
 have k1 : Blk (((w.alloc (.cells #[.slice A ws.length c] 24)).alloc (.cells #[.slice s.A0 s.ri.length s.c0, .slice s.A1 s.bo.length s.c1, .slice s.A2 s.lk.length s.c2, .slice s.A3 s.lo.length s.c3] 30)).alloc (.cells #[.slice none 0 0, .slice none 0 0] 42)) (w.heap.size + 1) #[.slice s.A0 s.ri.length s.c0, .slice s.A1 s.bo.length s.c1, .slice s.A2 s.lk.length s.c2, .slice s.A3 s.lo.length s.c3] 30 := blk_alloc (blk_new (w.alloc (.cells #[.slice A ws.length c] 24)) (g := w.heap.size + 1) _ _ (by simp)) _
 have k2 : Blk (((w.alloc (.cells #[.slice A ws.length c] 24)).alloc (.cells #[.slice s.A0 s.ri.length s.c0, .slice s.A1 s.bo.length s.c1, .slice s.A2 s.lk.length s.c2, .slice s.A3 s.lo.length s.c3] 30)).alloc (.cells #[.slice none 0 0, .slice none 0 0] 42)) (w.heap.size + 1 + 1) #[.slice none 0 0, .slice none 0 0] 42 := blk_new ((w.alloc (.cells #[.slice A ws.length c] 24)).alloc (.cells #[.slice s.A0 s.ri.length s.c0, .slice s.A1 s.bo.length s.c1, .slice s.A2 s.lk.length s.c2, .slice s.A3 s.lo.length s.c3] 30)) (g := w.heap.size + 1 + 1) _ _ (by simp)
 have hz3 : ((((w.alloc (.cells #[.slice A ws.length c] 24)).alloc (.cells #[.slice s.A0 s.ri.length s.c0, .slice s.A1 s.bo.length s.c1, .slice s.A2 s.lk.length s.c2, .slice s.A3 s.lo.length s.c3] 30)).alloc (.cells #[.slice none 0 0, .slice none 0 0] 42))).heap.size = w.heap.size + 3 := by simp
 have hfl := Flow_any A c ws s ((((w.alloc (.cells #[.slice A ws.length c] 24)).alloc (.cells #[.slice s.A0 s.ri.length s.c0, .slice s.A1 s.bo.length s.c1, .slice s.A2 s.lk.length s.c2, .slice s.A3 s.lo.length s.c3] 30)).alloc (.cells #[.slice none 0 0, .slice none 0 0] 42))) (h.ext hb3) (hs.ext hb3)
 rw [he, flowsO_length he] at hfl
 have KK := Lib.hid (((((stays_bl hb3).and (stays_blk k0)).and (stays_blk k1)).and (stays_blk k2)).and (stays_wk (h.ext hb3)))
 have HF := hd4 hfl hk g h.rd
 have hmk := fun W => make_ints ws.length (by omega) W
 obtain ⟨i0, hi0, hz0, hz1, hz2⟩ := info_parts info_reach
 obtain ⟨j0, hj0, hy0, hy1, hy2⟩ := info_parts info_payer
 clear hb3 k0 k1 k2 hfl h hs hk
 unfold Wt.v
 go_enter Tryz.func6, Tryz.ntmps6
 go_upto_region 1 with fail
 generalize (((w.alloc (.cells #[.slice A ws.length c] 24)).alloc (.cells #[.slice s.A0 s.ri.length s.c0, .slice s.A1 s.bo.length s.c1, .slice s.A2 s.lk.length s.c2, .slice s.A3 s.lo.length s.c3] 30)).alloc (.cells #[.slice none 0 0, .slice none 0 0] 42)) = W0 at *
 have x0 := cr 0 KK.out.1.1.1.1.2
 have x1 := cr 0 KK.out.1.1.1.2
 have x2 := cr 1 KK.out.1.1.1.2
 have x3 := cr 2 KK.out.1.1.1.2
 have x4 := cr 3 KK.out.1.1.1.2
 go_upto_region 4 with (go_at_call 16; refine HF.out.1.mono ?_; rintro e w1 ⟨FA, fc, rfl, hrd, -, hb⟩; have K1 := Lib.hid ((KK.out.on hb).and (stays_rd hrd)); have hs1 := hb.size; clear hb hrd x0 x1 x2 x3 x4)
 have hzw : w.heap.size + 3 ≤ w1.heap.size := by omega
 have hbT := (Below.refl _ w1).alloc (Nat.le_refl _) (.cells #[.slice none 0 0, .slice none 0 0] 42)
 have kT := blk_new w1 (g := w1.heap.size) #[.slice none 0 0, .slice none 0 0] 42 rfl
 have hzT : (w1.alloc (.cells #[.slice none 0 0, .slice none 0 0] 42)).heap.size = w1.heap.size + 1 := by simp
 have HT := hd2 hbT kT
 clear hbT kT
 go_upto_region 5 with fail
 generalize w1.alloc (.cells #[.slice none 0 0, .slice none 0 0] 42) = W4 at *
 have x0 := cr 0 (K1.out.on HT.out.1).1.1.1.1.1.2
 have hbA := (Below.refl _ W4).alloc (Nat.le_refl _) (.cells (Array.replicate ws.length (Value.int .i64 0)) 3)
 have iA := made_intF ws.length W4
 have HA := hd2 hbA iA
 have hzA : (W4.alloc (.cells (Array.replicate ws.length (Value.int .i64 0)) 3)).heap.size = w1.heap.size + 1 + 1 := by simp [hzT]
 rw [hzT] at iA
 have HA := hd2 hbA iA
 clear hbA iA
 go_upto_region 7 with fail
 generalize W4.alloc (.cells (Array.replicate ws.length (Value.int .i64 0)) 3) = V at *
 clear x0
 have hV1 : Below w1.heap.size w1 V := HT.out.1.trans (HA.out.1.mono HT.out.1.size)
 have kT : Blk V w1.heap.size #[.slice none 0 0, .slice none 0 0] 42 := (HA.out.1.block w1.heap.size (by omega)).trans HT.out.2
 have iA := HA.out.2
 have HX : Hid (∀ X, ButB (fun b => b = w1.heap.size ∨ b = w1.heap.size + 1) V X → (∀ b, b < w1.heap.size → X.heap[b]? = w1.heap[b]?) ∧ Below w.heap.size w X) :=
  Lib.hid fun X hX => ⟨fun b hb => (hX.same b (by omega) (by omega)).trans (hV1.block b hb), (K1.out.1.1.1.1.1.1.trans (hV1.mono (by omega))).trans (hX.below (by omega) (by intro b hb; omega))⟩
 have HK := Lib.hid kT
 clear hV1 kT HT HA
 generalize hgT : w1.heap.size = gT at *
 go_loopg [12] ws.length (fun gg i wr => ∃ k : Nat, k ≤ ws.length ∧ ws.length - k ≤ gg ∧ i = .int .i64 (k : Int) ∧ Aside (ButB (fun b => b = gT ∨ b = gT + 1) V wr ∧ IntF wr (gT + 1) ws.length (fun j => if j < k then -1 else 0) ∧ Blk wr gT #[.slice none 0 0, .slice none 0 0] 42))
 case atStart => exact ⟨0, Nat.zero_le _, Nat.le_refl _, by go_num, ButB.refl _ _, iA.congr (fun j _ => (if_neg (Nat.not_lt_zero _)).symm), HK.out⟩
 case round =>
  obtain ⟨k, hk, hgg, rfl, hA⟩ := hrel
  obtain ⟨hB, hI, hT⟩ := hA.out
  have hx := HX.out wr hB
  have x0 := (cell_of_heap (i := 0) (hx.1 w.heap.size (by omega))).trans (cr 0 K1.out.1.1.1.1.1.2)
  clear hA iA
  by_cases hlt : k < ws.length
  ·have hltz : (k : Int) < (ws.length : Int) := by omega
   have ca := hI.at_ k hlt
   have fa := hI.fz k
   have HB := hd3 (hB.set (a := ⟨gT + 1, k, none⟩) (.inr rfl) (.int .i64 (-1))) ((hI.set hlt (-1)).congr (f' := fun j => if j < k + 1 then -1 else 0) (fun j _ => by
    unfold put
    by_cases e : j = k
    ·rw [if_pos e, if_pos (by omega)]
    ·rw [if_neg e]
     dsimp only
     by_cases e2 : j < k
     ·rw [if_pos e2, if_pos (by omega)]
     ·rw [if_neg e2, if_neg (by omega)])) (show Blk (wr.setCell ⟨gT + 1, k, none⟩ (.int .i64 (-1))) gT #[.slice none 0 0, .slice none 0 0] 42 from (Below.heap_setCell wr ⟨gT + 1, k, none⟩ _ gT (by dsimp only; omega)).trans hT)
   clear hB hI hT hx
   go_wp2
   go_roundg (ws.length - (k + 1))
   case measure => omega
   case rel => exact ⟨k + 1, by omega, by omega, by go_num, HB.out⟩
  ·obtain rfl : k = ws.length := by omega
   rename World => V1
   have F0 : FtI V gT (gT + 1) ws.length (.slice none 0 0) (.slice none 0 0) (rsTo ws cost 0) (psTo ws (flowsO ws s) (start ws 0)) (abvTo ws (start ws 0)) V1 :=
    ⟨hB, hT, OwnK.nil _ _ _ _ _, OwnK.nil _ _ _ _ _, fun k e => (by cases e), hI.congr fun j hj => if_pos hj⟩
   clear hB hI hT hx
   go_upto_region 12 with fail
   clear x0
   go_loopg [13, 14] ws.length (fun gg n i wr => ∃ t : Nat, t ≤ ws.length ∧ ws.length - t ≤ gg ∧ i = .int .i64 (t : Int) ∧ n = .int .i64 (start ws t : Nat) ∧ Aside (∃ v u, FtI V gT (gT + 1) ws.length v u (rsTo ws cost t) (psTo ws (flowsO ws s) (start ws t)) (abvTo ws (start ws t)) wr))
   case atStart => exact ⟨0, Nat.zero_le _, Nat.le_refl _, by go_num, rfl, _, _, F0⟩
   case round =>
    obtain ⟨t, ht, hgg2, rfl, rfl, hA⟩ := hrel
    obtain ⟨v, u, hF⟩ := hA.out
    clear hA F0
    have hx := HX.out wr hF.bt
    have x0 := (cell_of_heap (i := 0) (hx.1 w.heap.size (by omega))).trans (cr 0 K1.out.1.1.1.1.1.2)
    by_cases hlt : t < ws.length
    ·have hltz : (t : Int) < (ws.length : Int) := by omega
     have ca := hF.ab.at_ t hlt
     have HF1 := Lib.hid hF
     clear hx hF
     go_upto_region 15 with fail
     have hbR := (Below.refl _ wr).alloc (Nat.le_refl _) (.cells #[.int .i64 (abvTo ws (start ws t) t), .int .i64 0] 65)
     have kR := blk_new wr (g := wr.heap.size) #[.int .i64 (abvTo ws (start ws t) t), .int .i64 0] 65 rfl
     have hzR : (wr.alloc (.cells #[.int .i64 (abvTo ws (start ws t) t), .int .i64 0] 65)).heap.size = wr.heap.size + 1 := by simp
     have hzr : V.heap.size ≤ wr.heap.size := HF1.out.bt.size
     have HF2 := hd2 (HF1.out.later (by omega) (by omega) hbR) kR
     have HG := hd2 (fun k e => (HF1.out.o1.blkIs e (b := k)).2.1) (fun k e => (HF1.out.o2.blkIs e (b := k)).2.1)
     clear hbR kR HF1 ca x0
     generalize hgR : wr.heap.size = gR at *
     generalize wr.alloc (.cells #[.int .i64 (abvTo ws (start ws t) t), .int .i64 0] 65) = W5 at *
     go_upto_if 57 with fail
     go_cut [] from 54 to 63 (fun w' => Blk w' gR #[.int .i64 (rchT ws cost t).ab, .int .i64 (rchT ws cost t).co] 65 ∧ FtI V gT (gT + 1) ws.length v u (rsTo ws cost t) (psTo ws (flowsO ws s) (start ws t)) (abvTo ws (start ws t)) w' ∧ w'.heap.size = gR + 1)
     case first =>
      by_cases hcz : t < cost.length
      ·have hczz : (t : Int) < (cost.length : Int) := by omega
       obtain ⟨b, off, rfl, lb, hc⟩ := HF.out.2.1.2 (by omega)
       have hxx := HX.out W5 HF2.out.1.bt
       have q0 := (hxx.2.cell (p := ⟨b, off + t, none⟩) lb).trans (hc t hcz)
       have hr := HF.out.2.1.1 t hcz
       have y1 := cr 1 HF2.out.2
       have f1 := bf 1 HF2.out.2
       have hcv : IntKind.i64.wrap (nth cost t) = nth cost t := IntWalk.i64_in _ (by omega)
       clear hc hxx hr
       go_wp2_with fail
       go_meet
       case rel =>
        refine ⟨?_, HF2.out.1.setO (by omega) (by omega) hzr (fun k e => by have := HG.out.1 k e; omega) (fun k e => by have := HG.out.2 k e; omega) 1 _, by rw [setCell_size']; exact hzR⟩
        have h2 := heap_setCell_same W5 gR 1 #[.int .i64 (abvTo ws (start ws t) t), .int .i64 0] 65 (.int .i64 (nth cost t)) HF2.out.2
        unfold rchT
        rw [if_pos hcz]
        exact h2
      ·have hcz2 : ¬ (t : Int) < (cost.length : Int) := by omega
       go_wp2_with fail
       go_meet
       case rel =>
        refine ⟨?_, HF2.out.1, hzR⟩
        have h2 := HF2.out.2
        unfold rchT
        rw [if_neg hcz]
        exact h2
     obtain ⟨kR, hF, hzc⟩ := hcut
     obtain ⟨A3, c3, rfl⟩ := hF.o1.slice (n := t) (rsTo_len ws cost t)
     have t0 := cr 0 hF.k
     have y0 := cr 0 kR
     have y1 := cr 1 kR
     have hbN := (Below.refl _ wc).alloc (Nat.le_refl _) (.cells #[.int .i64 (rchT ws cost t).ab, .int .i64 (rchT ws cost t).co] 65)
     have hFN := hF.later (by omega) (by omega) hbN
     have hbs : V.heap.size ≤ (wc.alloc (.cells #[.int .i64 (rchT ws cost t).ab, .int .i64 (rchT ws cost t).co] 65)).heap.size := by simp; omega
     have HN := hd3 (hFN.o1.row (rsTo_len ws cost t)) (news2 (blk_new wc (g := gR + 1) #[.int .i64 (rchT ws cost t).ab, .int .i64 (rchT ws cost t).co] 65 hzc.symm)) hFN
     clear hbN hFN hF kR HF2 HG
     go_upto_region 18 with (at_builtin; go_loud (refine wpList_append_own_at _ rfl _ _ 39 rfl V.heap.size 65 i0 (.agg #[.int .i64 0, .int .i64 0]) 2 16 Tryz.underlying39 hi0 hz0 hz1 hz2 rfl (by decide) (.slice A3 t c3) t _ rfl HN.out.1 ⟨gR + 1, 0, none⟩ 1 1 [.int .i64 (rchT ws cost t).ab, .int .i64 (rchT ws cost t).co] rfl (by simp) HN.out.2.1 (by simp [Value.oneCell']) (by unfold maxLen; omega) (by omega) hbs ?_; intro v' w9 hown1 hgrow _ hbk; have hO9 : OwnK 65 2 rcL w9 V.heap.size v' (rsTo ws cost t ++ [rchT ws cost t]) := OwnK.of_row (y := rchT ws cost t) hown1 (by rw [rsTo_len]); obtain ⟨A5, c5, rfl⟩ := hO9.slice (n := t + 1) (by rw [List.length_append, rsTo_len]; rfl); have hk9 : Blk w9 gT #[.slice A3 t c3, u] 42 := (hgrow.block gT (by simp; omega) (fun e => by have := (HN.out.2.2.o1.blkIs e.symm).1; omega)).trans HN.out.2.2.k; have hc9 := cr 0 hk9; have hf9 := bf 0 hk9; have hF9 := HN.out.2.2.app1 (by omega) (by omega) (by omega) hO9 hgrow hbk; have HP9 := Lib.hid hF9; clear hO9 hk9 hown1 hgrow hbk hF9))
     obtain ⟨b, off, rfl, lb, hc⟩ := HF.out.2.2.2 (by omega)
     obtain ⟨k0, hO⟩ := hc t hlt
     have hs := start_succ hlt
     have hle := start_mono (ws := ws) (c := t + 1) (d := ws.length) hlt (Nat.le_refl _)
     rw [start_all] at hle
     have HO := Lib.hid (fun k (hk : k < (cAt ws t).os.length) => (show oAt (outs ws) (start ws t + k) = oAt (cAt ws t).os k ∧ caAt ws (start ws t + k) = t ∧ start ws t + k < (outs ws).length from ⟨oAt_outs hlt hk, caAt_start hlt hk, start_lt hlt hk⟩))
     have HR2 := hd4 hO k0 lb hs
     have hm1 : (cAt ws t).os.length ≤ 14 := by omega
     clear hc hO k0 hs t0 y0 y1 hc9 hf9 HN
     generalize hA1 : (cAt ws t).A = A1 at *
     generalize hc1 : (cAt ws t).c = c1 at *
     generalize hos : (cAt ws t).os = os at *
     rw [← rsTo_succ] at HP9
     generalize w9.setCell ⟨gT, 0, none⟩ (.slice A5 (t + 1) c5) = X7 at *
     go_upto_region 19 with fail
     go_loopg [13, 16] os.length (fun gg n i wr => ∃ k : Nat, k ≤ os.length ∧ os.length - k ≤ gg ∧ i = .int .i64 (k : Int) ∧ n = .int .i64 (start ws t + k : Nat) ∧ Aside (∃ v u, FtI V gT (gT + 1) ws.length v u (rsTo ws cost (t + 1)) (psTo ws (flowsO ws s) (start ws t + k)) (abvTo ws (start ws t + k)) wr))
     case atStart => exact ⟨0, Nat.zero_le _, Nat.le_refl _, by go_num, rfl, _, _, HP9.out⟩
     case round =>
      obtain ⟨k, hk, hgk, rfl, rfl, hB⟩ := hrel
      obtain ⟨v, u, hF⟩ := hB.out
      clear hB
      rename World => wr2
      have hx := HX.out wr2 hF.bt
      have x0 := (cell_of_heap (i := 0) (hx.1 w.heap.size (by omega))).trans (cr 0 K1.out.1.1.1.1.1.2)
      have q0 := (hx.2.cell (p := ⟨b, off + t, none⟩) lb).trans HR2.out.2.1
      by_cases hlk : k < os.length
      ·have hlkz : (k : Int) < (os.length : Int) := by omega
       obtain ⟨b', off', rfl, lb', hc'⟩ := HR2.out.1 (by omega)
       obtain ⟨hoo, hca, hsl⟩ := HO.out k hlk
       have ho7 := hc' k hlk
       have d0 := (hx.2.cell (p := ⟨b', off' + k * 7, none⟩) lb').trans ho7.c0
       have d1 := (hx.2.cell (p := ⟨b', off' + k * 7 + 1, none⟩) lb').trans ho7.c1
       have d2 := (hx.2.cell (p := ⟨b', off' + k * 7 + 2, none⟩) lb').trans ho7.c2
       have d3 := (hx.2.cell (p := ⟨b', off' + k * 7 + 3, none⟩) lb').trans ho7.c3
       have d4 := (hx.2.cell (p := ⟨b', off' + k * 7 + 4, none⟩) lb').trans ho7.c4
       have d5 := (hx.2.cell (p := ⟨b', off' + k * 7 + 5, none⟩) lb').trans ho7.c5
       have d6 := (hx.2.cell (p := ⟨b', off' + k * 7 + 6, none⟩) lb').trans ho7.c6
       have hF2 := Lib.hid hF
       have hstep : ∀ l, psTo ws l (start ws t + (k + 1)) = if paysB ws l (start ws t + k) = true then psTo ws l (start ws t + k) ++ [payT ws (start ws t + k)] else psTo ws l (start ws t + k) := fun l => psTo_succ ws l _
       have hstab : abvTo ws (start ws t + (k + 1)) = if 0 ≤ (oAt (outs ws) (start ws t + k)).into then put (abvTo ws (start ws t + k)) (oAt (outs ws) (start ws t + k)).into.toNat (caAt ws (start ws t + k)) else abvTo ws (start ws t + k) := rfl
       have hpy : payT ws (start ws t + k) = ⟨(oAt os k).id, (t : Int), 1⟩ := by unfold payT; rw [hoo, hca]
       have hpb : ∀ l, paysB ws l (start ws t + k) = (decide ((oAt os k).into < 0) && decide (0 < nth l (start ws t + k))) := fun l => by unfold paysB; rw [hoo]
       have hri := HF.out.2.2.1.right _ hsl
       rw [hoo, hca] at hstab hri
       have HZ := hd5 hstep hstab hpy hpb hri
       clear hstep hstab hpy hpb hri ho7 hc' hoo hca hx hF
       generalize oAt os k = o at *
       go_upto_region 22 with fail
       have hb7 := (Below.refl _ wr2).alloc (Nat.le_refl _) (.cells #[.int .i64 o.id, .int .i64 o.into, .slice o.P o.ps.length o.c, .int .i64 o.kl, .int .i64 o.kh, .int .i64 o.sl, .int .i64 o.sh] 69)
       have k7 := blk_new wr2 (g := wr2.heap.size) #[.int .i64 o.id, .int .i64 o.into, .slice o.P o.ps.length o.c, .int .i64 o.kl, .int .i64 o.kh, .int .i64 o.sl, .int .i64 o.sh] 69 rfl
       have hz7 : (wr2.alloc (.cells #[.int .i64 o.id, .int .i64 o.into, .slice o.P o.ps.length o.c, .int .i64 o.kl, .int .i64 o.kh, .int .i64 o.sl, .int .i64 o.sh] 69)).heap.size = wr2.heap.size + 1 := by simp
       have hF7 := hd2 (hF2.out.later (by omega) (by omega) hb7) k7
       have hzr2 : V.heap.size ≤ wr2.heap.size := hF2.out.bt.size
       clear hb7 k7 hF2 d0 d1 d2 d3 d4 d5 d6 q0 x0
       generalize hg7 : wr2.heap.size = g7 at *
       generalize wr2.alloc (.cells #[.int .i64 o.id, .int .i64 o.into, .slice o.P o.ps.length o.c, .int .i64 o.kl, .int .i64 o.kh, .int .i64 o.sl, .int .i64 o.sh] 69) = X8 at *
       have y0 := cr 0 hF7.out.2
       have y1 := cr 1 hF7.out.2
       have hx := HX.out X8 hF7.out.1.bt
       by_cases hin : 0 ≤ o.into
       ·have hil := into_lt HZ.out.2.2.2.2 hin
        obtain ⟨j, hj⟩ : ∃ j : Nat, o.into = (j : Int) := ⟨o.into.toNat, by omega⟩
        have hjm : j < ws.length := by omega
        have hjz : (j : Int) < (ws.length : Int) := by omega
        rw [hj] at y1
        have ca := hF7.out.1.ab.at_ j hjm
        have fa := hF7.out.1.ab.fz j
        have hE := Lib.hid (show abvTo ws (start ws t + (k + 1)) = put (abvTo ws (start ws t + k)) j t from by rw [HZ.out.2.1, if_pos hin, hj]; rfl)
        have hP := Lib.hid (show ∀ l, psTo ws l (start ws t + (k + 1)) = psTo ws l (start ws t + k) from fun l => by rw [HZ.out.1, HZ.out.2.2.2.1, decide_eq_false (show ¬ o.into < 0 by omega)]; rfl)
        clear hx
        go_wp2
        go_roundg (os.length - (k + 1))
        case measure => omega
        case rel =>
         refine ⟨k + 1, by omega, by omega, by go_num, by go_num, v, u, ?_⟩
         rw [hE.out, hP.out]
         exact hF7.out.1.setA (by omega) (by omega) hjm _
       ·have hinz : o.into < 0 := by omega
        have hE := Lib.hid (show abvTo ws (start ws t + (k + 1)) = abvTo ws (start ws t + k) from by rw [HZ.out.2.1, if_neg hin])
        have hslz : ((start ws t + k : Nat) : Int) < ((outs ws).length : Int) := by omega
        obtain ⟨fb, foff, rfl, flb, fcc⟩ := K1.out.1.2 (by rw [flowsO_length he]; omega)
        have e0 := (cell_of_heap (i := foff + (start ws t + k)) (hx.1 fb (by omega))).trans (fcc (start ws t + k) (by rw [flowsO_length he]; exact hsl))
        clear hx fcc
        by_cases hpo : 0 < nth (flowsO ws s) (start ws t + k)
        ·have hP := Lib.hid (show psTo ws (flowsO ws s) (start ws t + (k + 1)) = psTo ws (flowsO ws s) (start ws t + k) ++ [⟨o.id, (t : Int), 1⟩] from by rw [HZ.out.1, HZ.out.2.2.2.1, HZ.out.2.2.1, decide_eq_true hinz, decide_eq_true hpo]; rfl)
         have hnp := psTo_len ws (flowsO ws s) (start ws t + k)
         obtain ⟨np, hnpe⟩ : ∃ np, (psTo ws (flowsO ws s) (start ws t + k)).length = np := ⟨_, rfl⟩
         rw [hnpe] at hnp
         obtain ⟨A6, c6, rfl⟩ := hF7.out.1.o2.slice hnpe
         have t1 := cr 1 hF7.out.1.k
         have hgt : nth (flowsO ws s) (start ws t + k) > 0 := hpo
         have hbN := (Below.refl _ X8).alloc (Nat.le_refl _) (.cells #[.int .i64 o.id, .int .i64 (t : Int), .int .i64 1] 53)
         have hFN := hF7.out.1.later (by omega) (by omega) hbN
         have hbs : V.heap.size ≤ (X8.alloc (.cells #[.int .i64 o.id, .int .i64 (t : Int), .int .i64 1] 53)).heap.size := by simp; omega
         have HN := hd3 (hFN.o2.row hnpe) (news3 (blk_new X8 (g := g7 + 1) #[.int .i64 o.id, .int .i64 (t : Int), .int .i64 1] 53 hz7.symm)) hFN
         have HNP := Lib.hid hnpe
         clear hbN hFN hnpe
         go_wp2_with (at_builtin; refine wpList_append_own_at _ rfl _ _ 40 rfl V.heap.size 53 j0 (.agg #[.int .i64 0, .int .i64 0, .int .i64 0]) 3 24 Tryz.underlying40 hj0 hy0 hy1 hy2 rfl (by decide) (.slice A6 np c6) np _ rfl HN.out.1 ⟨g7 + 1, 0, none⟩ 1 1 [.int .i64 o.id, .int .i64 (t : Int), .int .i64 1] rfl (by simp) HN.out.2.1 (by simp [Value.oneCell']) (by unfold maxLen; omega) (by omega) hbs ?_; intro v' w9 hown1 hgrow _ hbk; have hO9 : OwnK 53 3 pyL w9 V.heap.size v' (psTo ws (flowsO ws s) (start ws t + k) ++ [⟨o.id, (t : Int), 1⟩]) := own_pay hown1 HNP.out; obtain ⟨A9, c9, rfl⟩ := hO9.slice (n := np + 1) (by rw [List.length_append, HNP.out]; rfl); have hk9 : Blk w9 gT #[v, .slice A6 np c6] 42 := (hgrow.block gT (by simp; omega) (fun e => by have := (HN.out.2.2.o2.blkIs e.symm).1; omega)).trans HN.out.2.2.k; have hc9 := cr 1 hk9; have hf9 := bf 1 hk9; have hq1 : gT < V.heap.size := (by omega); have hq2 : gT + 1 < V.heap.size := (by omega); have hq3 : gT ≠ gT + 1 := (by omega); have hF9 := FtI.app2 (z := ⟨o.id, (t : Int), 1⟩) HN.out.2.2 hq1 hq2 hq3 hO9 hgrow hbk; have HQ9 := Lib.hid hF9; clear hq1 hq2 hq3; clear hF9; clear hO9; clear hbk; clear hgrow; clear hown1)
         go_roundg (os.length - (k + 1))
         case measure => omega
         case rel =>
          refine ⟨k + 1, by omega, by omega, by go_num, by go_num, v, .slice A9 (np + 1) c9, ?_⟩
          rw [hE.out, hP.out]
          exact HQ9.out
        ·have hP := Lib.hid (show psTo ws (flowsO ws s) (start ws t + (k + 1)) = psTo ws (flowsO ws s) (start ws t + k) from by rw [HZ.out.1, HZ.out.2.2.2.1, decide_eq_true hinz, decide_eq_false hpo]; rfl)
         have hng : ¬ nth (flowsO ws s) (start ws t + k) > 0 := hpo
         go_wp2
         go_roundg (os.length - (k + 1))
         case measure => omega
         case rel =>
          refine ⟨k + 1, by omega, by omega, by go_num, by go_num, v, u, ?_⟩
          rw [hE.out, hP.out]
          exact hF7.out.1
      ·obtain rfl : k = os.length := by omega
       have HS := Lib.hid HR2.out.2.2.2
       have HF9 := Lib.hid hF
       clear hF hx
       go_wp2
       go_roundg (ws.length - (t + 1))
       case measure => omega
       case rel =>
        refine ⟨t + 1, by omega, by omega, by go_num, by rw [HS.out], v, u, ?_⟩
        rw [HS.out]
        exact HF9.out
    ·obtain rfl : t = ws.length := by omega
     obtain ⟨A1, c1, rfl, -⟩ := OwnK.rd (f := rcL) (fun _ => rfl) default hF.o1
     obtain ⟨A2, c2, rfl, -⟩ := OwnK.rd (f := pyL) (fun _ => rfl) default hF.o2
     have t0 := cr 0 hF.k
     have t1 := cr 1 hF.k
     have q2 := (hx.1 (w.heap.size + 1 + 1) (by omega)).trans K1.out.1.1.1.2
     have HF8 := hd3 hF hx.2 q2
     have hV8 : w.heap.size + 1 + 1 < V.heap.size := by omega
     rw [start_all] at HF8 t0 t1
     obtain ⟨R, hR⟩ : ∃ R, rsTo ws cost ws.length = R := ⟨_, rfl⟩
     obtain ⟨Y, hY⟩ : ∃ Y, psTo ws (flowsO ws s) (outs ws).length = Y := ⟨_, rfl⟩
     rw [hR, hY] at HF8 t0 t1
     have HRY := hd2 hR.symm hY.symm
     clear hR hY
     clear hx hF q2
     go_wp2_with (refine wpList_store_mid rfl 42 (.tmp 6) (.tmp 120) rfl (w.heap.size + 1 + 1) 0 _ rfl rfl (show World.there _ _ 0 2 from blk_there HF8.out.2.2) (by kernel_rfl) (by simp [Value.oneCell']) ?_)
     have hBF := setCells_blk HF8.out.2.2 [.slice A1 R.length c1, .slice A2 Y.length c2] rfl
     refine bodyPost_ret (results_box10 Tryz.results6 _ _ ⟨w.heap.size + 1 + 1, 0, none⟩ _ _ (by rfl) (by rfl) (run_loadVar_mid _ _ 0 _ _ _ (blk_range hBF) Tryz.underlying42 rfl (by kernel_rfl))) rfl ?_
     refine ⟨⟨⟨A1, c1, R, A2, c2, Y⟩, HRY.out.1, HRY.out.2, rfl, ?_⟩, setCells_below (by omega) _ _ _ HF8.out.2.1⟩
     rw [setCells_size]
     exact HF8.out.1.tree fun b h1 _ => setCells_oth (by omega) _ _ _
end Go.Proofs.YtegmniphgahblaaGreat
