/- Walks: the reference's lower. -/
import Derived.Test.YtknkneccnhgjmaaD2
import Derived.Test.YtknkneccnhgjmaaMade
import Derived.Deep.RegionHeld3
import Derived.Deep.AppendLies
namespace Go.Proofs.Ytknkneccnhgjmaa
open Go.RowKit Go.Shelf

/-- A variable of the call's own, of type []int inside a struct, that is appended to. -/
structure Outs (w1 wr : World) (G : Nat) (ov : Value) (xs : List Int) : Prop where
  bl : Below G w1 wr
  own : Own wr (G + 1) ov xs
  cell : wr.cell? ⟨G, 0, none⟩ = some ov
  fr : wr.frozen? ⟨G, 0, none⟩ = false
  lt : G < wr.heap.size

theorem own_block {w : World} {base k : Nat} {v : Value} {xs : List Int} (h : Own w base v xs) (e : v.ownBlock = some k) : base ≤ k := by
  rcases h.2 with ⟨rfl, _⟩ | ⟨g, cap, cur, rfl, hb, _⟩
  · simp [Value.ownBlock] at e
  · simp only [Value.ownBlock, Option.some.injEq] at e
    omega

theorem Outs.later {w1 wr w2 : World} {G : Nat} {ov : Value} {xs : List Int} (h : Outs w1 wr G ov xs) (hb : Below wr.heap.size wr w2) : Outs w1 w2 G ov xs := by
  have hown : Own w2 (G + 1) ov xs := by
    rcases h.own.2 with ⟨e, hn⟩ | ⟨g, cap, cur, e, hbg, hg, hrest⟩
    · exact ⟨h.own.1, .inl ⟨e, hn⟩⟩
    · exact ⟨h.own.1, .inr ⟨g, cap, cur, e, hbg, (hb.block g (Array.getElem?_eq_some_iff.1 hg).1).trans hg, hrest⟩⟩
  exact ⟨h.bl.trans (hb.mono (Nat.le_of_lt h.lt)), hown, (hb.cell (p := ⟨G, 0, none⟩) h.lt).trans h.cell, (hb.frozen (p := ⟨G, 0, none⟩) h.lt).trans h.fr, Nat.lt_of_lt_of_le h.lt hb.size⟩
theorem Outs.start (w : World) : Outs w (w.alloc (.cells #[.slice none 0 0] 26)) w.heap.size (.slice none 0 0) [] :=
  ⟨(Below.refl _ w).alloc (Nat.le_refl _) _, Own.nil _ _, by simp [go_sem], by simp [go_sem], by simp⟩

theorem Outs.push {w1 wr W w2 : World} {G : Nat} {ov nv : Value} {xs : List Int} {x : Int} (h : Outs w1 wr G ov xs) (hb : Below wr.heap.size wr W) (hg : W.grownBy w2 ov.ownBlock)
    (ho : w2.ownsRow (G + 1) 3 1 nv (xs.length + 1) (xs.map (Value.int .i64) ++ [.int .i64 x])) : Outs w1 (w2.setCell ⟨G, 0, none⟩ nv) G nv (xs ++ [x]) := by
  have h1 : Below G wr W := hb.mono (Nat.le_of_lt h.lt)
  have hlt : G < W.heap.size := Nat.lt_of_lt_of_le h.lt hb.size
  have hne : ov.ownBlock ≠ some G := fun e => by have := own_block h.own e; omega
  have hc : w2.cell? ⟨G, 0, none⟩ = some ov := (hg.cell_far ⟨G, 0, none⟩ hlt (Ne.symm hne)).trans ((hb.cell (p := ⟨G, 0, none⟩) h.lt).trans h.cell)
  have hown : Own w2 (G + 1) nv (xs ++ [x]) := by unfold Own; rw [List.length_append, List.map_append]; exact ho
  refine ⟨((h.bl.trans h1).grown hg (Nat.le_of_lt hlt) (fun k e => by have := own_block h.own e; omega)).setCell (Nat.le_refl G) nv, ?_, World.cell?_setCell_same' _ _ _ (by rw [hc]; rfl), ?_, ?_⟩
  · exact ownsRow_setCell_below hown (by show G < G + 1; omega) nv
  · have hf : W.frozen? ⟨G, 0, none⟩ = false := (hb.frozen (p := ⟨G, 0, none⟩) h.lt).trans h.fr
    rw [World.frozen?_setCell]
    exact (hg.frozen_far ⟨G, 0, none⟩ hlt (Ne.symm hne)).trans hf
  · simp only [World.size_setCell]; exact Nat.lt_of_lt_of_le hlt hg.size

theorem Outs.appended {w1 wr W w2 : World} {G : Nat} {ov : Value} {xs : List Int} (h : Outs w1 wr G ov xs) (hb : Below wr.heap.size wr W) (hg : W.grownBy w2 ov.ownBlock) :
    w2.cell? ⟨G, 0, none⟩ = some ov ∧ w2.frozen? ⟨G, 0, none⟩ = false ∧ (∀ b o, b < G → w2.cell? ⟨b, o, none⟩ = wr.cell? ⟨b, o, none⟩) := by
  have hlt : G < W.heap.size := Nat.lt_of_lt_of_le h.lt hb.size
  have hne : ov.ownBlock ≠ some G := fun e => by have := own_block h.own e; omega
  have h2 : Below G wr w2 := (hb.mono (Nat.le_of_lt h.lt)).grown hg (Nat.le_of_lt hlt) (fun k e => by have := own_block h.own e; omega)
  exact ⟨(hg.cell_far ⟨G, 0, none⟩ hlt (Ne.symm hne)).trans ((hb.cell (p := ⟨G, 0, none⟩) h.lt).trans h.cell), (hg.frozen_far ⟨G, 0, none⟩ hlt (Ne.symm hne)).trans ((hb.frozen (p := ⟨G, 0, none⟩) h.lt).trans h.fr),
    fun b o hb' => h2.cell (p := ⟨b, o, none⟩) hb'⟩

theorem Outs.slice {w1 wr : World} {G : Nat} {ov : Value} {xs : List Int} {n : Nat} (h : Outs w1 wr G ov xs) (hn : xs.length = n) : ∃ A c, ov = .slice A n c := by
  obtain ⟨A, c, hv, _, _⟩ := h.own.rd
  exact ⟨A, c, by rw [hv, hn]⟩
/-- What such a function hands back. -/
theorem Outs.curve {w w1 wr : World} {R : Nat} {A : Option Addr} {c n : Nat} {xs : List Int} (h : Outs w1 wr (R + 1) (.slice A n c) xs) (hb : Below w.heap.size w w1) (hR : w.heap.size ≤ R) :
    RCurve w xs (.returned (.agg #[.slice A n c])) (wr.setCell ⟨R, 0, none⟩ (.slice A n c)) := by
  obtain ⟨A', c', e, hrd, hfr⟩ := h.own.rd
  cases e
  refine ⟨A, c, rfl, ?_, hfr.mono (by omega), (hb.trans (h.bl.mono (by omega))).setCell (by exact hR) _⟩
  rw [World.size_setCell]
  exact hrd.setCell (fun ad e => by have := hfr ad e; show ad.block ≠ R; omega) _
theorem set_other {g : Nat} {b o : Nat} (h : b < g) : ∀ (W : World) (v : Value), (W.setCell ⟨g, 0, none⟩ v).cell? ⟨b, o, none⟩ = W.cell? ⟨b, o, none⟩ := fun W v =>
  World.cell?_setCell_other W _ _ v (fun e => by have e := congrArg Addr.block e; dsimp only at e; omega)
/-- The world of a function of two boxed curves, one result and one variable of a curve's type. -/
def w4b (w : World) (A1 A2 : Option Addr) (n1 c1 n2 c2 : Nat) : World := ((w2b w A1 A2 n1 c1 n2 c2).alloc (.cells #[.slice none 0 0] 26)).alloc (.cells #[.slice none 0 0] 26)
structure In4 (w w1 : World) (A1 A2 : Option Addr) (c1 c2 : Nat) (xs ys : List Int) : Prop where
  p1 : w1.cell? ⟨w.heap.size, 0, none⟩ = some (.slice A1 xs.length c1)
  p2 : w1.cell? ⟨w.heap.size + 1, 0, none⟩ = some (.slice A2 ys.length c2)
  p3 : w1.cell? ⟨w.heap.size + 1 + 1, 0, none⟩ = some (.slice none 0 0)
  p4 : w1.frozen? ⟨w.heap.size + 1 + 1, 0, none⟩ = false
  r1 : Rd w1 (w.heap.size + 1) A1 xs
  r2 : Rd w1 (w.heap.size + 1) A2 ys
  below : Below w.heap.size w w1
  size : w.heap.size + 1 + 1 + 1 < w1.heap.size
theorem In4.ext {w w1 w2 : World} {A1 A2 : Option Addr} {c1 c2 : Nat} {xs ys : List Int} (h : In4 w w1 A1 A2 c1 c2 xs ys) (hb : Below (w.heap.size + 1 + 1 + 1) w1 w2) (hs : w.heap.size + 1 + 1 + 1 < w2.heap.size) : In4 w w2 A1 A2 c1 c2 xs ys :=
  ⟨(hb.cell (p := ⟨w.heap.size, 0, none⟩) (show w.heap.size < _ by omega)).trans h.p1, (hb.cell (p := ⟨w.heap.size + 1, 0, none⟩) (show w.heap.size + 1 < _ by omega)).trans h.p2, (hb.cell (p := ⟨w.heap.size + 1 + 1, 0, none⟩) (show w.heap.size + 1 + 1 < _ by omega)).trans h.p3,
    (hb.frozen (p := ⟨w.heap.size + 1 + 1, 0, none⟩) (show w.heap.size + 1 + 1 < _ by omega)).trans h.p4, h.r1.below hb (by omega), h.r2.below hb (by omega), h.below.trans (hb.mono (by omega)), hs⟩
theorem w4b_known {w : World} {A1 A2 : Option Addr} {c1 c2 : Nat} {xs ys : List Int} (r1 : Rd w w.heap.size A1 xs) (r2 : Rd w w.heap.size A2 ys) : In4 w (w4b w A1 A2 xs.length c1 ys.length c2) A1 A2 c1 c2 xs ys := by
  have hs := w2b_size w A1 A2 xs.length c1 ys.length c2
  have hb : Below w.heap.size w (w4b w A1 A2 xs.length c1 ys.length c2) := ((w2b_below w A1 A2 xs.length c1 ys.length c2).alloc (by omega) _).alloc (by simp; omega) _
  exact ⟨by simp [w4b, w2b, go_sem], by simp [w4b, w2b, go_sem], by simp [w4b, w2b, go_sem], by simp [w4b, w2b, go_sem], (r1.below hb (Nat.le_refl _)).mono (by omega), (r2.below hb (Nat.le_refl _)).mono (by omega), hb, by simp [w4b, hs]⟩
theorem w4b_outs (w : World) (A1 A2 : Option Addr) (n1 c1 n2 c2 : Nat) : Outs (w4b w A1 A2 n1 c1 n2 c2) (w4b w A1 A2 n1 c1 n2 c2) (w.heap.size + 1 + 1 + 1) (.slice none 0 0) [] := by
  have hs : (w4b w A1 A2 n1 c1 n2 c2).heap.size = w.heap.size + 1 + 1 + 1 + 1 := by simp [w4b, w2b]
  exact ⟨Below.refl _ _, Own.nil _ _, by simp [w4b, w2b, go_sem], by simp [w4b, w2b, go_sem], by omega⟩

theorem tab_succ (n : Nat) (F : Nat → Int) : tab (n + 1) F = tab n F ++ [F n] := by simp [tab, List.range_succ]

set_option maxRecDepth 100000 in
set_option maxHeartbeats 1600000 in
theorem rlower_any (A1 A2 : Option Addr) (c1 c2 : Nat) (xs ys : List Int) (w : World) (r1 : Rd w w.heap.size A1 xs) (r2 : Rd w w.heap.size A2 ys) (hm : xs.length ≤ 1000) (h3 : ys.length = xs.length) :
    Calls Try.prog 110 #[.agg #[.slice A1 xs.length c1], .agg #[.slice A2 ys.length c2]] w fun e w' => RCurve w (lowerL xs ys) e w' := by
  obtain ⟨i0, hi0, hz0, hz1, hz2⟩ := info_parts info3
  have hK := w4b_known (c1 := c1) (c2 := c2) r1 r2
  have hO := w4b_outs w A1 A2 xs.length c1 ys.length c2
  have H3 := Lib.hid h3
  clear r1 r2 h3
  go_enter Try.func110, Try.ntmps110
  go_upto_region 2 with fail
  change Code.wp _ _ _ _ (w4b w A1 A2 xs.length c1 ys.length c2)
  generalize w4b w A1 A2 xs.length c1 ys.length c2 = w1 at *
  go_wp2
  go_loopg [6] xs.length (fun gg s wr => ∃ t : Nat, t ≤ xs.length ∧ xs.length - t ≤ gg ∧ s = .int .i64 t ∧ ∃ A c, Outs w1 wr (w.heap.size + 1 + 1 + 1) (.slice A t c) (tab t fun i => min (nth xs i) (nth ys i)))
  case atStart => exact ⟨0, Nat.zero_le _, by omega, rfl, _, _, hO⟩
  case round =>
    obtain ⟨t, ht, hg, rfl, A, c, hO'⟩ := hrel
    have hK' := hK.ext hO'.bl hO'.lt
    have p1 := hK'.p1
    have p2 := hK'.p2
    have q4 := hO'.cell
    have f4 := hO'.fr
    have l4 := hO'.lt
    by_cases hlt : t < xs.length
    · have hltz : (t : Int) < (xs.length : Int) := by omega
      have hltz2 : (t : Int) < (ys.length : Int) := by have := H3.out; omega
      have h0z : (0 : Int) ≤ (t : Int) := by omega
      obtain ⟨b1, o1, rfl, lb1, hc1⟩ := hK'.r1 (by omega)
      obtain ⟨b2, o2, rfl, lb2, hc2⟩ := hK'.r2 (by have := H3.out; omega)
      have k1 := hc1 t hlt
      have k2 := hc2 t (by have := H3.out; omega)
      have hown := hO'.own
      have HO := Lib.hid hO'
      clear hc1 hc2 hO' hK'
      unfold Own at hown
      rw [tab_length] at hown
      go_wp2
      refine wp_region_made (fun W => W.cell? ⟨w.heap.size, 0, none⟩ = some (.slice (some ⟨b1, o1, none⟩) xs.length c1) ∧ W.cell? ⟨w.heap.size + 1, 0, none⟩ = some (.slice (some ⟨b2, o2, none⟩) ys.length c2) ∧ W.cell? ⟨w.heap.size + 1 + 1 + 1, 0, none⟩ = some (.slice A t c) ∧
          W.cell? ⟨b1, o1 + t, none⟩ = some (.int .i64 (nth xs t)) ∧ W.cell? ⟨b2, o2 + t, none⟩ = some (.int .i64 (nth ys t))) 13 (by kernel_rfl) (by kernel_rfl) (by rfl) ⟨p1, p2, q4, k1, k2⟩ ?_
      simp only [List.take_succ_cons, List.take_zero]
      iterate 13
        refine wpReads_op (v := ?_) (by rfl) (fun W hW => ?_) ?_
        rotate_left
        focus
          obtain ⟨e1, e2, e3, e4, e5⟩ := hW
          go_simp
          try (with_reducible rfl)
        simp only [Act.put, List.setIfInBounds_toArray, List.set_cons_zero, List.set_cons_succ]
      have hmin : (if nth ys t < nth xs t then nth ys t else nth xs t) = min (nth xs t) (nth ys t) := by split <;> omega
      generalize (if nth ys t < nth xs t then nth ys t else nth xs t) = X at *
      have HX := Lib.hid hmin
      clear hmin
      refine wpReads_nil ⟨by rfl, .slice (some ⟨wr.heap.size, 0, none⟩) 1 1, wr.drew.alloc (.cells #[.int .i64 X] 3), ?_, ?_, ?_⟩
      · go_simp
      · go_keep
      simp only [Act.put, List.setIfInBounds_toArray, List.set_cons_zero, List.set_cons_succ]
      have hBw : Below wr.heap.size wr (wr.drew.alloc (.cells #[.int .i64 X] 3)) := ((Below.refl _ wr).drew).alloc (Nat.le_refl _) _
      have hnew := World.news_of_block (cs := #[.int .i64 X]) (t := 3) (fr := (0, 0)) (heap_alloc_new wr.drew (.cells #[.int .i64 X] 3))
      have hown2 := hown.drew.alloc (.cells #[.int .i64 X] 3)
      have hsz : w.heap.size + 1 + 1 + 1 + 1 ≤ (wr.drew.alloc (.cells #[.int .i64 X] 3)).heap.size := by simp; omega
      generalize hgW : wr.drew.alloc (.cells #[.int .i64 X] 3) = W at *
      have HB := Lib.hid (And.intro hBw (And.intro hnew (And.intro hown2 hsz)))
      clear hBw hnew hown2 hsz hgW p1 p2 q4 f4 k1 k2
      go_wp2_with (at_builtin; refine wpList_append_own_at _ rfl _ _ 24 rfl (w.heap.size + 1 + 1 + 1 + 1) 3 i0 (.int .i64 0) 1 8 Try.underlying24 hi0 hz0 hz1 hz2 rfl (by decide) (.slice A t c) t _ rfl HB.out.2.2.1 ⟨wr.heap.size, 0, none⟩ 1 1 [.int .i64 X] rfl (by simp) HB.out.2.1 (by simp [Value.oneCell']) (by unfold maxLen; omega) (by omega) HB.out.2.2.2 ?_; intro v' w2 hown1 hgrow _ _; have hpush := HO.out.push (nv := v') (x := X) HB.out.1 hgrow (by rw [tab_length]; exact hown1); obtain ⟨c2G, f2G, rc2⟩ := HO.out.appended HB.out.1 hgrow; obtain ⟨A', c', rfl⟩ := hpush.slice (n := t + 1) (by simp [tab_length]); have HP := Lib.hid hpush; clear hpush hown1 hgrow rc2)
      go_roundg (xs.length - (t + 1))
      case measure => omega
      case rel => exact ⟨t + 1, by omega, by omega, by go_num, _, _, by rw [tab_succ, ← HX.out]; exact HP.out⟩
    · have hltz : ¬ (t : Int) < (xs.length : Int) := by omega
      obtain rfl : t = xs.length := by omega
      have HF := Lib.hid (hO'.curve (w := w) hK.below (by omega))
      have p3 := hK'.p3
      have p4 := hK'.p4
      have q3 := World.cell?_setCell_same' wr ⟨w.heap.size + 1 + 1, 0, none⟩ (.slice A xs.length c) (by rw [p3]; rfl)
      have Q3 := Lib.hid q3
      clear hO' hK' q3
      go_wp2
      have q3 := Q3.out
      exact bodyPost_ret (v := .agg #[.slice A xs.length c]) (by simp [results, Try.results110, go_sem, q3]) rfl HF.out
end Go.Proofs.Ytknkneccnhgjmaa
