/- Walks: the reference's join, leastOf. -/
import Derived.Test.YtknkneccnhgjmaaD4
namespace Go.Proofs.Ytknkneccnhgjmaa
open Go.RowKit Go.Shelf

set_option maxRecDepth 100000 in
set_option maxHeartbeats 1600000 in
theorem rjoin_any (A1 A2 : Option Addr) (c1 c2 : Nat) (xs ys : List Int) (w : World) (r1 : Rd w w.heap.size A1 xs) (r2 : Rd w w.heap.size A2 ys) (hm : xs.length ≤ 1000) (h3 : ys.length = xs.length) (sx : Small xs) (sy : Small ys) :
    Calls Try.prog 111 #[.agg #[.slice A1 xs.length c1], .agg #[.slice A2 ys.length c2]] w fun e w' => RCurve w (joinL xs ys) e w' := by
  obtain ⟨i0, hi0, hz0, hz1, hz2⟩ := info_parts info3
  have hK := w4b_known (c1 := c1) (c2 := c2) r1 r2
  have hO := w4b_outs w A1 A2 xs.length c1 ys.length c2
  have H3 := Lib.hid h3
  have HS := Lib.hid (And.intro sx sy)
  clear r1 r2 h3 sx sy
  go_enter Try.func111, Try.ntmps111
  go_upto_region 2 with fail
  change Code.wp _ _ _ _ (w4b w A1 A2 xs.length c1 ys.length c2)
  generalize w4b w A1 A2 xs.length c1 ys.length c2 = w1 at *
  go_wp2
  go_loopg [6] xs.length (fun gg s wr => ∃ t : Nat, t ≤ xs.length ∧ xs.length - t ≤ gg ∧ s = .int .i64 t ∧ ∃ A c, Outs w1 wr (w.heap.size + 1 + 1 + 1) (.slice A t c) (tab t fun i => joinAt xs ys i))
  case atStart => exact ⟨0, Nat.zero_le _, by omega, rfl, _, _, hO⟩
  case round =>
    obtain ⟨t, ht, hg, rfl, A, c, hO'⟩ := hrel
    have hK' := hK.ext hO'.bl hO'.lt
    have p1 := hK'.p1
    have p2 := hK'.p2
    by_cases hlt : t < xs.length
    · have hltz : (t : Int) < (xs.length : Int) := by omega
      have HO := Lib.hid (And.intro hO' hK')
      have hcall := rleast_any t A1 A2 c1 c2 xs ys wr (hK'.r1.mono (by have := hK'.size; omega)) (hK'.r2.mono (by have := hK'.size; omega)) hlt hm H3.out HS.out.1 HS.out.2
      have HC := Lib.hid hcall
      have l4 := hO'.lt
      clear hO' hK' hcall
      go_upto_region 6 with (go_at_call 112; refine HC.out.mono ?_; rintro e w2 ⟨rfl, hb2⟩)
      have hO2 := HO.out.1.later hb2
      have hK2 := HO.out.2.ext (hb2.mono (by omega)) (Nat.lt_of_lt_of_le l4 hb2.size)
      have p1 := hK2.p1
      have p2 := hK2.p2
      have q4 := hO2.cell
      have l4 := hO2.lt
      have hmt := argb_le ltB (divAt xs ys t) t
      have hX0 : joinAt xs ys t = nth xs (splitAt xs ys t) + nth ys (t - splitAt xs ys t) := rfl
      change splitAt xs ys t ≤ t at hmt
      generalize splitAt xs ys t = m at *
      have hmz : (0 : Int) ≤ (m : Int) := by omega
      have hmz1 : (m : Int) < (xs.length : Int) := by omega
      have hmz2 : (0 : Int) ≤ (t : Int) - (m : Int) := by omega
      have hmz3 : (t : Int) - (m : Int) < (ys.length : Int) := by have := H3.out; omega
      have e1 : ((t : Int) - (m : Int)).toNat = t - m := by omega
      obtain ⟨b1, o1, rfl, lb1, hc1⟩ := hK2.r1 (by omega)
      obtain ⟨b2, o2, rfl, lb2, hc2⟩ := hK2.r2 (by have := H3.out; omega)
      have k1 := hc1 m (by omega)
      have k2 := hc2 (t - m) (by have := H3.out; omega)
      obtain ⟨n1, n2⟩ := HS.out.1 m
      obtain ⟨n3, n4⟩ := HS.out.2 (t - m)
      have hwr1 : IntKind.i64.wrap ((t : Int) - (m : Int)) = (t : Int) - (m : Int) := by rw [IntKind.wrap_i64]; omega
      have hwr2 : IntKind.i64.wrap (nth xs m + nth ys (t - m)) = nth xs m + nth ys (t - m) := by rw [IntKind.wrap_i64]; omega
      have hown := hO2.own
      have HO2 := Lib.hid hO2
      have HX := Lib.hid hX0
      clear hc1 hc2 hO2 hK2 hX0 HO HC hb2
      unfold Own at hown
      rw [tab_length] at hown
      refine wp_region_made (fun W => W.cell? ⟨w.heap.size, 0, none⟩ = some (.slice (some ⟨b1, o1, none⟩) xs.length c1) ∧ W.cell? ⟨w.heap.size + 1, 0, none⟩ = some (.slice (some ⟨b2, o2, none⟩) ys.length c2) ∧ W.cell? ⟨w.heap.size + 1 + 1 + 1, 0, none⟩ = some (.slice A t c) ∧
          W.cell? ⟨b1, o1 + m, none⟩ = some (.int .i64 (nth xs m)) ∧ W.cell? ⟨b2, o2 + (t - m), none⟩ = some (.int .i64 (nth ys (t - m)))) 15 (by kernel_rfl) (by kernel_rfl) (by rfl) ⟨p1, p2, q4, k1, k2⟩ ?_
      simp only [List.take_succ_cons, List.take_zero]
      iterate 15
        refine wpReads_op (v := ?_) (by rfl) (fun W hW => ?_) ?_
        rotate_left
        focus
          obtain ⟨d1, d2, d3, d4, d5⟩ := hW
          go_simp
          try (with_reducible rfl)
        try simp only [Act.put, List.setIfInBounds_toArray, List.set_cons_zero, List.set_cons_succ]
      rw [← HX.out]
      generalize hXX : joinAt xs ys t = X at *
      have HXX := Lib.hid hXX
      clear hXX
      refine wpReads_nil ⟨by rfl, .slice (some ⟨w2.heap.size, 0, none⟩) 1 1, w2.drew.alloc (.cells #[.int .i64 X] 3), ?_, ?_, ?_⟩
      · go_simp
      · go_keep
      simp only [Act.put, List.setIfInBounds_toArray, List.set_cons_zero, List.set_cons_succ]
      have hBw : Below w2.heap.size w2 (w2.drew.alloc (.cells #[.int .i64 X] 3)) := ((Below.refl _ w2).drew).alloc (Nat.le_refl _) _
      have hnew := World.news_of_block (cs := #[.int .i64 X]) (t := 3) (fr := (0, 0)) (heap_alloc_new w2.drew (.cells #[.int .i64 X] 3))
      have hown2 := hown.drew.alloc (.cells #[.int .i64 X] 3)
      have hsz : w.heap.size + 1 + 1 + 1 + 1 ≤ (w2.drew.alloc (.cells #[.int .i64 X] 3)).heap.size := by have := HO2.out.lt; simp; omega
      generalize hgW : w2.drew.alloc (.cells #[.int .i64 X] 3) = W at *
      have HB := Lib.hid (And.intro hBw (And.intro hnew (And.intro hown2 hsz)))
      clear hBw hnew hown2 hsz hgW
      go_wp2_with (at_builtin; refine wpList_append_own_at _ rfl _ _ 24 rfl (w.heap.size + 1 + 1 + 1 + 1) 3 i0 (.int .i64 0) 1 8 Try.underlying24 hi0 hz0 hz1 hz2 rfl (by decide) (.slice A t c) t _ rfl HB.out.2.2.1 ⟨w2.heap.size, 0, none⟩ 1 1 [.int .i64 X] rfl (by simp) HB.out.2.1 (by simp [Value.oneCell']) (by unfold maxLen; omega) (by omega) HB.out.2.2.2 ?_; intro v' w9 hown1 hgrow _ _; have hpush := HO2.out.push (nv := v') (x := X) HB.out.1 hgrow (by rw [tab_length]; exact hown1); obtain ⟨c2G, f2G, rc2⟩ := HO2.out.appended HB.out.1 hgrow; obtain ⟨A', c', rfl⟩ := hpush.slice (n := t + 1) (by simp [tab_length]); have HP := Lib.hid hpush; clear hpush hown1 hgrow rc2)
      go_roundg (xs.length - (t + 1))
      case measure => omega
      case rel => exact ⟨t + 1, by omega, by omega, by go_num, _, _, by rw [tab_succ, HXX.out]; exact HP.out⟩
    · have hltz : ¬ (t : Int) < (xs.length : Int) := by omega
      obtain rfl : t = xs.length := by omega
      have HF := Lib.hid (hO'.curve (w := w) hK.below (by omega))
      have p3 := hK'.p3
      have p4 := hK'.p4
      have q4 := hO'.cell
      have q3 := World.cell?_setCell_same' wr ⟨w.heap.size + 1 + 1, 0, none⟩ (.slice A xs.length c) (by rw [p3]; rfl)
      have Q3 := Lib.hid q3
      clear hO' hK' q3
      go_wp2
      have q3 := Q3.out
      exact bodyPost_ret (v := .agg #[.slice A xs.length c]) (by simp [results, Try.results111, go_sem, q3]) rfl HF.out

/-- What is known where two boxed curves and a result's cell lie. -/
structure In2r (w W : World) (A1 A2 : Option Addr) (c1 c2 : Nat) (xs ys : List Int) : Prop where
  p1 : W.cell? ⟨w.heap.size, 0, none⟩ = some (.slice A1 xs.length c1)
  p2 : W.cell? ⟨w.heap.size + 1, 0, none⟩ = some (.slice A2 ys.length c2)
  p3 : W.cell? ⟨w.heap.size + 1 + 1, 0, none⟩ = some (.slice none 0 0)
  p4 : W.frozen? ⟨w.heap.size + 1 + 1, 0, none⟩ = false
  r1 : Rd W W.heap.size A1 xs
  r2 : Rd W W.heap.size A2 ys
  bl : Below w.heap.size w W
  lt : w.heap.size + 1 + 1 < W.heap.size
theorem In2r.ext {w w1 w2 : World} {A1 A2 : Option Addr} {c1 c2 : Nat} {xs ys : List Int} (h : In2r w w1 A1 A2 c1 c2 xs ys) (hb : Below w1.heap.size w1 w2) : In2r w w2 A1 A2 c1 c2 xs ys := by
  have hlt := h.lt
  exact ⟨(hb.cell (p := ⟨w.heap.size, 0, none⟩) (show w.heap.size < _ by omega)).trans h.p1, (hb.cell (p := ⟨w.heap.size + 1, 0, none⟩) (show w.heap.size + 1 < _ by omega)).trans h.p2, (hb.cell (p := ⟨w.heap.size + 1 + 1, 0, none⟩) hlt).trans h.p3,
    (hb.frozen (p := ⟨w.heap.size + 1 + 1, 0, none⟩) hlt).trans h.p4, h.r1.ext hb, h.r2.ext hb, h.bl.trans (hb.mono h.bl.size), Nat.lt_of_lt_of_le hlt hb.size⟩
theorem w2c_known {w : World} {A1 A2 : Option Addr} {c1 c2 : Nat} {xs ys : List Int} (r1 : Rd w w.heap.size A1 xs) (r2 : Rd w w.heap.size A2 ys) : In2r w (w2c w A1 A2 xs.length c1 ys.length c2) A1 A2 c1 c2 xs ys := by
  have hb := w2c_below w A1 A2 xs.length c1 ys.length c2
  exact ⟨by simp [w2c, go_sem], by simp [w2c, go_sem], by simp [w2c, go_sem], by simp [w2c, go_sem], r1.ext hb, r2.ext hb, hb, by simp [w2c]⟩


set_option maxRecDepth 100000 in
set_option maxHeartbeats 1600000 in
theorem leastOf_any (A1 A2 : Option Addr) (c1 c2 : Nat) (xs ys : List Int) (w : World) (r1 : Rd w w.heap.size A1 xs) (r2 : Rd w w.heap.size A2 ys) (hm : xs.length ≤ 1000) (h3 : ys.length = xs.length) (sx : Small xs) (sy : Small ys) :
    Calls Try.prog 102 #[.agg #[.slice A1 xs.length c1], .agg #[.slice A2 ys.length c2]] w fun e w' => RCurve w (leastL xs ys) e w' := by
  have hK := w2c_known (c1 := c1) (c2 := c2) r1 r2
  have hj := fun W => fun (h : In2r w W A1 A2 c1 c2 xs ys) => rjoin_any A1 A2 c1 c2 xs ys W h.r1 h.r2 hm h3 sx sy
  have hl := fun W A c => fun (h : Rd W W.heap.size A1 xs) (h' : Rd W W.heap.size A (joinL xs ys)) => rlower_any A1 A c1 c xs (joinL xs ys) W h h' hm (joinL_length xs ys)
  have HC := Lib.hid (And.intro hj hl)
  have n1 := set_other (g := w.heap.size + 1 + 1) (b := w.heap.size) (o := 0) (by omega)
  have n2 := set_other (g := w.heap.size + 1 + 1) (b := w.heap.size + 1) (o := 0) (by omega)
  clear r1 r2 h3 sx sy hj hl
  go_enter Try.func102, Try.ntmps102
  go_upto_region 1 with fail
  change Code.wp _ _ _ _ (w2c w A1 A2 xs.length c1 ys.length c2)
  generalize w2c w A1 A2 xs.length c1 ys.length c2 = w1 at *
  have HK := Lib.hid hK
  have p1 := hK.p1
  have p2 := hK.p2
  clear hK
  go_region_held3 (fun W => W.cell? ⟨w.heap.size, 0, none⟩ = some (.slice A1 xs.length c1) ∧ W.cell? ⟨w.heap.size + 1, 0, none⟩ = some (.slice A2 ys.length c2)) (go_keep) (first
    | (go_at_call 111; refine (HC.out.1 _ (HK.out.ext ((Below.refl _ w1).drew))).mono ?_; rintro e w2 ⟨A, c, rfl, hrd, hfr, hb⟩; have HK2 := Lib.hid (And.intro (HK.out.ext (((Below.refl _ w1).drew).trans hb)) (And.intro hrd hb)); obtain ⟨s1, s2⟩ := And.intro HK2.out.1.p1 HK2.out.1.p2; clear hrd hfr hb)
    | (go_at_call 110; refine (HC.out.2 _ A c HK2.out.1.r1 HK2.out.2.1).mono ?_; rintro e w3 ⟨A', c', rfl, hrd, hfr, hb⟩; have HK3 := Lib.hid (And.intro (HK2.out.1.ext hb) (And.intro hrd (hfr.mono HK2.out.1.lt))); obtain ⟨t1, t2, t3, t4⟩ := And.intro HK3.out.1.p1 (And.intro HK3.out.1.p2 (And.intro HK3.out.1.p3 HK3.out.1.p4)); clear hrd hfr hb))
  have q3 := World.cell?_setCell_same' w3 ⟨w.heap.size + 1 + 1, 0, none⟩ (.slice A' (lowerL xs (joinL xs ys)).length c') (by rw [t3]; rfl)
  have HF := Lib.hid (And.intro q3 (fin_curve (c := c') (g := w.heap.size + 1 + 1) HK3.out.1.bl (by omega) HK3.out.2.1 HK3.out.2.2 (by omega) (by omega)))
  clear q3
  go_wp2
  have q3 := HF.out.1
  exact bodyPost_ret (v := .agg #[.slice A' (lowerL xs (joinL xs ys)).length c']) (by simp [results, Try.results102, go_sem, q3]) rfl HF.out.2
end Go.Proofs.Ytknkneccnhgjmaa
