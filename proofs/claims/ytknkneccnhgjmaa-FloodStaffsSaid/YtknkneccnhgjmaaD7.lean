/- Walks: the reference's served. -/
import Derived.Test.YtknkneccnhgjmaaD6
namespace Go.Proofs.Ytknkneccnhgjmaa
open Go.RowKit Go.Shelf

theorem three_cells {w : World} {g : Nat} {v0 v1 v2 : Value} {ty : TypeId} (h : w.heap[g]? = some (.cells #[v0, v1, v2] ty (0, 0))) :
    w.cell? ⟨g, 0, none⟩ = some v0 ∧ w.cell? ⟨g, 1, none⟩ = some v1 ∧ w.cell? ⟨g, 2, none⟩ = some v2 ∧ (∀ i, w.frozen? ⟨g, i, none⟩ = false) :=
  ⟨by rw [cell_of_row w g 0 _ _ _ h]; rfl, by rw [cell_of_row w g 1 _ _ _ h]; rfl, by rw [cell_of_row w g 2 _ _ _ h]; rfl, fun i => frozen_of_row w g i _ _ h⟩
theorem three_set {w : World} {g : Nat} {v0 v1 v2 : Value} {ty : TypeId} (h : w.heap[g]? = some (.cells #[v0, v1, v2] ty (0, 0))) (a b c : Value) :
    (((w.setCell ⟨g, 0, none⟩ a).setCell ⟨g, 1, none⟩ b).setCell ⟨g, 2, none⟩ c).cell? ⟨g, 0, none⟩ = some a ∧
    (((w.setCell ⟨g, 0, none⟩ a).setCell ⟨g, 1, none⟩ b).setCell ⟨g, 2, none⟩ c).cell? ⟨g, 1, none⟩ = some b ∧
    (((w.setCell ⟨g, 0, none⟩ a).setCell ⟨g, 1, none⟩ b).setCell ⟨g, 2, none⟩ c).cell? ⟨g, 2, none⟩ = some c := by
  obtain ⟨h0, h1, h2, _⟩ := three_cells h
  refine ⟨?_, ?_, ?_⟩
  · rw [cell_ne (by omega), cell_ne (by omega)]; exact World.cell?_setCell_same' _ _ _ (by rw [h0]; rfl)
  · rw [cell_ne (by omega)]; exact World.cell?_setCell_same' _ _ _ (by rw [cell_ne (by omega), h1]; rfl)
  · exact World.cell?_setCell_same' _ _ _ (by rw [cell_ne (by omega), cell_ne (by omega), h2]; rfl)

/-- Three boxed curves, and a result of three cells. -/
def w3q (w : World) (A1 A2 A3 : Option Addr) (n1 c1 n2 c2 n3 c3 : Nat) : World := (w3b w A1 A2 A3 n1 c1 n2 c2 n3 c3).alloc (.cells #[.int .i64 0, .bool false, .int .i64 0] 58)
structure In3q (w W : World) (A1 A2 A3 : Option Addr) (c1 c2 c3 : Nat) (xs ys zs : List Int) : Prop where
  p1 : W.cell? ⟨w.heap.size, 0, none⟩ = some (.slice A1 xs.length c1)
  p2 : W.cell? ⟨w.heap.size + 1, 0, none⟩ = some (.slice A2 ys.length c2)
  p3 : W.cell? ⟨w.heap.size + 1 + 1, 0, none⟩ = some (.slice A3 zs.length c3)
  row : W.heap[w.heap.size + 1 + 1 + 1]? = some (.cells #[.int .i64 0, .bool false, .int .i64 0] 58 (0, 0))
  r1 : Rd W W.heap.size A1 xs
  r2 : Rd W W.heap.size A2 ys
  r3 : Rd W W.heap.size A3 zs
  bl : Below w.heap.size w W
  lt : w.heap.size + 1 + 1 + 1 < W.heap.size
theorem In3q.ext {w w1 w2 : World} {A1 A2 A3 : Option Addr} {c1 c2 c3 : Nat} {xs ys zs : List Int} (h : In3q w w1 A1 A2 A3 c1 c2 c3 xs ys zs) (hb : Below w1.heap.size w1 w2) : In3q w w2 A1 A2 A3 c1 c2 c3 xs ys zs := by
  have hlt := h.lt
  exact ⟨(hb.cell (p := ⟨w.heap.size, 0, none⟩) (show w.heap.size < _ by omega)).trans h.p1, (hb.cell (p := ⟨w.heap.size + 1, 0, none⟩) (show w.heap.size + 1 < _ by omega)).trans h.p2, (hb.cell (p := ⟨w.heap.size + 1 + 1, 0, none⟩) (show w.heap.size + 1 + 1 < _ by omega)).trans h.p3, (hb.block _ hlt).trans h.row,
    h.r1.ext hb, h.r2.ext hb, h.r3.ext hb, h.bl.trans (hb.mono h.bl.size), Nat.lt_of_lt_of_le hlt hb.size⟩
theorem w3q_known {w : World} {A1 A2 A3 : Option Addr} {c1 c2 c3 : Nat} {xs ys zs : List Int} (r1 : Rd w w.heap.size A1 xs) (r2 : Rd w w.heap.size A2 ys) (r3 : Rd w w.heap.size A3 zs) : In3q w (w3q w A1 A2 A3 xs.length c1 ys.length c2 zs.length c3) A1 A2 A3 c1 c2 c3 xs ys zs := by
  have hs2 := w3b_size w A1 A2 A3 xs.length c1 ys.length c2 zs.length c3
  have hb : Below w.heap.size w (w3q w A1 A2 A3 xs.length c1 ys.length c2 zs.length c3) := (w3b_below w A1 A2 A3 xs.length c1 ys.length c2 zs.length c3).alloc (by rw [hs2]; omega) _
  have hq : (w3q w A1 A2 A3 xs.length c1 ys.length c2 zs.length c3).heap[w.heap.size + 1 + 1 + 1]? = some (.cells #[.int .i64 0, .bool false, .int .i64 0] 58 (0, 0)) := by
    have := heap_alloc_new (w3b w A1 A2 A3 xs.length c1 ys.length c2 zs.length c3) (.cells #[.int .i64 0, .bool false, .int .i64 0] 58)
    rwa [hs2] at this
  exact ⟨by simp [w3q, w3b, go_sem], by simp [w3q, w3b, go_sem], by simp [w3q, w3b, go_sem], hq, r1.ext hb, r2.ext hb, r3.ext hb, hb, by simp [w3q, w3b]⟩

def servedI (xs ys zs : List Int) : Int := if 0 ≤ failsI xs ys zs then failsI xs ys zs else 0
def servedOk (xs ys zs : List Int) : Bool := decide (failsI xs ys zs < 0)

theorem served_hit {xs ys zs : List Int} {t : Nat} (hlt : t < xs.length) (h : failAt xs ys (leastL xs zs) t = true) (hA : ∀ j, j < t → failAt xs ys (leastL xs zs) j = false) : servedI xs ys zs = t ∧ servedOk xs ys zs = false := by
  have e : failsI xs ys zs = t := firstIdx_hit hlt h hA
  unfold servedI servedOk
  rw [e]
  exact ⟨if_pos (by omega), by rw [decide_eq_false_iff_not]; omega⟩
theorem served_miss {xs ys zs : List Int} (hA : ∀ j, j < xs.length → failAt xs ys (leastL xs zs) j = false) : servedI xs ys zs = 0 ∧ servedOk xs ys zs = true := by
  have e : failsI xs ys zs = -1 := firstIdx_miss hA
  unfold servedI servedOk
  rw [e]
  exact ⟨if_neg (by omega), rfl⟩

set_option maxRecDepth 100000 in
set_option maxHeartbeats 1600000 in
theorem rserved_any (A1 A2 A3 : Option Addr) (c1 c2 c3 : Nat) (xs ys zs : List Int) (w : World) (r1 : Rd w w.heap.size A1 xs) (r2 : Rd w w.heap.size A2 ys) (r3 : Rd w w.heap.size A3 zs) (h2 : xs.length ≤ 1000) (h3 : ys.length = xs.length) (h4 : zs.length = xs.length) (sx : Small xs) (sz : Small zs) :
    Calls Try.prog 99 #[.agg #[.slice A1 xs.length c1], .agg #[.slice A2 ys.length c2], .agg #[.slice A3 zs.length c3]] w fun e w' => e = .returned (.agg #[.int .i64 (servedI xs ys zs), .bool (servedOk xs ys zs), .int .i64 0]) ∧ Below w.heap.size w w' := by
  have hK := w3q_known (c1 := c1) (c2 := c2) (c3 := c3) r1 r2 r3
  have hcall := leastOf_any A1 A3 c1 c3 xs zs (w3q w A1 A2 A3 xs.length c1 ys.length c2 zs.length c3) hK.r1 hK.r3 h2 h4 sx sz
  have HC := Lib.hid hcall
  have H3 := Lib.hid (And.intro h3 h4)
  clear r1 r2 r3 h3 h4 hcall sx sz
  go_enter Try.func99, Try.ntmps99
  go_upto_region 1 with fail
  change Code.wp _ _ _ _ (w3q w A1 A2 A3 xs.length c1 ys.length c2 zs.length c3)
  generalize w3q w A1 A2 A3 xs.length c1 ys.length c2 zs.length c3 = w1 at *
  have p1 := hK.p1
  have p2 := hK.p2
  have p3 := hK.p3
  have HK := Lib.hid hK
  clear hK
  go_upto_region 2 with (go_at_call 102; refine HC.out.mono ?_; rintro e w2 ⟨A, c, rfl, hrd, hfr, hb⟩)
  have hw3 : Below w2.heap.size w2 (w2.alloc (.cells #[.slice A (leastL xs zs).length c] 26)) := (Below.refl _ w2).alloc (Nat.le_refl _) _
  have hK3 := HK.out.ext (hb.trans (hw3.mono hb.size))
  have hL := hrd.ext hw3
  have u1 : (w2.alloc (.cells #[.slice A (leastL xs zs).length c] 26)).cell? ⟨w2.heap.size, 0, none⟩ = some (.slice A (leastL xs zs).length c) := by simp [go_sem]
  have u2 : w2.heap.size < (w2.alloc (.cells #[.slice A (leastL xs zs).length c] 26)).heap.size := by simp
  generalize hg3 : w2.alloc (.cells #[.slice A (leastL xs zs).length c] 26) = w3 at *
  generalize hgg : w2.heap.size = g at *
  clear hg3 hgg hrd hfr hb hw3 p1 p2 p3 HC
  go_wp2
  go_loopg [8] xs.length (fun gk i wr => ∃ t : Nat, t ≤ xs.length ∧ xs.length - t ≤ gk ∧ i = .int .i64 t ∧ Aside (Below w3.heap.size w3 wr) ∧ Aside (∀ j, j < t → failAt xs ys (leastL xs zs) j = false))
  case atStart => exact ⟨0, Nat.zero_le _, by omega, rfl, Below.refl _ _, fun j hj => absurd hj (Nat.not_lt_zero _)⟩
  case round =>
    obtain ⟨t, ht, hgk, rfl, hb, hA⟩ := hrel
    have hK' := hK3.ext hb.out
    have p1 := hK'.p1
    have p2 := hK'.p2
    have p4 := (hb.out.cell (p := ⟨g, 0, none⟩) u2).trans u1
    have l4 := Nat.lt_of_lt_of_le u2 hb.out.size
    by_cases hlt : t < xs.length
    · have hltz : (t : Int) < (xs.length : Int) := by omega
      have hlty : (t : Int) < (ys.length : Int) := by have := H3.out.1; omega
      have hltl : (t : Int) < ((leastL xs zs).length : Int) := by rw [leastL_length]; exact hltz
      have hlt2 := hK'.lt
      obtain ⟨b1, o1, rfl, lb1, g1⟩ := hK'.r1 (by omega)
      obtain ⟨b2, o2, rfl, lb2, g2⟩ := hK'.r2 (by have := H3.out.1; omega)
      obtain ⟨b3, o3, rfl, lb3, g3⟩ := (hL.ext hb.out) (by rw [leastL_length]; omega)
      have k1 := g1 t hlt
      have k2 := g2 t (by have := H3.out.1; omega)
      have k3 := g3 t (by rw [leastL_length]; exact hlt)
      have l1 : w.heap.size < wr.heap.size := by omega
      have l2 : w.heap.size + 1 < wr.heap.size := by omega
      have HK' := Lib.hid hK'
      have HA := Lib.hid (And.intro hA.out hb.out)
      have hf : failAt xs ys (leastL xs zs) t = (decide (nth xs t < nth ys t) || decide (nth ys t < nth (leastL xs zs) t)) := rfl
      clear g1 g2 g3 hK' hb hA hK3 hL u1 u2
      generalize hq : nth (leastL xs zs) t = q at *
      have HQ := Lib.hid hq
      clear hq
      by_cases hc1 : nth xs t < nth ys t
      · have HFb := Lib.hid (show failAt xs ys (leastL xs zs) t = true by rw [hf, decide_eq_true hc1]; rfl)
        clear hf
        go_wp2
        refine wp_region_ext (by kernel_rfl) (by kernel_rfl) ?_
        intro ι _ X hX hC
        have rX := fun k => (bcell (hX k)).1
        repeat (first | go_big_quiet_skip | (go_big_quiet_want; go_big_quiet_op; first | go_big_quiet_on | (apply Exists.intro; refine ⟨fun _ => ?_, ?_⟩; (focus (fail)); go_big_quiet_on)))
        refine wpQuiet_nil ?_
        intro w1 hb1
        clear rX hX hC
        have hK3 := HK'.out.ext hb1
        obtain ⟨z0, z1, z2, zf⟩ := three_cells hK3.row
        have f0 := zf 0
        have f1 := zf 1
        have f2 := zf 2
        have HS := Lib.hid (And.intro (three_set hK3.row (.int .i64 t) (.bool false) (.int .i64 0)) (And.intro hK3.bl (served_hit hlt HFb.out HA.out.1)))
        clear hK3 hb1 zf
        go_wp2
        obtain ⟨⟨q0, q1, q2⟩, hbl, e1, e2⟩ := HS.out
        refine bodyPost_ret (v := .agg #[.int .i64 t, .bool false, .int .i64 0]) (by simp [results, Try.results99, go_sem, q0, q1, q2]) rfl ⟨by rw [e1, e2], ?_⟩
        exact ((hbl.setCell (by show w.heap.size ≤ w.heap.size + 1 + 1 + 1; omega) _).setCell (by show w.heap.size ≤ w.heap.size + 1 + 1 + 1; omega) _).setCell (by show w.heap.size ≤ w.heap.size + 1 + 1 + 1; omega) _
      · by_cases hc2 : nth ys t < q
        · have HFb := Lib.hid (show failAt xs ys (leastL xs zs) t = true by rw [hf, decide_eq_true hc2, Bool.or_true])
          clear hf
          go_wp2
          refine wp_region_ext (by kernel_rfl) (by kernel_rfl) ?_
          intro ι _ X hX hC
          have rX := fun k => (bcell (hX k)).1
          have hd1 : ¬ nth xs t < nth ys t := by omega
          repeat (first | go_big_quiet_skip | (go_big_quiet_want; go_big_quiet_op; first | go_big_quiet_on | (apply Exists.intro; refine ⟨fun _ => ?_, ?_⟩; (focus (fail)); go_big_quiet_on)))
          refine wpQuiet_nil ?_
          intro w1 hb1
          clear rX hX hC
          have hK3 := HK'.out.ext hb1
          obtain ⟨z0, z1, z2, zf⟩ := three_cells hK3.row
          have f0 := zf 0
          have f1 := zf 1
          have f2 := zf 2
          have HS := Lib.hid (And.intro (three_set hK3.row (.int .i64 t) (.bool false) (.int .i64 0)) (And.intro hK3.bl (served_hit hlt HFb.out HA.out.1)))
          clear hK3 hb1 zf
          go_wp2
          obtain ⟨⟨q0, q1, q2⟩, hbl, e1, e2⟩ := HS.out
          refine bodyPost_ret (v := .agg #[.int .i64 t, .bool false, .int .i64 0]) (by simp [results, Try.results99, go_sem, q0, q1, q2]) rfl ⟨by rw [e1, e2], ?_⟩
          exact ((hbl.setCell (by show w.heap.size ≤ w.heap.size + 1 + 1 + 1; omega) _).setCell (by show w.heap.size ≤ w.heap.size + 1 + 1 + 1; omega) _).setCell (by show w.heap.size ≤ w.heap.size + 1 + 1 + 1; omega) _
        · have HFb := Lib.hid (show failAt xs ys (leastL xs zs) t = false by rw [hf, decide_eq_false hc1, decide_eq_false hc2]; rfl)
          clear hf
          go_wp2
          refine wp_region_ext (by kernel_rfl) (by kernel_rfl) ?_
          intro ι _ X hX hC
          have rX := fun k => (bcell (hX k)).1
          have hd1 : ¬ nth xs t < nth ys t := by omega
          repeat (first | go_big_quiet_skip | (go_big_quiet_want; go_big_quiet_op; first | go_big_quiet_on | (apply Exists.intro; refine ⟨fun _ => ?_, ?_⟩; (focus (fail)); go_big_quiet_on)))
          refine wpQuiet_nil ?_
          intro w1 hb1
          clear rX hX hC
          have HB := Lib.hid (HA.out.2.trans (hb1.mono HA.out.2.size))
          clear hb1
          go_wp2
          go_roundg (xs.length - (t + 1))
          case measure => omega
          case rel => exact ⟨t + 1, by omega, by omega, by go_num, HB.out, (show Aside _ from fun j hj => by
            by_cases e : j = t
            · subst e; exact HFb.out
            · exact HA.out.1 j (by omega))⟩
    · have hltz : ¬ (t : Int) < (xs.length : Int) := by omega
      obtain rfl : t = xs.length := by omega
      obtain ⟨z0, z1, z2, zf⟩ := three_cells hK'.row
      have f0 := zf 0
      have f1 := zf 1
      have f2 := zf 2
      have HS := Lib.hid (And.intro (three_set hK'.row (.int .i64 0) (.bool true) (.int .i64 0)) (And.intro hK'.bl (served_miss hA.out)))
      clear hK' hb hA zf
      go_wp2
      obtain ⟨⟨q0, q1, q2⟩, hbl, e1, e2⟩ := HS.out
      refine bodyPost_ret (v := .agg #[.int .i64 0, .bool true, .int .i64 0]) (by simp [results, Try.results99, go_sem, q0, q1, q2]) rfl ⟨by rw [e1, e2], ?_⟩
      exact ((hbl.setCell (by show w.heap.size ≤ w.heap.size + 1 + 1 + 1; omega) _).setCell (by show w.heap.size ≤ w.heap.size + 1 + 1 + 1; omega) _).setCell (by show w.heap.size ≤ w.heap.size + 1 + 1 + 1; omega) _
end Go.Proofs.Ytknkneccnhgjmaa
