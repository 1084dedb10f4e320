/- Walks: the reference's obeys. -/
import Derived.Test.YtknkneccnhgjmaaD5
namespace Go.Proofs.Ytknkneccnhgjmaa
open Go.RowKit Go.Shelf

theorem four_cells {w : World} {g : Nat} {v0 v1 v2 v3 : Value} {ty : TypeId} (h : w.heap[g]? = some (.cells #[v0, v1, v2, v3] ty (0, 0))) :
    w.cell? ⟨g, 0, none⟩ = some v0 ∧ w.cell? ⟨g, 1, none⟩ = some v1 ∧ w.cell? ⟨g, 2, none⟩ = some v2 ∧ w.cell? ⟨g, 3, none⟩ = some v3 ∧ (∀ i, w.frozen? ⟨g, i, none⟩ = false) :=
  ⟨by rw [cell_of_row w g 0 _ _ _ h]; rfl, by rw [cell_of_row w g 1 _ _ _ h]; rfl, by rw [cell_of_row w g 2 _ _ _ h]; rfl, by rw [cell_of_row w g 3 _ _ _ h]; rfl, fun i => frozen_of_row w g i _ _ h⟩
theorem cell_ne {g i j : Nat} (h : i ≠ j) (w : World) (v : Value) : (w.setCell ⟨g, i, none⟩ v).cell? ⟨g, j, none⟩ = w.cell? ⟨g, j, none⟩ := World.cell?_setCell_other w ⟨g, i, none⟩ ⟨g, j, none⟩ v (fun e => h (by injection e))
theorem four_set {w : World} {g : Nat} {v0 v1 v2 v3 : Value} {ty : TypeId} (h : w.heap[g]? = some (.cells #[v0, v1, v2, v3] ty (0, 0))) (a b c d : Value) :
    ((((w.setCell ⟨g, 0, none⟩ a).setCell ⟨g, 1, none⟩ b).setCell ⟨g, 2, none⟩ c).setCell ⟨g, 3, none⟩ d).cell? ⟨g, 0, none⟩ = some a ∧
    ((((w.setCell ⟨g, 0, none⟩ a).setCell ⟨g, 1, none⟩ b).setCell ⟨g, 2, none⟩ c).setCell ⟨g, 3, none⟩ d).cell? ⟨g, 1, none⟩ = some b ∧
    ((((w.setCell ⟨g, 0, none⟩ a).setCell ⟨g, 1, none⟩ b).setCell ⟨g, 2, none⟩ c).setCell ⟨g, 3, none⟩ d).cell? ⟨g, 2, none⟩ = some c ∧
    ((((w.setCell ⟨g, 0, none⟩ a).setCell ⟨g, 1, none⟩ b).setCell ⟨g, 2, none⟩ c).setCell ⟨g, 3, none⟩ d).cell? ⟨g, 3, none⟩ = some d := by
  obtain ⟨h0, h1, h2, h3, _⟩ := four_cells h
  refine ⟨?_, ?_, ?_, ?_⟩
  · rw [cell_ne (by omega), cell_ne (by omega), cell_ne (by omega)]; exact World.cell?_setCell_same' _ _ _ (by rw [h0]; rfl)
  · rw [cell_ne (by omega), cell_ne (by omega)]; exact World.cell?_setCell_same' _ _ _ (by rw [cell_ne (by omega), h1]; rfl)
  · rw [cell_ne (by omega)]; exact World.cell?_setCell_same' _ _ _ (by rw [cell_ne (by omega), cell_ne (by omega), h2]; rfl)
  · exact World.cell?_setCell_same' _ _ _ (by rw [cell_ne (by omega), cell_ne (by omega), cell_ne (by omega), h3]; rfl)

/-- Two boxed curves, and a result of four cells. -/
def w2q (w : World) (A1 A2 : Option Addr) (n1 c1 n2 c2 : Nat) : World := (w2b w A1 A2 n1 c1 n2 c2).alloc (.cells #[.int .i64 0, .int .i64 0, .bool false, .int .i64 0] 77)
structure In2q (w W : World) (A1 A2 : Option Addr) (c1 c2 : Nat) (xs ys : List Int) : Prop where
  p1 : W.cell? ⟨w.heap.size, 0, none⟩ = some (.slice A1 xs.length c1)
  p2 : W.cell? ⟨w.heap.size + 1, 0, none⟩ = some (.slice A2 ys.length c2)
  row : W.heap[w.heap.size + 1 + 1]? = some (.cells #[.int .i64 0, .int .i64 0, .bool false, .int .i64 0] 77 (0, 0))
  r1 : Rd W W.heap.size A1 xs
  r2 : Rd W W.heap.size A2 ys
  bl : Below w.heap.size w W
  lt : w.heap.size + 1 + 1 < W.heap.size
theorem In2q.ext {w w1 w2 : World} {A1 A2 : Option Addr} {c1 c2 : Nat} {xs ys : List Int} (h : In2q w w1 A1 A2 c1 c2 xs ys) (hb : Below w1.heap.size w1 w2) : In2q w w2 A1 A2 c1 c2 xs ys := by
  have hlt := h.lt
  exact ⟨(hb.cell (p := ⟨w.heap.size, 0, none⟩) (show w.heap.size < _ by omega)).trans h.p1, (hb.cell (p := ⟨w.heap.size + 1, 0, none⟩) (show w.heap.size + 1 < _ by omega)).trans h.p2, (hb.block _ hlt).trans h.row,
    h.r1.ext hb, h.r2.ext hb, h.bl.trans (hb.mono h.bl.size), Nat.lt_of_lt_of_le hlt hb.size⟩
theorem w2q_known {w : World} {A1 A2 : Option Addr} {c1 c2 : Nat} {xs ys : List Int} (r1 : Rd w w.heap.size A1 xs) (r2 : Rd w w.heap.size A2 ys) : In2q w (w2q w A1 A2 xs.length c1 ys.length c2) A1 A2 c1 c2 xs ys := by
  have hs2 := w2b_size w A1 A2 xs.length c1 ys.length c2
  have hb : Below w.heap.size w (w2q w A1 A2 xs.length c1 ys.length c2) := (w2b_below w A1 A2 xs.length c1 ys.length c2).alloc (by rw [hs2]; omega) _
  have hq : (w2q w A1 A2 xs.length c1 ys.length c2).heap[w.heap.size + 1 + 1]? = some (.cells #[.int .i64 0, .int .i64 0, .bool false, .int .i64 0] 77 (0, 0)) := by
    have := heap_alloc_new (w2b w A1 A2 xs.length c1 ys.length c2) (.cells #[.int .i64 0, .int .i64 0, .bool false, .int .i64 0] 77)
    rwa [hs2] at this
  exact ⟨by simp [w2q, w2b, go_sem], by simp [w2q, w2b, go_sem], hq, r1.ext hb, r2.ext hb, hb, by simp [w2q, w2b]⟩

set_option maxRecDepth 100000 in
set_option maxHeartbeats 1600000 in
theorem robeys_any (A1 A2 : Option Addr) (c1 c2 : Nat) (xs ys : List Int) (w : World) (r1 : Rd w w.heap.size A1 xs) (r2 : Rd w w.heap.size A2 ys) (h1 : 1 ≤ xs.length) (h2 : xs.length ≤ 1000) (h3 : ys.length = xs.length) (sx : Small xs) (h0 : 0 ≤ nth ys 0) :
    Calls Try.prog 98 #[.agg #[.slice A1 xs.length c1], .agg #[.slice A2 ys.length c2]] w fun e w' => e = .returned (.agg #[.int .i64 (brkLo (brk xs ys)), .int .i64 (brkHi (brk xs ys)), .bool (brk xs ys).isNone, .int .i64 0]) ∧ Below w.heap.size w w' := by
  have hK := w2q_known (c1 := c1) (c2 := c2) r1 r2
  have H3 := Lib.hid h3
  clear r1 r2 h3
  go_enter Try.func98, Try.ntmps98
  go_upto_region 1 with fail
  change Code.wp _ _ _ _ (w2q w A1 A2 xs.length c1 ys.length c2)
  generalize w2q w A1 A2 xs.length c1 ys.length c2 = w1 at *
  go_wp2
  go_loopg [5] xs.length (fun gk i wr => ∃ t : Nat, t ≤ xs.length ∧ xs.length - t ≤ gk ∧ i = .int .i64 t ∧ Aside (Below w1.heap.size w1 wr) ∧ Aside (∀ t', t' < t → ∀ s', s' < t' → brkAt xs ys t' s' = false))
  case atStart => exact ⟨0, Nat.zero_le _, by omega, rfl, Below.refl _ _, fun j hj => absurd hj (Nat.not_lt_zero _)⟩
  case round =>
    obtain ⟨t, ht, hgk, rfl, hb, hA⟩ := hrel
    have hK' := hK.ext hb.out
    have p1 := hK'.p1
    have p2 := hK'.p2
    by_cases hlt : t < xs.length
    · have hltz : (t : Int) < (xs.length : Int) := by omega
      have HK := Lib.hid hK'
      have HA := Lib.hid (And.intro hA.out hb.out)
      clear hK' hb hA
      go_wp2
      go_loopg [6] (t + 1) (fun gm i wq => ∃ s : Nat, s ≤ t + 1 ∧ t + 1 - s ≤ gm ∧ i = .int .i64 s ∧ Aside (Below wr.heap.size wr wq) ∧ Aside (∀ s', s' < s → s' < t → brkAt xs ys t s' = false))
      case atStart => exact ⟨0, Nat.zero_le _, by omega, rfl, Below.refl _ _, fun j hj => absurd hj (Nat.not_lt_zero _)⟩
      case round =>
        obtain ⟨s, hs, hgm, rfl, hb, hC⟩ := hrel
        have hK2 := HK.out.ext hb.out
        by_cases hst : s < t + 1
        · have hsz : (s : Int) ≤ (t : Int) := by omega
          have hszl : (s : Int) < (xs.length : Int) := by omega
          have hd0 : (0 : Int) ≤ (t : Int) - (s : Int) := by omega
          have hd1 : (t : Int) - (s : Int) < (ys.length : Int) := by have := H3.out; omega
          have hd2 : ((t : Int) - (s : Int)).toNat = t - s := by omega
          have p1 := hK2.p1
          have p2 := hK2.p2
          have hlt2 := hK2.lt
          obtain ⟨b1, o1, rfl, lb1, g1⟩ := hK2.r1 (by omega)
          obtain ⟨b2, o2, rfl, lb2, g2⟩ := hK2.r2 (by have := H3.out; omega)
          have k1 := g1 t hlt
          have k2 := g1 s (by omega)
          have k3 := g2 (t - s) (by have := H3.out; omega)
          obtain ⟨n1, n2⟩ := sx t
          obtain ⟨n3, n4⟩ := sx s
          have l1 : w.heap.size < wr.heap.size := by omega
          have l2 : w.heap.size + 1 < wr.heap.size := by omega
          have HK2 := Lib.hid hK2
          have HC := Lib.hid (And.intro hC.out hb.out)
          clear g1 g2 sx hK2 hb hC
          by_cases hcm : nth ys (t - s) < nth xs t - nth xs s
          · have hst2 : s < t := by
              rcases Nat.lt_or_ge s t with h | h
              · exact h
              · obtain rfl : s = t := by omega
                rw [Nat.sub_self] at hcm
                omega
            have hfin : brk xs ys = some (s, t) := brk_some hlt hst2 (by simp [brkAt, hcm]) HA.out.1 (fun j hj => HC.out.1 j hj (by omega))
            have HF := Lib.hid hfin
            clear hfin
            go_wp2
            refine wp_region_ext (by kernel_rfl) (by kernel_rfl) ?_
            intro ι _ X hX hC
            have rX := fun k => (bcell (hX k)).1
            repeat (first | go_big_quiet_skip | (go_big_quiet_want; go_big_quiet_op; first | go_big_quiet_on | (apply Exists.intro; refine ⟨fun _ => ?_, ?_⟩; (focus (fail)); go_big_quiet_on)))
            refine wpQuiet_nil ?_
            intro w1 hb1
            clear rX hX hC
            have hK3 := HK2.out.ext hb1
            obtain ⟨z0, z1, z2, z3, zf⟩ := four_cells hK3.row
            have f0 := zf 0
            have f1 := zf 1
            have f2 := zf 2
            have f3 := zf 3
            have HS := Lib.hid (And.intro (four_set hK3.row (.int .i64 s) (.int .i64 t) (.bool false) (.int .i64 0)) hK3.bl)
            clear hK3 hb1 zf
            go_wp2
            obtain ⟨⟨q0, q1, q2, q3⟩, hbl⟩ := HS.out
            refine bodyPost_ret (v := .agg #[.int .i64 s, .int .i64 t, .bool false, .int .i64 0]) (by simp [results, Try.results98, go_sem, q0, q1, q2, q3]) rfl ⟨by rw [HF.out]; rfl, ?_⟩
            exact (((hbl.setCell (by show w.heap.size ≤ w.heap.size + 1 + 1; omega) _).setCell (by show w.heap.size ≤ w.heap.size + 1 + 1; omega) _).setCell (by show w.heap.size ≤ w.heap.size + 1 + 1; omega) _).setCell (by show w.heap.size ≤ w.heap.size + 1 + 1; omega) _
          · go_wp2
            refine wp_region_ext (by kernel_rfl) (by kernel_rfl) ?_
            intro ι _ X hX hC
            have rX := fun k => (bcell (hX k)).1
            repeat (first | go_big_quiet_skip | (go_big_quiet_want; go_big_quiet_op; first | go_big_quiet_on | (apply Exists.intro; refine ⟨fun _ => ?_, ?_⟩; (focus (fail)); go_big_quiet_on)))
            refine wpQuiet_nil ?_
            intro w1 hb1
            clear rX hX hC
            have HB := Lib.hid (HC.out.2.trans (hb1.mono HC.out.2.size))
            clear hb1
            go_wp2
            go_roundg (t + 1 - (s + 1))
            case measure => omega
            case rel => exact ⟨s + 1, by omega, by omega, by go_num, HB.out, (show Aside _ from fun j hj hj2 => by
              by_cases e : j = s
              · subst e; unfold brkAt; rw [decide_eq_false_iff_not]; omega
              · exact HC.out.1 j (by omega) hj2)⟩
        · have hsz : ¬ (s : Int) ≤ (t : Int) := by omega
          obtain rfl : s = t + 1 := by omega
          go_wp2
          have HC := Lib.hid (And.intro hC.out (HA.out.2.trans (hb.out.mono HA.out.2.size)))
          clear hC hb hK2
          go_roundg (xs.length - (t + 1))
          case measure => omega
          case rel => exact ⟨t + 1, by omega, by omega, by go_num, HC.out.2, (show Aside _ from fun j hj s' hs' => by
            by_cases e : j = t
            · subst e; exact HC.out.1 s' (by omega) hs'
            · exact HA.out.1 j (by omega) s' hs')⟩
    · have hltz : ¬ (t : Int) < (xs.length : Int) := by omega
      obtain rfl : t = xs.length := by omega
      have hfin : brk xs ys = none := brk_none hA.out
      obtain ⟨z0, z1, z2, z3, zf⟩ := four_cells hK'.row
      have f0 := zf 0
      have f1 := zf 1
      have f2 := zf 2
      have f3 := zf 3
      have HS := Lib.hid (And.intro (four_set hK'.row (.int .i64 0) (.int .i64 0) (.bool true) (.int .i64 0)) (And.intro hK'.bl hfin))
      clear hK' hfin zf hA hb
      go_wp2
      obtain ⟨⟨q0, q1, q2, q3⟩, hbl, hfin⟩ := HS.out
      refine bodyPost_ret (v := .agg #[.int .i64 0, .int .i64 0, .bool true, .int .i64 0]) (by simp [results, Try.results98, go_sem, q0, q1, q2, q3]) rfl ⟨by rw [hfin]; rfl, ?_⟩
      exact (((hbl.setCell (by show w.heap.size ≤ w.heap.size + 1 + 1; omega) _).setCell (by show w.heap.size ≤ w.heap.size + 1 + 1; omega) _).setCell (by show w.heap.size ≤ w.heap.size + 1 + 1; omega) _).setCell (by show w.heap.size ≤ w.heap.size + 1 + 1; omega) _
end Go.Proofs.Ytknkneccnhgjmaa
