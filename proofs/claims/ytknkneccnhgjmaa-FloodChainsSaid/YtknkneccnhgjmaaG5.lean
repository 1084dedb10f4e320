/- Walk: the reference's closed. -/
import Derived.Test.YtknkneccnhgjmaaG1
import Derived.Deep.AppendLies
namespace Go.Proofs.Ytknkneccnhgjmaa
open Go.RowKit Go.Shelf

/-- A variable of the call's own, of type []int inside a struct, that is appended to; its first array lies ahead of it. -/
structure OutsC (w1 wr : World) (B G : Nat) (ov : Value) (xs : List Int) : Prop where
  bl : Below B w1 wr
  own : Own wr B ov xs
  ne : ov.ownBlock ≠ some G
  cell : wr.cell? ⟨G, 0, none⟩ = some ov
  fr : wr.frozen? ⟨G, 0, none⟩ = false
  lt : G < wr.heap.size
  le : B ≤ G

theorem OutsC.later {w1 wr w2 : World} {B G : Nat} {ov : Value} {xs : List Int} (h : OutsC w1 wr B G ov xs) (hb : Below wr.heap.size wr w2) : OutsC w1 w2 B G ov xs := by
  have hown : Own w2 B ov xs := by
    rcases h.own.2 with ⟨e, hn⟩ | ⟨g, cap, cur, e, hbg, hg, hrest⟩
    · exact ⟨h.own.1, .inl ⟨e, hn⟩⟩
    · exact ⟨h.own.1, .inr ⟨g, cap, cur, e, hbg, (hb.block g (Array.getElem?_eq_some_iff.1 hg).1).trans hg, hrest⟩⟩
  exact ⟨h.bl.trans (hb.mono (Nat.le_trans h.le (Nat.le_of_lt h.lt))), hown, h.ne, (hb.cell (p := ⟨G, 0, none⟩) h.lt).trans h.cell, (hb.frozen (p := ⟨G, 0, none⟩) h.lt).trans h.fr, Nat.lt_of_lt_of_le h.lt hb.size, h.le⟩

theorem own_setCell {w : World} {base : Nat} {v : Value} {xs : List Int} {p : Addr} (h : Own w base v xs) (hp : v.ownBlock ≠ some p.block) (u : Value) : Own (w.setCell p u) base v xs := by
  rcases h.2 with ⟨e, hn⟩ | ⟨g, cap, cur, e, hbg, hg, hrest⟩
  · exact ⟨h.1, .inl ⟨e, hn⟩⟩
  · refine ⟨h.1, .inr ⟨g, cap, cur, e, hbg, (heap_setCell_other _ _ _ _ (fun e2 => hp ?_)).trans hg, hrest⟩⟩
    rw [e]
    simp only [Value.ownBlock]
    rw [e2]

theorem OutsC.push {w1 wr W w2 : World} {B G : Nat} {ov nv : Value} {xs : List Int} {x : Int} (h : OutsC w1 wr B G ov xs) (hb : Below wr.heap.size wr W) (hg : W.grownBy w2 ov.ownBlock)
    (ho : w2.ownsRow B 3 1 nv (xs.length + 1) (xs.map (Value.int .i64) ++ [.int .i64 x])) (hv : nv.ownBlock = ov.ownBlock ∨ nv.ownBlock = some W.heap.size) : OutsC w1 (w2.setCell ⟨G, 0, none⟩ nv) B G nv (xs ++ [x]) := by
  have h1 : Below B wr W := hb.mono (Nat.le_trans h.le (Nat.le_of_lt h.lt))
  have hlt : G < W.heap.size := Nat.lt_of_lt_of_le h.lt hb.size
  have hne : ov.ownBlock ≠ some G := h.ne
  have hne2 : nv.ownBlock ≠ some G := by
    rcases hv with e | e
    · rw [e]; exact hne
    · rw [e]; intro e2; cases e2; omega
  have hc : w2.cell? ⟨G, 0, none⟩ = some ov := (hg.cell_far ⟨G, 0, none⟩ hlt (Ne.symm hne)).trans ((hb.cell (p := ⟨G, 0, none⟩) h.lt).trans h.cell)
  have hown : Own w2 B nv (xs ++ [x]) := by unfold Own; rw [List.length_append, List.map_append]; exact ho
  refine ⟨((h.bl.trans h1).grown hg (Nat.le_trans h.le (Nat.le_of_lt hlt)) (fun k e => own_block h.own e)).setCell (by exact h.le) nv, own_setCell hown hne2 _, hne2, World.cell?_setCell_same' _ _ _ (by rw [hc]; rfl), ?_, ?_, h.le⟩
  · have hf : W.frozen? ⟨G, 0, none⟩ = false := (hb.frozen (p := ⟨G, 0, none⟩) h.lt).trans h.fr
    rw [World.frozen?_setCell]
    exact (hg.frozen_far ⟨G, 0, none⟩ hlt (Ne.symm hne)).trans hf
  · simp only [World.size_setCell]; exact Nat.lt_of_lt_of_le hlt hg.size
theorem OutsC.appended {w1 wr W w2 : World} {B G : Nat} {ov : Value} {xs : List Int} (h : OutsC w1 wr B G ov xs) (hb : Below wr.heap.size wr W) (hg : W.grownBy w2 ov.ownBlock) :
    w2.cell? ⟨G, 0, none⟩ = some ov ∧ w2.frozen? ⟨G, 0, none⟩ = false := by
  have hlt : G < W.heap.size := Nat.lt_of_lt_of_le h.lt hb.size
  exact ⟨(hg.cell_far ⟨G, 0, none⟩ hlt (Ne.symm h.ne)).trans ((hb.cell (p := ⟨G, 0, none⟩) h.lt).trans h.cell), (hg.frozen_far ⟨G, 0, none⟩ hlt (Ne.symm h.ne)).trans ((hb.frozen (p := ⟨G, 0, none⟩) h.lt).trans h.fr)⟩
theorem OutsC.slice {w1 wr : World} {B G : Nat} {ov : Value} {xs : List Int} {n : Nat} (h : OutsC w1 wr B G ov xs) (hn : xs.length = n) : ∃ A c, ov = .slice A n c := by
  obtain ⟨A, c, hv, _, _⟩ := h.own.rd
  exact ⟨A, c, by rw [hv, hn]⟩
theorem OutsC.rd {w1 wr : World} {B G n c : Nat} {A : Option Addr} {xs : List Int} (h : OutsC w1 wr B G (.slice A n c) xs) : Rd wr wr.heap.size A xs ∧ Fresh B A := by
  obtain ⟨A', c', e, hrd, hfr⟩ := h.own.rd
  cases e
  exact ⟨hrd, hfr⟩
theorem OutsC.curve {w w1 wr : World} {B G R : Nat} {A : Option Addr} {c n : Nat} {xs : List Int} (h : OutsC w1 wr B G (.slice A n c) xs) (hn : n = xs.length) (hb : Below w.heap.size w w1) (hR : w.heap.size ≤ R) (hRB : R < B) :
    RCurve w xs (.returned (.agg #[.slice A n c])) (wr.setCell ⟨R, 0, none⟩ (.slice A n c)) := by
  subst hn
  obtain ⟨hrd, hfr⟩ := h.rd
  refine ⟨A, c, rfl, ?_, hfr.mono (by omega), (hb.trans (h.bl.mono (by omega))).setCell (by exact hR) _⟩
  rw [World.size_setCell]
  exact hrd.setCell (fun ad e => by have := hfr ad e; show ad.block ≠ R; omega) _

/-- The world of closed: a boxed curve, a result, the first array, the variable. -/
def w4c (w : World) (A1 : Option Addr) (n1 c1 : Nat) : World := (((w.alloc (.cells #[.slice A1 n1 c1] 26)).alloc (.cells #[.slice none 0 0] 26)).alloc (.cells #[.int .i64 0] 3)).alloc (.cells #[.slice (some ⟨w.heap.size + 1 + 1, 0, none⟩) 1 1] 26)
structure In4c (w w1 : World) (A1 : Option Addr) (c1 : Nat) (xs : List Int) : Prop where
  p1 : w1.cell? ⟨w.heap.size, 0, none⟩ = some (.slice A1 xs.length c1)
  p3 : w1.cell? ⟨w.heap.size + 1, 0, none⟩ = some (.slice none 0 0)
  p4 : w1.frozen? ⟨w.heap.size + 1, 0, none⟩ = false
  r1 : Rd w1 (w.heap.size + 1) A1 xs
  below : Below w.heap.size w w1
theorem In4c.ext {w w1 w2 : World} {A1 : Option Addr} {c1 : Nat} {xs : List Int} (h : In4c w w1 A1 c1 xs) (hb : Below (w.heap.size + 1 + 1) w1 w2) : In4c w w2 A1 c1 xs :=
  ⟨(hb.cell (p := ⟨w.heap.size, 0, none⟩) (show w.heap.size < _ by omega)).trans h.p1, (hb.cell (p := ⟨w.heap.size + 1, 0, none⟩) (show w.heap.size + 1 < _ by omega)).trans h.p3, (hb.frozen (p := ⟨w.heap.size + 1, 0, none⟩) (show w.heap.size + 1 < _ by omega)).trans h.p4,
    h.r1.below hb (by omega), h.below.trans (hb.mono (by omega))⟩
theorem w4c_known {w : World} {A1 : Option Addr} {c1 : Nat} {xs : List Int} (r1 : Rd w w.heap.size A1 xs) : In4c w (w4c w A1 xs.length c1) A1 c1 xs := by
  have hb : Below w.heap.size w (w4c w A1 xs.length c1) := ((((Below.refl _ w).alloc (Nat.le_refl _) _).alloc (by simp) _).alloc (by simp; omega) _).alloc (by simp; omega) _
  exact ⟨by simp [w4c, go_sem], by simp [w4c, go_sem], by simp [w4c, go_sem], (r1.below hb (Nat.le_refl _)).mono (by omega), hb⟩
theorem w4c_outs (w : World) (A1 : Option Addr) (n1 c1 : Nat) : OutsC (w4c w A1 n1 c1) (w4c w A1 n1 c1) (w.heap.size + 1 + 1) (w.heap.size + 1 + 1 + 1) (.slice (some ⟨w.heap.size + 1 + 1, 0, none⟩) 1 1) [0] := by
  have hs : (w4c w A1 n1 c1).heap.size = w.heap.size + 1 + 1 + 1 + 1 := by simp [w4c]
  refine ⟨Below.refl _ _, ⟨rfl, .inr ⟨w.heap.size + 1 + 1, 1, #[.int .i64 0], rfl, Nat.le_refl _, ?_, Nat.le_refl _, by unfold maxLen; omega, rfl, rfl⟩⟩, ?_, by simp [w4c, go_sem], by simp [w4c, go_sem], by omega, by omega⟩
  · have h1 := heap_alloc_new ((w.alloc (.cells #[.slice A1 n1 c1] 26)).alloc (.cells #[.slice none 0 0] 26)) (.cells #[.int .i64 0] 3)
    simp only [World.size_alloc] at h1
    exact (((Below.refl _ _).alloc (Nat.le_refl _) _).block _ (by simp)).trans h1
  · simp only [Value.ownBlock, ne_eq, Option.some.injEq]; omega

theorem closTo_closedL (L : List Int) : closTo L L.length = closedL L := nth_ext (by rw [closTo_length, closedL_length]) fun i hi => by
  rw [closTo_length] at hi
  rw [nth_closTo L hi, nth_closedL hi]
theorem minPart_min' (L : List Int) (o : Nat → Int) (t k : Nat) : (minPart L o t (k + 1)).2 = min (minPart L o t k).2 (o (t - (k + 1)) + nth L (k + 1)) := by
  show (if o (t - (k + 1)) + nth L (k + 1) < (minPart L o t k).2 then (k + 1, o (t - (k + 1)) + nth L (k + 1)) else minPart L o t k).2 = _
  split
  · simp only; omega
  · omega
theorem closTo_succ (L : List Int) {t : Nat} (h : 0 < t) : closTo L (t + 1) = closTo L t ++ [(minPart L (closAt L) t (t - 1)).2] := by
  show closTo L t ++ [if t = 0 then 0 else (minPart L (nth (closTo L t)) t (t - 1)).2] = _
  rw [if_neg (by omega), minPart_congr (t - 1) (by omega) (fun j hj => nth_closTo L hj)]

set_option maxRecDepth 100000 in
set_option maxHeartbeats 3200000 in
theorem rclosed_any (A1 : Option Addr) (c1 : Nat) (L : List Int) (w : World) (r1 : Rd w w.heap.size A1 L) (v : Valid L) :
    Calls Try.prog 95 #[.agg #[.slice A1 L.length c1]] w fun e w' => RCurve w (closedL L) e w' := by
  obtain ⟨i0, hi0, hz0, hz1, hz2⟩ := info_parts info3
  have hK := w4c_known (c1 := c1) r1
  have hO := w4c_outs w A1 L.length c1
  have HV := Lib.hid v
  have h121 := v.2.1
  have h1 := v.1
  clear r1 v
  go_enter Try.func95, Try.ntmps95
  go_upto_region 2 with fail
  change Code.wp _ _ _ _ (w4c w A1 L.length c1)
  generalize w4c w A1 L.length c1 = w1 at *
  go_wp2
  go_loopg [4] L.length (fun gg s wr => ∃ t : Nat, 1 ≤ t ∧ t ≤ L.length ∧ L.length - t ≤ gg ∧ s = .int .i64 t ∧ ∃ A c, OutsC w1 wr (w.heap.size + 1 + 1) (w.heap.size + 1 + 1 + 1) (.slice A t c) (closTo L t))
  case atStart => exact ⟨1, by omega, by omega, by omega, rfl, _, _, hO⟩
  case round =>
    obtain ⟨t, ht1, ht, hg, rfl, A, c, hO'⟩ := hrel
    have hK' := hK.ext hO'.bl
    have p1 := hK'.p1
    by_cases hlt : t < L.length
    · have hltz : (t : Int) < (L.length : Int) := by omega
      obtain ⟨b1, o1, rfl, lb1, hc1⟩ := hK'.r1 (by omega)
      have k1 := hc1 t hlt
      have HO := Lib.hid hO'
      clear hO' hK' hc1
      go_wp2
      clear p1 k1
      obtain ⟨wp, hwp⟩ : ∃ wp : World, wp = wr := ⟨_, rfl⟩
      rw [← hwp] at HO ⊢
      clear hwp
      go_loopg [5, 6] L.length (fun gg2 n u wi => ∃ k : Nat, k + 1 ≤ t ∧ t - k ≤ gg2 ∧ u = .int .i64 (k + 1 : Nat) ∧ n = .int .i64 (minPart L (closAt L) t k).2 ∧ Aside (OutsC w1 wi (w.heap.size + 1 + 1) (w.heap.size + 1 + 1 + 1) (.slice A t c) (closTo L t)))
      case atStart => exact ⟨0, by omega, by omega, rfl, rfl, HO.out⟩
      case round =>
        obtain ⟨k, hk, hgk, rfl, rfl, hO2⟩ := hrel
        have hO2' := hO2.out
        clear hO2
        have hK' := hK.ext hO2'.bl
        have p1 := hK'.p1
        have l4 := hO2'.lt
        have q4 := hO2'.cell
        by_cases hkt : k + 1 < t
        · have hkz : ((k + 1 : Nat) : Int) < (t : Int) := by omega
          have hkz2 : ((k + 1 : Nat) : Int) < (L.length : Int) := by omega
          have hkz0 : (0 : Int) ≤ ((k + 1 : Nat) : Int) := by omega
          have hkz3 : (0 : Int) ≤ (t : Int) - ((k + 1 : Nat) : Int) := by omega
          have hkz4 : (t : Int) - ((k + 1 : Nat) : Int) < (t : Int) := by omega
          obtain ⟨b1', o1', e1, lb1, hc1⟩ := hK'.r1 (by omega)
          simp only [Option.some.injEq, Addr.mk.injEq, and_true] at e1
          obtain ⟨rfl, rfl⟩ := e1
          obtain ⟨hrd, hfr⟩ := hO2'.rd
          obtain ⟨b2, o2, rfl, lb2, hc2⟩ := hrd (by rw [closTo_length]; omega)
          have k1 := hc1 (k + 1) (by omega)
          have k2 := hc2 (t - (k + 1)) (by rw [closTo_length]; omega)
          rw [nth_closTo L (show t - (k + 1) < t by omega)] at k2
          obtain ⟨n1, n2⟩ := HV.out.bd (k + 1)
          obtain ⟨n3, n4⟩ := closAt_bd (L := L) (fun i => HV.out.bd i) (t - (k + 1))
          have hs := minPart_min' L (closAt L) t k
          have HO2 := Lib.hid hO2'
          clear hc1 hc2 hO2' hK' hrd hfr
          generalize closAt L (t - (k + 1)) = V1 at *
          generalize nth L (k + 1) = V2 at *
          generalize (minPart L (closAt L) t k).2 = M at *
          have HS := Lib.hid hs
          clear hs
          obtain ⟨s, hs⟩ : ∃ s : Nat, s = k + 1 := ⟨_, rfl⟩
          rw [← hs] at hkz hkz2 hkz3 hkz4 hkz0 k1 k2 ⊢
          have hsr := Lib.hid hs
          clear hs
          have e1 : ((t : Int) - (s : Int)).toNat = t - s := by omega
          have hw : IntKind.i64.wrap (V1 + V2) = V1 + V2 := by rw [IntKind.wrap_i64]; omega
          have hw2 : IntKind.i64.wrap ((t : Int) - (s : Int)) = (t : Int) - (s : Int) := by rw [IntKind.wrap_i64]; omega
          have l1 : w.heap.size < wr.heap.size := by omega
          have l5 : b1 < wr.heap.size := by omega
          go_wp2
          refine wp_region_ext (by kernel_rfl) (by kernel_rfl) ?_
          intro ι _ X hX hC
          have rX := fun k => (bcell (hX k)).1
          repeat (first | go_big_quiet_skip | (go_big_quiet_want; go_big_quiet_op; first | go_big_quiet_on | (apply Exists.intro; refine ⟨fun _ => ?_, ?_⟩; (focus (fail)); go_big_quiet_on)))
          refine wpQuiet_nil ?_
          intro w1 hb1
          clear rX hX hC
          have HB := Lib.hid (HO2.out.later hb1)
          clear hw hw2
          go_wp2
          all_goals
            go_roundg (t - (k + 1))
            case measure => omega
            case rel => exact ⟨k + 1, by have := hsr.out; omega, Nat.le_refl _, int_eq (by have := hsr.out; omega), int_eq (by rw [HS.out]; omega), HB.out⟩
        · have hkz : ¬ ((k + 1 : Nat) : Int) < (t : Int) := by omega
          obtain rfl : t = k + 1 := by omega
          have hcs := closTo_succ L (t := k + 1) (by omega)
          rw [show k + 1 - 1 = k by omega] at hcs
          have hown := hO2'.own
          have HO2 := Lib.hid hO2'
          clear hO2' hK'
          unfold Own at hown
          rw [closTo_length] at hown
          generalize (minPart L (closAt L) (k + 1) k).2 = X at *
          have HXX := Lib.hid hcs
          clear hcs
          obtain ⟨t, hs⟩ : ∃ t : Nat, t = k + 1 := ⟨_, rfl⟩
          rw [← hs] at hkz HO2 HXX hown hlt ht ht1 q4 ⊢
          have hsr := Lib.hid hs
          clear hs
          have hBw : Below wr.heap.size wr (wr.alloc (.cells #[.int .i64 X] 3)) := (Below.refl _ wr).alloc (Nat.le_refl _) _
          have hnew := World.news_of_block (cs := #[.int .i64 X]) (t := 3) (fr := (0, 0)) (heap_alloc_new wr (.cells #[.int .i64 X] 3))
          have hown2 := hown.alloc (.cells #[.int .i64 X] 3)
          have hsz : w.heap.size + 1 + 1 ≤ (wr.alloc (.cells #[.int .i64 X] 3)).heap.size := by simp; omega
          have HB := Lib.hid (And.intro hBw (And.intro hnew (And.intro hown2 hsz)))
          clear hBw hnew hown2 hsz hown
          go_wp2_with (at_builtin; refine wpList_append_own_at _ rfl _ _ 24 rfl (w.heap.size + 1 + 1) 3 i0 (.int .i64 0) 1 8 Try.underlying24 hi0 hz0 hz1 hz2 rfl (by decide) (.slice A t c) t _ rfl HB.out.2.2.1 ⟨wr.heap.size, 0, none⟩ 1 1 [.int .i64 X] rfl (by simp) HB.out.2.1 (by simp [Value.oneCell']) (by unfold maxLen; omega) (by omega) HB.out.2.2.2 ?_; intro v' w9 hown1 hgrow _ hvb; have hpush := HO2.out.push (nv := v') (x := X) HB.out.1 hgrow (by rw [closTo_length]; exact hown1) hvb; obtain ⟨c2G, f2G⟩ := HO2.out.appended HB.out.1 hgrow; obtain ⟨A', c', rfl⟩ := hpush.slice (n := t + 1) (by simp [closTo_length]); have HP := Lib.hid hpush; clear hpush hown1 hgrow hvb)
          go_roundg (L.length - (t + 1))
          case measure => have := hsr.out; omega
          case rel => exact ⟨t + 1, by omega, by omega, by omega, by go_num, _, _, by rw [HXX.out]; exact HP.out⟩
    · have hltz : ¬ (t : Int) < (L.length : Int) := by omega
      obtain rfl : t = L.length := by omega
      rw [closTo_closedL] at hO'
      have HF := Lib.hid (hO'.curve (closedL_length L).symm hK.below (R := w.heap.size + 1) (by omega) (by omega))
      have p3 := hK'.p3
      have p4 := hK'.p4
      have q4 := hO'.cell
      have q3 := World.cell?_setCell_same' wr ⟨w.heap.size + 1, 0, none⟩ (.slice A L.length c) (by rw [p3]; rfl)
      have Q3 := Lib.hid q3
      clear hO' hK' q3
      go_wp2
      have q3 := Q3.out
      exact bodyPost_ret (v := .agg #[.slice A L.length c]) (by simp [results, Try.results95, go_sem, q3]) rfl HF.out
end Go.Proofs.Ytknkneccnhgjmaa
