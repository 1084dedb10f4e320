/- Walks: Backlog. -/
import Derived.Test.YtknkneccnhgjmaaC6
namespace Go.Proofs.Ytknkneccnhgjmaa
open Go.RowKit Go.Shelf

/-- The first place at which the greatest of k numbers stands, and it, but at least 0. -/
def topI (h : Nat → Int) : Nat → Nat × Int
  | 0 => (0, 0)
  | k + 1 => if (topI h k).2 < h k then (k, h k) else topI h k
theorem topI_bd (h : Nat → Int) (M : Int) (h0 : 0 ≤ M) (k : Nat) (hh : ∀ i, i < k → h i ≤ M) : 0 ≤ (topI h k).2 ∧ (topI h k).2 ≤ M ∧ (topI h k).1 ≤ k := by
  induction k with
  | zero => exact ⟨Int.le_refl _, h0, Nat.le_refl _⟩
  | succ k ih =>
    have := ih fun i hi => hh i (by omega)
    have := hh k (by omega)
    unfold topI
    split
    · exact ⟨by simp only; omega, by simp only; omega, by simp only; omega⟩
    · exact ⟨by omega, by omega, by omega⟩

/-- Two boxed curves and a surge's cells. -/
def w2g (w : World) (A1 A2 : Option Addr) (n1 c1 n2 c2 : Nat) : World := (w2b w A1 A2 n1 c1 n2 c2).alloc (.cells #[.slice none 0 0, .slice none 0 0, .int .i64 0] 45)
theorem w2g_below (w : World) (A1 A2 : Option Addr) (n1 c1 n2 c2 : Nat) : Below w.heap.size w (w2g w A1 A2 n1 c1 n2 c2) := (w2b_below w A1 A2 n1 c1 n2 c2).alloc (by rw [w2b_size]; omega) _
theorem w2g_size (w : World) (A1 A2 : Option Addr) (n1 c1 n2 c2 : Nat) : (w2g w A1 A2 n1 c1 n2 c2).heap.size = w.heap.size + 1 + 1 + 1 := by simp [w2g, w2b]
/-- A surge's cells as they were laid. -/
structure Surge0 (w : World) (g : Nat) : Prop where
  c0 : w.cell? ⟨g, 0, none⟩ = some (.slice none 0 0)
  c1 : w.cell? ⟨g, 1, none⟩ = some (.slice none 0 0)
  c2 : w.cell? ⟨g, 2, none⟩ = some (.int .i64 0)
  f0 : w.frozen? ⟨g, 0, none⟩ = false
  f1 : w.frozen? ⟨g, 1, none⟩ = false
  f2 : w.frozen? ⟨g, 2, none⟩ = false
  lt : g < w.heap.size
theorem Surge0.ext {w w1 : World} {g : Nat} (h : Surge0 w g) (hb : Below w.heap.size w w1) : Surge0 w1 g := by
  obtain ⟨rc, rf⟩ := bcell hb
  exact ⟨(rc g 0 h.lt).trans h.c0, (rc g 1 h.lt).trans h.c1, (rc g 2 h.lt).trans h.c2, (rf g 0 h.lt).trans h.f0, (rf g 1 h.lt).trans h.f1, (rf g 2 h.lt).trans h.f2, Nat.lt_of_lt_of_le h.lt hb.size⟩
theorem w2g_after {w w1 : World} {A1 A2 : Option Addr} {c1 c2 : Nat} {xs ys : List Int} (r1 : Rd w w.heap.size A1 xs) (r2 : Rd w w.heap.size A2 ys) (hb : Below (w.heap.size + 1 + 1 + 1) (w2g w A1 A2 xs.length c1 ys.length c2) w1) :
    w1.cell? ⟨w.heap.size, 0, none⟩ = some (.slice A1 xs.length c1) ∧ w1.cell? ⟨w.heap.size + 1, 0, none⟩ = some (.slice A2 ys.length c2) ∧ In2 w w1 A1 A2 xs ys ∧ Surge0 w1 (w.heap.size + 1 + 1) := by
  obtain ⟨rc, rf⟩ := bcell hb
  have h0 := w2g_below w A1 A2 xs.length c1 ys.length c2
  have hs := w2g_size w A1 A2 xs.length c1 ys.length c2
  have h1 : Below w.heap.size w w1 := h0.trans (hb.mono (by omega))
  have := hb.size
  have hz := w2b_size w A1 A2 xs.length c1 ys.length c2
  have e0 : Surge0 (w2g w A1 A2 xs.length c1 ys.length c2) (w.heap.size + 1 + 1) := by
    rw [← hz]
    exact ⟨by simp [w2g, go_sem], by simp [w2g, go_sem], by simp [w2g, go_sem], by simp [w2g, go_sem], by simp [w2g, go_sem], by simp [w2g, go_sem], by simp [w2g]⟩
  exact ⟨by rw [rc _ _ (by omega)]; simp [w2g, w2b, go_sem], by rw [rc _ _ (by omega)]; simp [w2g, w2b, go_sem], ⟨r1.ext h1, r2.ext h1, h1, by omega⟩, e0.ext (by rw [hs]; exact hb)⟩

def RSurge (w : World) (m : Int) (xs ys : List Int) (at' E : Int) (e : Ending) (w' : World) : Prop :=
  ∃ A c A' c', e = .returned (.tuple #[.int .i64 m, .agg #[.slice A xs.length c, .slice A' ys.length c', .int .i64 at'], .int .i64 E]) ∧ Rd w' w'.heap.size A xs ∧ Rd w' w'.heap.size A' ys ∧ Fresh w.heap.size A ∧ Fresh w.heap.size A' ∧ Below w.heap.size w w'

theorem surge_set {w : World} {g : Nat} (h : Surge0 w g) (v0 v1 v2 : Value) :
    (((w.setCell ⟨g, 0, none⟩ v0).setCell ⟨g, 1, none⟩ v1).setCell ⟨g, 2, none⟩ v2).cell? ⟨g, 0, none⟩ = some v0 ∧ (((w.setCell ⟨g, 0, none⟩ v0).setCell ⟨g, 1, none⟩ v1).setCell ⟨g, 2, none⟩ v2).cell? ⟨g, 1, none⟩ = some v1 ∧
    (((w.setCell ⟨g, 0, none⟩ v0).setCell ⟨g, 1, none⟩ v1).setCell ⟨g, 2, none⟩ v2).cell? ⟨g, 2, none⟩ = some v2 := by
  have n1 : ∀ (w : World) (i j : Nat) (v : Value), i ≠ j → (w.setCell ⟨g, i, none⟩ v).cell? ⟨g, j, none⟩ = w.cell? ⟨g, j, none⟩ := fun w i j v hne => World.cell?_setCell_other w ⟨g, i, none⟩ ⟨g, j, none⟩ v (fun e => hne (by injection e))
  refine ⟨?_, ?_, ?_⟩
  · rw [n1 _ _ _ _ (by omega), n1 _ _ _ _ (by omega)]; exact World.cell?_setCell_same' _ _ _ (by rw [h.c0]; rfl)
  · rw [n1 _ _ _ _ (by omega)]; exact World.cell?_setCell_same' _ _ _ (by rw [n1 _ _ _ _ (by omega), h.c1]; rfl)
  · exact World.cell?_setCell_same' _ _ _ (by rw [n1 _ _ _ _ (by omega), n1 _ _ _ _ (by omega), h.c2]; rfl)
theorem fin_surge {w w1 w2 : World} {g : Nat} {m at' E : Int} {xs ys : List Int} {A A' : Option Addr} {c c' : Nat} {v0 v1 v2 : Value} (h0 : Below w.heap.size w w1) (h1 : Below w1.heap.size w1 w2) (hrd : Rd w2 w2.heap.size A xs) (hrd' : Rd w2 w2.heap.size A' ys)
    (hfr : Fresh w1.heap.size A) (hfr' : Fresh w1.heap.size A') (hg : w.heap.size ≤ g) (hg2 : g < w1.heap.size) :
    RSurge w m xs ys at' E (.returned (.tuple #[.int .i64 m, .agg #[.slice A xs.length c, .slice A' ys.length c', .int .i64 at'], .int .i64 E])) (((w2.setCell ⟨g, 0, none⟩ v0).setCell ⟨g, 1, none⟩ v1).setCell ⟨g, 2, none⟩ v2) := by
  have ne : ∀ (i : Nat) (ad : Addr), A = some ad → ad.block ≠ (⟨g, i, none⟩ : Addr).block := fun i ad e => by have := hfr ad e; show ad.block ≠ g; omega
  have ne' : ∀ (i : Nat) (ad : Addr), A' = some ad → ad.block ≠ (⟨g, i, none⟩ : Addr).block := fun i ad e => by have := hfr' ad e; show ad.block ≠ g; omega
  refine ⟨A, c, A', c', rfl, ?_, ?_, hfr.mono h0.size, hfr'.mono h0.size, (((h0.trans (h1.mono h0.size)).setCell (by exact hg) _).setCell (by exact hg) _).setCell (by exact hg) _⟩
  · simp only [World.size_setCell]; exact ((hrd.setCell (ne 0) _).setCell (ne 1) _).setCell (ne 2) _
  · simp only [World.size_setCell]; exact ((hrd'.setCell (ne' 0) _).setCell (ne' 1) _).setCell (ne' 2) _

theorem nth_leastL {xs ys : List Int} {t : Nat} (h : t < xs.length) : nth (leastL xs ys) t = min (nth xs t) (joinAt xs ys t) := by
  unfold leastL lowerL
  rw [nth_tab h]
  unfold joinL
  rw [nth_tab h]
theorem leastL_bd {xs ys : List Int} (hx : ∀ i, 0 ≤ nth xs i ∧ nth xs i ≤ 1073741824) (hy : ∀ i, 0 ≤ nth ys i ∧ nth ys i ≤ 1073741824) (t : Nat) : 0 ≤ nth (leastL xs ys) t ∧ nth (leastL xs ys) t ≤ 1073741824 := by
  rcases Nat.lt_or_ge t xs.length with h | h
  · rw [nth_leastL h]
    have a := hx t
    have b := hx (splitAt xs ys t)
    have c := hy (t - splitAt xs ys t)
    have e : joinAt xs ys t = nth xs (splitAt xs ys t) + nth ys (t - splitAt xs ys t) := rfl
    omega
  · rw [nth_out (by rw [leastL_length]; exact h)]; omega

theorem RSurge.drew {w : World} {m at' E : Int} {xs ys : List Int} {e : Ending} {w' : World} (h : RSurge w m xs ys at' E e w') : RSurge w m xs ys at' E e w'.drew := by
  obtain ⟨A, c, A', c', he, h1, h2, h3, h4, h5⟩ := h
  exact ⟨A, c, A', c', he, h1.ext (Below.refl _ w').drew, h2.ext (Below.refl _ w').drew, h3, h4, h5.drew⟩

def backOut (L S : List Int) : List Int := leastL (closedL L) S
def backTop (L S : List Int) : Nat × Int := topI (fun t => nth (closedL L) t - nth (leastL (closedL L) S) t) L.length

set_option maxRecDepth 100000 in
set_option maxHeartbeats 3200000 in
theorem Backlog_any (A1 A2 : Option Addr) (c1 c2 : Nat) (xs ys : List Int) (w : World) (r1 : Rd w w.heap.size A1 xs) (r2 : Rd w w.heap.size A2 ys) (m1 : xs.length ≤ maxLen) (m2 : ys.length ≤ maxLen) :
    Calls Try.prog 29 #[.agg #[.slice A1 xs.length c1], .agg #[.slice A2 ys.length c2]] w fun e w' =>
      RSurge w (pickI (ok2 xs ys) (backTop xs ys).2) (pick (ok2 xs ys) (closedL xs)) (pick (ok2 xs ys) (backOut xs ys)) (pickI (ok2 xs ys) (backTop xs ys).1) (errB (ok2 xs ys)) e w' := by
  have hb0 := w2g_below w A1 A2 xs.length c1 ys.length c2
  have hr := right2 A1 A2 c1 c2 xs ys (w2g w A1 A2 xs.length c1 ys.length c2) (r1.ext hb0) (r2.ext hb0) m1 m2
  rw [w2g_size] at hr
  cases hv : ok2 xs ys
  · rw [hv] at hr
    simp only [errB_f, pick_f, pickI_f] at hr ⊢
    have HR := Lib.hid (And.intro hr (And.intro r1 r2))
    clear hr r1 r2 hb0 hv
    go_enter Try.func29, Try.ntmps29
    go_upto_region 3 with (go_at_call 78; refine HR.out.1.mono ?_; rintro e w1 ⟨rfl, hb⟩; obtain ⟨p1, p2, HI, HG⟩ := w2g_after HR.out.2.1 HR.out.2.2 hb)
    have HT := Lib.hid (And.intro (surge_set HG (.slice none 0 0) (.slice none 0 0) (.int .i64 0)) (fin_surge (m := 0) (at' := 0) (E := 1) (xs := []) (ys := []) (A := none) (A' := none) (c := 0) (c' := 0) (v0 := .slice none 0 0) (v1 := .slice none 0 0) (v2 := .int .i64 0) HI.below (Below.refl _ w1) Rd.nil Rd.nil (fun _ e => (by cases e)) (fun _ e => (by cases e)) (by omega) HG.lt))
    obtain ⟨g0, g1, g2, k0, k1, k2, hlt⟩ := HG
    go_wp2
    obtain ⟨⟨q0, q1, q2⟩, HF⟩ := HT.out
    exact bodyPost_ret (v := .tuple #[.int .i64 0, .agg #[.slice none 0 0, .slice none 0 0, .int .i64 0], .int .i64 1]) (by simp [results, Try.results29, go_sem, q0, q1, q2]) rfl HF
  · have ⟨v1, v2, h3⟩ := ok2_iff.1 hv
    rw [hv] at hr
    simp only [errB_t, pick_t, pickI_t] at hr ⊢
    have HR := Lib.hid (And.intro hr (And.intro r1 (And.intro r2 (And.intro v1 (And.intro v2 h3)))))
    have hl := closedL_length xs
    have hl1 : 1 ≤ (closedL xs).length := by rw [hl]; exact v1.1
    have hl2 : (closedL xs).length ≤ 121 := by rw [hl]; exact v1.2.1
    have hl3 : ys.length = (closedL xs).length := by rw [hl]; exact h3
    have HH3 := Lib.hid (And.intro hl1 (And.intro hl3 hl))
    clear hr r1 r2 hb0 hv v1 v2 h3 hl hl1 hl3
    go_enter Try.func29, Try.ntmps29
    go_upto_region 5 with (first | (go_at_call 78; refine HR.out.1.mono ?_; rintro e w1 ⟨rfl, hb⟩; obtain ⟨p1, p2, HI, HG⟩ := w2g_after HR.out.2.1 HR.out.2.2.1 hb) | (go_at_call 88; refine (closed_any A1 c1 xs w1 HI.r1 HR.out.2.2.2.1).mono ?_; rintro e w2 ⟨A, c, A', c', rfl, hrd, hrd', hfr, hfr', hb2⟩))
    have hw3 : Below w2.heap.size w2 (w2.alloc (.cells #[.slice A (closedL xs).length c] 26)) := (Below.refl _ w2).alloc (Nat.le_refl _) _
    have hB1 : Below w1.heap.size w1 (w2.alloc (.cells #[.slice A (closedL xs).length c] 26)) := hb2.trans (hw3.mono hb2.size)
    obtain ⟨s0, s1⟩ := keep2 HI.size hB1 p1 p2
    have s4 : (w2.alloc (.cells #[.slice A (closedL xs).length c] 26)).cell? ⟨w2.heap.size, 0, none⟩ = some (.slice A (closedL xs).length c) := by simp [go_sem]
    have s5 : w2.heap.size < (w2.alloc (.cells #[.slice A (closedL xs).length c] 26)).heap.size := by simp
    have hL := hrd.ext hw3
    have hI := HI.ext hB1
    have hG := HG.ext hB1
    generalize hg2 : w2.alloc (.cells #[.slice A (closedL xs).length c] 26) = w3 at *
    generalize hgg : w2.heap.size = g at *
    have HL := Lib.hid (And.intro hL (And.intro hI (And.intro hG (And.intro hB1 (And.intro hfr (And.intro HI HG.lt))))))
    clear hg2 hgg hL hI hG hB1 hrd hrd' hfr hfr' hb2 hw3 p1 p2 HI HG s0
    go_upto_region 6 with (go_at_call 89; refine (least_any A A2 c c2 (closedL xs) ys w3 HL.out.1 HL.out.2.1.r2 HH3.out.1 hl2 HH3.out.2.1 (closedL_small HR.out.2.2.2.1) HR.out.2.2.2.2.1.small).mono ?_; rintro e w4 ⟨A5, c5, rfl, hrd, hfr, hb4⟩)
    have hw5 : Below w4.heap.size w4 (w4.alloc (.cells #[.slice A5 (leastL (closedL xs) ys).length c5] 26)) := (Below.refl _ w4).alloc (Nat.le_refl _) _
    have hb5 := hb4.trans (hw5.mono hb4.size)
    have t1 := (hb5.cell (p := ⟨g, 0, none⟩) s5).trans s4
    have t2 : (w4.alloc (.cells #[.slice A5 (leastL (closedL xs) ys).length c5] 26)).cell? ⟨w4.heap.size, 0, none⟩ = some (.slice A5 (leastL (closedL xs) ys).length c5) := by simp [go_sem]
    have t3 : w4.heap.size < (w4.alloc (.cells #[.slice A5 (leastL (closedL xs) ys).length c5] 26)).heap.size := by simp
    have t4 := Nat.lt_of_lt_of_le s5 hb5.size
    have u1 := HL.out.1.ext hb5
    have u2 := hrd.ext hw5
    have u3 := HL.out.2.2.1.ext hb5
    have u4 := HL.out.2.2.2.1.trans (hb5.mono HL.out.2.2.2.1.size)
    have u5 := hfr.mono HL.out.2.2.2.1.size
    generalize hg2 : w4.alloc (.cells #[.slice A5 (leastL (closedL xs) ys).length c5] 26) = w5 at *
    generalize hgg : w4.heap.size = gl at *
    have hll : (leastL (closedL xs) ys).length = (closedL xs).length := leastL_length _ _
    have HM := Lib.hid (And.intro u1 (And.intro u2 (And.intro u3 (And.intro u4 (And.intro u5 hll)))))
    clear hg2 hgg hb4 hb5 hw5 hrd hfr u1 u2 u3 u4 u5 s1 s4 s5 hll
    go_wp2
    go_loopg [12, 13, 14, 15, 39] (closedL xs).length (fun gk s12 s13 _ _ i wr => ∃ t : Nat, t ≤ (closedL xs).length ∧ (closedL xs).length - t ≤ gk ∧ i = .int .i64 t ∧ s12 = .int .i64 ((topI (fun t => nth (closedL xs) t - nth (leastL (closedL xs) ys) t) t).1 : Nat) ∧
      s13 = .int .i64 (topI (fun t => nth (closedL xs) t - nth (leastL (closedL xs) ys) t) t).2 ∧ Aside (Below w5.heap.size w5 wr))
    case atStart => exact ⟨0, Nat.zero_le _, by omega, rfl, rfl, rfl, Below.refl _ _⟩
    case round =>
      obtain ⟨t, ht, hg, rfl, rfl, rfl, hb⟩ := hrel
      by_cases hlt : t < (closedL xs).length
      · have hltz : (t : Int) < ((closedL xs).length : Int) := by omega
        have hcall := lies_any t A A5 c c5 (closedL xs) (leastL (closedL xs) ys) wr (HM.out.1.ext hb.out) (HM.out.2.1.ext hb.out) hlt (by rw [HM.out.2.2.2.2.2]; exact hlt) (closedL_small HR.out.2.2.2.1) (fun i => by have := leastL_bd (xs := closedL xs) (ys := ys) (closedL_bd HR.out.2.2.2.1) HR.out.2.2.2.2.1.bd i; omega)
        have HC := Lib.hid hcall
        clear hcall
        by_cases hq : (topI (fun t => nth (closedL xs) t - nth (leastL (closedL xs) ys) t) t).2 < nth (closedL xs) t - nth (leastL (closedL xs) ys) t
        · have hs : topI (fun t => nth (closedL xs) t - nth (leastL (closedL xs) ys) t) (t + 1) = (t, nth (closedL xs) t - nth (leastL (closedL xs) ys) t) := by simp only [topI]; rw [if_pos hq]
          have HS := Lib.hid hs
          clear hs
          go_wp2_with (go_at_call 90; refine HC.out.mono ?_; rintro e w6 ⟨rfl, hb'⟩)
          go_roundg ((closedL xs).length - (t + 1))
          case measure => omega
          case rel => exact ⟨t + 1, by omega, by omega, by go_num, by rw [HS.out], by rw [HS.out], hb.out.trans (hb'.mono hb.out.size)⟩
        · have hs : topI (fun t => nth (closedL xs) t - nth (leastL (closedL xs) ys) t) (t + 1) = topI (fun t => nth (closedL xs) t - nth (leastL (closedL xs) ys) t) t := by simp only [topI]; rw [if_neg hq]
          have HS := Lib.hid hs
          clear hs
          go_wp2_with (go_at_call 90; refine HC.out.mono ?_; rintro e w6 ⟨rfl, hb'⟩)
          go_roundg ((closedL xs).length - (t + 1))
          case measure => omega
          case rel => exact ⟨t + 1, by omega, by omega, by go_num, by rw [HS.out], by rw [HS.out], hb.out.trans (hb'.mono hb.out.size)⟩
      · have hltz : ¬ (t : Int) < ((closedL xs).length : Int) := by omega
        obtain rfl : t = (closedL xs).length := by omega
        have q1 := (hb.out.cell (p := ⟨g, 0, none⟩) t4).trans t1
        have q2 := (hb.out.cell (p := ⟨gl, 0, none⟩) t3).trans t2
        have hG := HM.out.2.2.1.ext hb.out
        have HT := Lib.hid (And.intro (surge_set hG (.slice A (closedL xs).length c) (.slice A5 (leastL (closedL xs) ys).length c5) (.int .i64 (backTop xs ys).1)) (fin_surge (m := (backTop xs ys).2) (at' := (backTop xs ys).1) (E := 0) (xs := closedL xs) (ys := leastL (closedL xs) ys) (A := A) (A' := A5) (c := c) (c' := c5) (v0 := .slice A (closedL xs).length c) (v1 := .slice A5 (leastL (closedL xs) ys).length c5) (v2 := .int .i64 (backTop xs ys).1) HL.out.2.2.2.2.2.1.below (HM.out.2.2.2.1.trans (hb.out.mono HM.out.2.2.2.1.size)) (HM.out.1.ext hb.out) (HM.out.2.1.ext hb.out) HL.out.2.2.2.2.1 HM.out.2.2.2.2.1 (by omega) HL.out.2.2.2.2.2.2))
        obtain ⟨g0, g1, g2, k0, k1, k2, hlt'⟩ := hG
        have hTop : topI (fun t => nth (closedL xs) t - nth (leastL (closedL xs) ys) t) (closedL xs).length = backTop xs ys := by unfold backTop; rw [HH3.out.2.2]
        rw [hTop]
        go_wp2
        go_still_tail 6, (by kernel_rfl)
        change wpList _ _ _ _ _ wr.drew
        go_wp2
        obtain ⟨⟨q3, q4, q5⟩, HF⟩ := HT.out
        exact bodyPost_ret (v := .tuple #[.int .i64 (backTop xs ys).2, .agg #[.slice A (closedL xs).length c, .slice A5 (leastL (closedL xs) ys).length c5, .int .i64 (backTop xs ys).1], .int .i64 0]) (by simp [results, Try.results29, go_sem, q3, q4, q5]) rfl HF.drew
end Go.Proofs.Ytknkneccnhgjmaa
