/- Walks: Behind, Left. -/
import Derived.Test.YtknkneccnhgjmaaC3
namespace Go.Proofs.Ytknkneccnhgjmaa
open Go.RowKit Go.Shelf

theorem nth_closedL {L : List Int} {t : Nat} (h : t < L.length) : nth (closedL L) t = closAt L t := nth_tab h
theorem closedL_bd {L : List Int} (v : Valid L) (t : Nat) : 0 ≤ nth (closedL L) t ∧ nth (closedL L) t ≤ 1073741824 := by
  rcases Nat.lt_or_ge t L.length with h | h
  · rw [nth_closedL h]; exact closAt_bd v.bd t
  · rw [nth_out (by rw [closedL_length]; exact h)]; omega
theorem closedL_small {L : List Int} (v : Valid L) : Small (closedL L) := fun t => by have := closedL_bd v t; omega
theorem leadAt_bd {xs ys : List Int} (hx : ∀ i, 0 ≤ nth xs i ∧ nth xs i ≤ 1073741824) (hy : ∀ i, 0 ≤ nth ys i ∧ nth ys i ≤ 1073741824) (t : Nat) : 0 ≤ leadAt xs ys t ∧ leadAt xs ys t ≤ 1073741824 :=
  maxTo_bd _ _ (by omega) _ (fun i _ => by have := hx (t + i); have := hy i; omega)
theorem nth_leadL {xs ys : List Int} {t : Nat} (h : t < xs.length) : nth (leadL xs ys) t = leadAt xs ys t := nth_tab h

def behindAt (L S : List Int) (t : Nat) : Int := max (nth (closedL L) t) (nth (leadL (closedL L) S) t)
def behindL (L S : List Int) : List Int := tab (closedL L).length (behindAt L S)
theorem eg103 : ∀ args w, (callFunc 103 args).run Try.prog w = .ok (.enter 103 args) w := enters_of Try.func103 (by kernel_rfl) rfl

set_option maxRecDepth 100000 in
set_option maxHeartbeats 1600000 in
theorem Behind_any (A1 A2 : Option Addr) (c1 c2 : Nat) (xs ys : List Int) (w : World) (r1 : Rd w w.heap.size A1 xs) (r2 : Rd w w.heap.size A2 ys) (m1 : xs.length ≤ maxLen) (m2 : ys.length ≤ maxLen) :
    Calls Try.prog 40 #[.agg #[.slice A1 xs.length c1], .agg #[.slice A2 ys.length c2]] w fun e w' => RCE w (pick (ok2 xs ys) (behindL xs ys)) (errB (ok2 xs ys)) e w' := by
  have hb0 := w2c_below w A1 A2 xs.length c1 ys.length c2
  have hr := right2 A1 A2 c1 c2 xs ys (w2c w A1 A2 xs.length c1 ys.length c2) (r1.ext hb0) (r2.ext hb0) m1 m2
  rw [w2c_size'] at hr
  cases hv : ok2 xs ys
  · rw [hv] at hr
    simp only [errB_f, pick_f] at hr ⊢
    have HR := Lib.hid (And.intro hr (And.intro r1 r2))
    clear hr r1 r2 hb0 hv
    go_enter Try.func40, Try.ntmps40
    go_wp2_with (go_at_call 78; refine HR.out.1.mono ?_; rintro e w1 ⟨rfl, hb⟩; obtain ⟨p1, p2, q1, q2, HH⟩ := w2c_after HR.out.2.1 HR.out.2.2 hb)
    exact bodyPost_ret (v := .tuple #[.agg #[.slice none 0 0], .int .i64 1]) (by simp [results, Try.results40, go_sem, q1]) rfl (fin_nil HH.out.2.2.1 (by omega))
  · have ⟨v1, v2, h3⟩ := ok2_iff.1 hv
    rw [hv] at hr
    simp only [errB_t, pick_t] at hr ⊢
    have HR := Lib.hid (And.intro hr (And.intro r1 (And.intro r2 (And.intro v1 (And.intro v2 h3)))))
    have hl := closedL_length xs
    have hl1 : 1 ≤ (closedL xs).length := by rw [hl]; exact v1.1
    have hl2 : (closedL xs).length ≤ 121 := by rw [hl]; exact v1.2.1
    have hl3 : ys.length = (closedL xs).length := by rw [hl]; exact h3
    have HH3 := Lib.hid hl3
    clear hr r1 r2 hb0 hv v1 v2 h3 hl hl3
    go_enter Try.func40, Try.ntmps40
    go_upto_region 5 with (first | (go_at_call 78; refine HR.out.1.mono ?_; rintro e w1 ⟨rfl, hb⟩; obtain ⟨p1, p2, q1, q2, HH⟩ := w2c_after HR.out.2.1 HR.out.2.2.1 hb) | (go_at_call 88; refine (closed_any A1 c1 xs w1 HH.out.1 HR.out.2.2.2.1).mono ?_; rintro e w2 ⟨A, c, A', c', rfl, hrd, hrd', hfr, hfr', hb2⟩))
    have hsz : w.heap.size + 1 + 1 < w2.heap.size := Nat.lt_of_lt_of_le HH.out.2.2.2 hb2.size
    have hw3 : Below w2.heap.size w2 (w2.alloc (.cells #[.slice A (closedL xs).length c] 26)) := (Below.refl _ w2).alloc (Nat.le_refl _) _
    have s1 : (w2.alloc (.cells #[.slice A (closedL xs).length c] 26)).cell? ⟨w.heap.size + 1, 0, none⟩ = some (.slice A2 ys.length c2) := by rw [World.cell?_alloc_past _ _ _ (by omega)]; exact (hb2.cell (p := ⟨w.heap.size + 1, 0, none⟩) (show w.heap.size + 1 < _ by have := HH.out.2.2.2; omega)).trans p2
    have s2 : (w2.alloc (.cells #[.slice A (closedL xs).length c] 26)).cell? ⟨w.heap.size + 1 + 1, 0, none⟩ = some (.slice none 0 0) := by rw [World.cell?_alloc_past _ _ _ hsz]; exact (hb2.cell (p := ⟨w.heap.size + 1 + 1, 0, none⟩) HH.out.2.2.2).trans q1
    have s3 : (w2.alloc (.cells #[.slice A (closedL xs).length c] 26)).frozen? ⟨w.heap.size + 1 + 1, 0, none⟩ = false := by rw [World.frozen?_alloc_past _ _ _ hsz]; exact (hb2.frozen (p := ⟨w.heap.size + 1 + 1, 0, none⟩) HH.out.2.2.2).trans q2
    have s4 : (w2.alloc (.cells #[.slice A (closedL xs).length c] 26)).cell? ⟨w2.heap.size, 0, none⟩ = some (.slice A (closedL xs).length c) := by simp [go_sem]
    have s5 : w2.heap.size < (w2.alloc (.cells #[.slice A (closedL xs).length c] 26)).heap.size := by simp
    have hB : Below w.heap.size w (w2.alloc (.cells #[.slice A (closedL xs).length c] 26)) := HH.out.2.2.1.trans ((hb2.trans (hw3.mono hb2.size)).mono HH.out.2.2.1.size)
    have hL := hrd.ext hw3
    have hS := (HH.out.2.1.ext hb2).ext hw3
    have hB1 : Below w1.heap.size w1 (w2.alloc (.cells #[.slice A (closedL xs).length c] 26)) := hb2.trans (hw3.mono hb2.size)
    generalize hg2 : w2.alloc (.cells #[.slice A (closedL xs).length c] 26) = w3 at *
    generalize hgg : w2.heap.size = g at *
    have HL := Lib.hid (And.intro hL (And.intro hS (And.intro hB hB1)))
    clear hg2 hgg hL hS hB hB1 hrd hrd' hfr hfr' hb2 hw3 p1 p2 q1 q2
    go_upto_region 6 with (go_at_call 79; refine (lead_any A A2 c c2 (closedL xs) ys w3 HL.out.1 HL.out.2.1 hl1 hl2 HH3.out (closedL_small HR.out.2.2.2.1) HR.out.2.2.2.2.1.small).mono ?_; rintro e w4 ⟨A5, c5, rfl, hrd, hfr, hb4⟩)
    have hw5 : Below w4.heap.size w4 (w4.alloc (.cells #[.slice A5 (leadL (closedL xs) ys).length c5] 26)) := (Below.refl _ w4).alloc (Nat.le_refl _) _
    have hb5 := hb4.trans (hw5.mono hb4.size)
    have hsz5 : w.heap.size + 1 + 1 < w3.heap.size := by omega
    have t1 : (w4.alloc (.cells #[.slice A5 (leadL (closedL xs) ys).length c5] 26)).cell? ⟨g, 0, none⟩ = some (.slice A (closedL xs).length c) := (hb5.cell (p := ⟨g, 0, none⟩) s5).trans s4
    have t2 := (hb5.cell (p := ⟨w.heap.size + 1 + 1, 0, none⟩) hsz5).trans s2
    have t3 := (hb5.frozen (p := ⟨w.heap.size + 1 + 1, 0, none⟩) hsz5).trans s3
    have hx : Held (w4.alloc (.cells #[.slice A5 (leadL (closedL xs) ys).length c5] 26)) g 0 (closedL xs) := ⟨Nat.lt_of_lt_of_le s5 hb5.size, A, c, t1, HL.out.1.ext hb5⟩
    have hy : Held (w4.alloc (.cells #[.slice A5 (leadL (closedL xs) ys).length c5] 26)) w4.heap.size 0 (leadL (closedL xs) ys) := ⟨by simp, A5, c5, by simp [go_sem], hrd.ext hw5⟩
    have he := each_pure 103 #[.pointer (some ⟨g, 0, none⟩), .pointer (some ⟨w4.heap.size, 0, none⟩)] eg103 (closedL xs).length hl1 hl2 (behindAt xs ys) (w4.alloc (.cells #[.slice A5 (leadL (closedL xs) ys).length c5] 26))
      (fun t W ht hW => behind1_any t _ _ (closedL xs) (leadL (closedL xs) ys) W (hx.below hW) (hy.below hW) ht (by rw [leadL_length]; exact ht))
    have HE := Lib.hid (And.intro he hb5)
    clear he hx hy hw5 hb5 hrd hfr hb4 s1 s2 s3 s4
    go_wp2_with (go_at_call 71; refine HE.out.1.mono ?_)
    rintro e w6 ⟨A6, c6, rfl, hrd6, hfr6, hb6⟩
    have hlt5 : w.heap.size + 1 + 1 < (w4.alloc (.cells #[.slice A5 (leadL (closedL xs) ys).length c5] 26)).heap.size := Nat.lt_of_lt_of_le hsz5 HE.out.2.size
    have u1 := (hb6.cell (p := ⟨w.heap.size + 1 + 1, 0, none⟩) hlt5).trans t2
    have u2 := (hb6.frozen (p := ⟨w.heap.size + 1 + 1, 0, none⟩) hlt5).trans t3
    have hB6 : Below w1.heap.size w1 w6 := HL.out.2.2.2.trans ((HE.out.2.trans (hb6.mono HE.out.2.size)).mono HL.out.2.2.2.size)
    have HF := Lib.hid (fin_ce (E := 0) (zs := behindL xs ys) (c := c6) (g := w.heap.size + 1 + 1) HH.out.2.2.1 hB6 hrd6 (hfr6.mono (Nat.le_trans HL.out.2.2.2.size HE.out.2.size)) (by omega) HH.out.2.2.2)
    clear hrd6 hfr6 hb6 hB6 hlt5 t1 t2 t3
    go_wp2
    exact bodyPost_ret (v := .tuple #[.agg #[.slice A6 (behindL xs ys).length c6], .int .i64 0]) (by simp [results, Try.results40, go_sem, u1]; rfl) rfl HF.out
end Go.Proofs.Ytknkneccnhgjmaa
