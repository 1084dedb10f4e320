/- Walks: Close, Tightest, Obeys. -/
import Derived.Test.YtknkneccnhgjmaaC1
namespace Go.Proofs.Ytknkneccnhgjmaa
open Go.RowKit Go.Shelf

theorem right1 (A1 : Option Addr) (c1 : Nat) (xs : List Int) (w : World) (r1 : Rd w w.heap.size A1 xs) (m1 : xs.length ≤ maxLen) :
    Calls Try.prog 78 #[.slice (some ⟨w.heap.size, 0, none⟩) 1 1] (w.alloc (.cells #[.slice A1 xs.length c1] 26)) fun e w' => e = .returned (.int .i64 (errB (validB xs))) ∧ Below w.heap.size w w' := by
  have hb : Below w.heap.size w (w.alloc (.cells #[.slice A1 xs.length c1] 26)) := (Below.refl _ w).alloc (Nat.le_refl _) _
  have h : RdC (w.alloc (.cells #[.slice A1 xs.length c1] 26)) (w.alloc (.cells #[.slice A1 xs.length c1] 26)).heap.size (some ⟨w.heap.size, 0, none⟩) [⟨A1, c1, xs⟩] := by
    refine ⟨fun _ => ⟨_, _, rfl, by simp, fun i hi => ?_⟩, fun i hi => ?_⟩
    · match i, hi with
      | 0, _ => simp [go_sem, Cv.v]
    · match i, hi with
      | 0, _ => exact r1.ext hb
  have hc := right_any (some ⟨w.heap.size, 0, none⟩) 1 [⟨A1, c1, xs⟩] _ h (by simp) (fun i hi => by
    match i, hi with
    | 0, _ => exact m1)
  rw [rightB_one] at hc
  exact hc.mono fun e w' ⟨he, hb'⟩ => ⟨he, hb.trans (hb'.mono (by simp))⟩

theorem RCE.alloc {w w' : World} {xs : List Int} {E : Int} {e : Ending} (h : RCE w xs E e w') (o : Obj) : RCE w xs E e (w'.alloc o) := by
  obtain ⟨A, c, he, h1, h2, h3⟩ := h
  exact ⟨A, c, he, h1.ext ((Below.refl _ w').alloc (Nat.le_refl _) _), h2, h3.alloc h3.size _⟩

/-- A boxed curve, and a result's cell. -/
def w1c (w : World) (A1 : Option Addr) (n1 c1 : Nat) : World := (w.alloc (.cells #[.slice A1 n1 c1] 26)).alloc (.cells #[.slice none 0 0] 26)
theorem w1c_below (w : World) (A1 : Option Addr) (n1 c1 : Nat) : Below w.heap.size w (w1c w A1 n1 c1) := ((Below.refl _ w).alloc (Nat.le_refl _) _).alloc (by simp) _
theorem w1c_size (w : World) (A1 : Option Addr) (n1 c1 : Nat) : (w1c w A1 n1 c1).heap.size = w.heap.size + 1 + 1 := by simp [w1c]
structure In1 (w w1 : World) (A1 : Option Addr) (xs : List Int) : Prop where
  r1 : Rd w1 w1.heap.size A1 xs
  below : Below w.heap.size w w1
  size : w.heap.size + 1 < w1.heap.size
theorem right1' (A1 : Option Addr) (c1 : Nat) (xs : List Int) (w : World) (r1 : Rd w w.heap.size A1 xs) (m1 : xs.length ≤ maxLen) :
    Calls Try.prog 78 #[.slice (some ⟨w.heap.size + 1 + 1, 0, none⟩) 1 1] ((w1c w A1 xs.length c1).alloc (.cells #[.slice A1 xs.length c1] 26)) fun e w1 => e = .returned (.int .i64 (errB (validB xs))) ∧
      w1.cell? ⟨w.heap.size, 0, none⟩ = some (.slice A1 xs.length c1) ∧ w1.cell? ⟨w.heap.size + 1, 0, none⟩ = some (.slice none 0 0) ∧ w1.frozen? ⟨w.heap.size + 1, 0, none⟩ = false ∧ In1 w w1 A1 xs := by
  have hb0 := w1c_below w A1 xs.length c1
  have hr := right1 A1 c1 xs (w1c w A1 xs.length c1) (r1.ext hb0) m1
  rw [w1c_size] at hr
  refine hr.mono fun e w1 ⟨he, hb⟩ => ?_
  obtain ⟨rc, rf⟩ := bcell hb
  have hs := w1c_size w A1 xs.length c1
  have h1 : Below w.heap.size w w1 := hb0.trans (hb.mono (by omega))
  have := hb.size
  exact ⟨he, by rw [rc _ _ (by omega)]; simp [w1c, go_sem], by rw [rc _ _ (by omega)]; simp [w1c, go_sem], by rw [rf _ _ (by omega)]; simp [w1c, go_sem], ⟨r1.ext h1, h1, by omega⟩⟩

set_option maxRecDepth 100000 in
set_option maxHeartbeats 800000 in
theorem Close_any (A1 : Option Addr) (c1 : Nat) (xs : List Int) (w : World) (r1 : Rd w w.heap.size A1 xs) (m1 : xs.length ≤ maxLen) :
    Calls Try.prog 59 #[.agg #[.slice A1 xs.length c1]] w fun e w' => RCE w (pick (validB xs) (closedL xs)) (errB (validB xs)) e w' := by
  have hr := right1' A1 c1 xs w r1 m1
  clear r1
  cases hv : validB xs
  · rw [hv] at hr
    simp only [errB_f, pick_f] at hr ⊢
    have HR := Lib.hid hr
    clear hr hv
    go_enter Try.func59, Try.ntmps59
    go_wp2_with (go_at_call 78; refine HR.out.mono ?_; rintro e w1 ⟨rfl, p1, q1, q2, HI⟩)
    exact bodyPost_ret (v := .tuple #[.agg #[.slice none 0 0], .int .i64 1]) (by simp [results, Try.results59, go_sem, q1]) rfl (fin_nil HI.below (by omega))
  · have v1 := (validB_iff xs).1 hv
    rw [hv] at hr
    simp only [errB_t, pick_t] at hr ⊢
    have HR := Lib.hid (And.intro hr v1)
    clear hr hv v1
    go_enter Try.func59, Try.ntmps59
    go_wp2_with (first | (go_at_call 78; refine HR.out.1.mono ?_; rintro e w1 ⟨rfl, p1, q1, q2, HI⟩) | (go_at_call 88; refine (closed_any A1 c1 xs w1 HI.r1 HR.out.2).mono ?_; rintro e w2 ⟨A, c, A', c', rfl, hrd, hrd', hfr, hfr', hb⟩; have HL := Lib.hid (And.intro hrd (And.intro hfr hb)); have hsz : w.heap.size + 1 < w2.heap.size := Nat.lt_of_lt_of_le HI.size hb.size; have s1 := (hb.cell (p := ⟨w.heap.size + 1, 0, none⟩) HI.size).trans q1; have s2 := (hb.frozen (p := ⟨w.heap.size + 1, 0, none⟩) HI.size).trans q2; clear hrd hrd' hfr hfr' hb))
    have t1 : ((w2.setCell ⟨w.heap.size + 1, 0, none⟩ (.slice A (closedL xs).length c)).alloc (.cells #[.slice A (closedL xs).length c] 26)).cell? ⟨w.heap.size + 1, 0, none⟩ = some (.slice A (closedL xs).length c) := by
      rw [World.cell?_alloc_past _ _ _ (by rw [World.size_setCell]; exact hsz)]
      exact World.cell?_setCell_same' _ _ _ (by rw [s1]; rfl)
    exact bodyPost_ret (v := .tuple #[.agg #[.slice A (closedL xs).length c], .int .i64 0]) (by simp [results, Try.results59, go_sem, t1]) rfl
      ((fin_ce (w1 := w1) HI.below HL.out.2.2 HL.out.1 HL.out.2.1 (by omega) HI.size).alloc _)

set_option maxRecDepth 100000 in
set_option maxHeartbeats 800000 in
theorem Tightest_any (A1 : Option Addr) (c1 : Nat) (xs : List Int) (w : World) (r1 : Rd w w.heap.size A1 xs) (m1 : xs.length ≤ maxLen) :
    Calls Try.prog 53 #[.agg #[.slice A1 xs.length c1]] w fun e w' => RCE w (pick (validB xs) (leadL xs xs)) (errB (validB xs)) e w' := by
  have hr := right1' A1 c1 xs w r1 m1
  clear r1
  cases hv : validB xs
  · rw [hv] at hr
    simp only [errB_f, pick_f] at hr ⊢
    have HR := Lib.hid hr
    clear hr hv
    go_enter Try.func53, Try.ntmps53
    go_wp2_with (go_at_call 78; refine HR.out.mono ?_; rintro e w1 ⟨rfl, p1, q1, q2, HI⟩)
    exact bodyPost_ret (v := .tuple #[.agg #[.slice none 0 0], .int .i64 1]) (by simp [results, Try.results53, go_sem, q1]) rfl (fin_nil HI.below (by omega))
  · have v1 := (validB_iff xs).1 hv
    rw [hv] at hr
    simp only [errB_t, pick_t] at hr ⊢
    have HR := Lib.hid (And.intro hr v1)
    clear hr hv v1
    go_enter Try.func53, Try.ntmps53
    go_wp2_with (first | (go_at_call 78; refine HR.out.1.mono ?_; rintro e w1 ⟨rfl, p1, q1, q2, HI⟩) | (go_at_call 79; refine (lead_any A1 A1 c1 c1 xs xs w1 HI.r1 HI.r1 HR.out.2.1 HR.out.2.2.1 rfl HR.out.2.small HR.out.2.small).mono ?_; rintro e w2 ⟨A, c, rfl, hrd, hfr, hb⟩; have HL := Lib.hid (And.intro hrd (And.intro hfr hb)); have s1 := (hb.cell (p := ⟨w.heap.size + 1, 0, none⟩) HI.size).trans q1; have s2 := (hb.frozen (p := ⟨w.heap.size + 1, 0, none⟩) HI.size).trans q2; clear hrd hfr hb))
    exact bodyPost_ret (v := .tuple #[.agg #[.slice A (leadL xs xs).length c], .int .i64 0]) (by simp [results, Try.results53, go_sem, s1]) rfl
      (fin_ce (w1 := w1) HI.below HL.out.2.2 HL.out.1 HL.out.2.1 (by omega) HI.size)
end Go.Proofs.Ytknkneccnhgjmaa
