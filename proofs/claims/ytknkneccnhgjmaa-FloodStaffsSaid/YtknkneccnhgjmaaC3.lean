/- Walks: Obeys, Split. -/
import Derived.Test.YtknkneccnhgjmaaC2
namespace Go.Proofs.Ytknkneccnhgjmaa
open Go.RowKit Go.Shelf

/-- Two boxed curves and a result's span. -/
def w2s (w : World) (A1 A2 : Option Addr) (n1 c1 n2 c2 : Nat) : World := (w2b w A1 A2 n1 c1 n2 c2).alloc (.cells #[.int .i64 0, .int .i64 0] 73)
theorem w2s_below (w : World) (A1 A2 : Option Addr) (n1 c1 n2 c2 : Nat) : Below w.heap.size w (w2s w A1 A2 n1 c1 n2 c2) := (w2b_below w A1 A2 n1 c1 n2 c2).alloc (by rw [w2b_size]; omega) _
theorem w2s_size (w : World) (A1 A2 : Option Addr) (n1 c1 n2 c2 : Nat) : (w2s w A1 A2 n1 c1 n2 c2).heap.size = w.heap.size + 1 + 1 + 1 := by simp [w2s, w2b]
theorem right2s (A1 A2 : Option Addr) (c1 c2 : Nat) (xs ys : List Int) (w : World) (r1 : Rd w w.heap.size A1 xs) (r2 : Rd w w.heap.size A2 ys) (m1 : xs.length ≤ maxLen) (m2 : ys.length ≤ maxLen) :
    Calls Try.prog 78 #[.slice (some ⟨w.heap.size + 1 + 1 + 1, 0, none⟩) 2 2] ((w2s w A1 A2 xs.length c1 ys.length c2).alloc (.cells #[.slice A1 xs.length c1, .slice A2 ys.length c2] 26)) fun e w1 => e = .returned (.int .i64 (errB (ok2 xs ys))) ∧
      w1.cell? ⟨w.heap.size, 0, none⟩ = some (.slice A1 xs.length c1) ∧ w1.cell? ⟨w.heap.size + 1, 0, none⟩ = some (.slice A2 ys.length c2) ∧ Hid (w1.heap[w.heap.size + 1 + 1]? = some (.cells #[.int .i64 0, .int .i64 0] 73 (0, 0)) ∧ In2 w w1 A1 A2 xs ys) := by
  have hb0 := w2s_below w A1 A2 xs.length c1 ys.length c2
  have hr := right2 A1 A2 c1 c2 xs ys (w2s w A1 A2 xs.length c1 ys.length c2) (r1.ext hb0) (r2.ext hb0) m1 m2
  have hs := w2s_size w A1 A2 xs.length c1 ys.length c2
  have hs2 := w2b_size w A1 A2 xs.length c1 ys.length c2
  rw [hs] at hr
  refine hr.mono fun e w1 ⟨he, hb⟩ => ?_
  obtain ⟨rc, rf⟩ := bcell hb
  have h1 : Below w.heap.size w w1 := hb0.trans (hb.mono (by omega))
  have hq : (w2s w A1 A2 xs.length c1 ys.length c2).heap[w.heap.size + 1 + 1]? = some (.cells #[.int .i64 0, .int .i64 0] 73 (0, 0)) := by
    have := heap_alloc_new (w2b w A1 A2 xs.length c1 ys.length c2) (.cells #[.int .i64 0, .int .i64 0] 73)
    rwa [hs2] at this
  have := hb.size
  exact ⟨he, by rw [rc _ _ (by omega)]; simp [w2s, w2b, go_sem], by rw [rc _ _ (by omega)]; simp [w2s, w2b, go_sem], (hb.block _ (by omega)).trans hq, ⟨r1.ext h1, r2.ext h1, h1, by omega⟩⟩

/-- The cells of a block of two. -/
theorem two_cells {w : World} {g : Nat} {v0 v1 : Value} {ty : TypeId} (h : w.heap[g]? = some (.cells #[v0, v1] ty (0, 0))) :
    w.cell? ⟨g, 0, none⟩ = some v0 ∧ w.cell? ⟨g, 1, none⟩ = some v1 ∧ w.frozen? ⟨g, 0, none⟩ = false ∧ w.frozen? ⟨g, 1, none⟩ = false :=
  ⟨by rw [cell_of_row w g 0 _ _ _ h]; rfl, by rw [cell_of_row w g 1 _ _ _ h]; rfl, frozen_of_row w g 0 _ _ h, frozen_of_row w g 1 _ _ h⟩

theorem two_set {w : World} {g : Nat} {v0 v1 : Value} (h0 : w.cell? ⟨g, 0, none⟩ = some v0) (h1 : w.cell? ⟨g, 1, none⟩ = some v1) (x y : Value) :
    ((w.setCell ⟨g, 0, none⟩ x).setCell ⟨g, 1, none⟩ y).cell? ⟨g, 0, none⟩ = some x ∧ ((w.setCell ⟨g, 0, none⟩ x).setCell ⟨g, 1, none⟩ y).cell? ⟨g, 1, none⟩ = some y := by
  have n1 : (w.setCell ⟨g, 0, none⟩ x).cell? ⟨g, 1, none⟩ = some v1 := (World.cell?_setCell_other _ _ _ _ (by simp)).trans h1
  exact ⟨(World.cell?_setCell_other _ _ _ _ (by simp)).trans (World.cell?_setCell_same' _ _ _ (by rw [h0]; rfl)), World.cell?_setCell_same' _ _ _ (by rw [n1]; rfl)⟩

def obeysB (xs ys : List Int) : Bool := (brk xs ys).isNone
def pickI (b : Bool) (n : Int) : Int := if b then n else 0
theorem pickI_f (n : Int) : pickI false n = 0 := rfl
theorem pickI_t (n : Int) : pickI true n = n := rfl

set_option maxRecDepth 100000 in
set_option maxHeartbeats 800000 in
theorem Obeys_any (A1 A2 : Option Addr) (c1 c2 : Nat) (xs ys : List Int) (w : World) (r1 : Rd w w.heap.size A1 xs) (r2 : Rd w w.heap.size A2 ys) (m1 : xs.length ≤ maxLen) (m2 : ys.length ≤ maxLen) :
    Calls Try.prog 57 #[.agg #[.slice A1 xs.length c1], .agg #[.slice A2 ys.length c2]] w fun e w' => e = .returned (.tuple #[.agg #[.int .i64 (pickI (ok2 xs ys) (brkLo (brk xs ys))), .int .i64 (pickI (ok2 xs ys) (brkHi (brk xs ys)))], .bool (ok2 xs ys && obeysB xs ys), .int .i64 (errB (ok2 xs ys))]) ∧ Below w.heap.size w w' := by
  have hr := right2s A1 A2 c1 c2 xs ys w r1 r2 m1 m2
  clear r1 r2
  cases hv : ok2 xs ys
  · rw [hv] at hr
    simp only [errB_f, pickI_f, Bool.false_and] at hr ⊢
    have HR := Lib.hid hr
    clear hr hv
    go_enter Try.func57, Try.ntmps57
    go_wp2_with (go_at_call 78; refine HR.out.mono ?_; rintro e w1 ⟨rfl, p1, p2, HI⟩; obtain ⟨q1, q2, q3, q4⟩ := two_cells HI.out.1)
    exact bodyPost_ret (v := .tuple #[.agg #[.int .i64 0, .int .i64 0], .bool false, .int .i64 1]) (by simp [results, Try.results57, go_sem, q1, q2]) rfl
      ⟨rfl, (HI.out.2.below.setCell (by show w.heap.size ≤ w.heap.size + 1 + 1; omega) _).setCell (by show w.heap.size ≤ w.heap.size + 1 + 1; omega) _⟩
  · have ⟨v1, v2, h3⟩ := ok2_iff.1 hv
    rw [hv] at hr
    simp only [errB_t, pickI_t, Bool.true_and] at hr ⊢
    have hob : obeysB xs ys = !(brk xs ys).isSome := by unfold obeysB; cases brk xs ys <;> rfl
    rw [hob]
    have HR := Lib.hid (And.intro hr (And.intro v1 h3))
    have hbr := fun (W : World) (hW : In2 w W A1 A2 xs ys) => breaks_any A1 A2 c1 c2 xs ys W hW.r1 hW.r2 v1.1 (by have := v1.2.1; omega) h3 v1.small
    generalize brkLo (brk xs ys) = lo at *
    generalize brkHi (brk xs ys) = hi at *
    generalize (brk xs ys).isSome = b at *
    have HB := Lib.hid hbr
    clear hr hv v1 v2 h3 hbr hob
    go_enter Try.func57, Try.ntmps57
    go_wp2_with (first | (go_at_call 78; refine HR.out.1.mono ?_; rintro e w1 ⟨rfl, p1, p2, HI⟩) | (go_at_call 100; refine (HB.out w1 HI.out.2).mono ?_; rintro e w2 ⟨rfl, hb⟩; have hsz0 := HI.out.1; obtain ⟨q1, q2, q3, q4⟩ := two_cells ((hb.block _ (Array.getElem?_eq_some_iff.1 hsz0).1).trans hsz0); have hsz : w.heap.size + 1 + 1 < w2.heap.size := Nat.lt_of_lt_of_le (Array.getElem?_eq_some_iff.1 hsz0).1 hb.size; have HL := Lib.hid (HI.out.2.below.trans (hb.mono HI.out.2.below.size)); clear hb hsz0))
    obtain ⟨t1, t2⟩ := two_set q1 q2 (.int .i64 lo) (.int .i64 hi)
    have u1 := (World.cell?_alloc_past (w := (w2.setCell ⟨w.heap.size + 1 + 1, 0, none⟩ (.int .i64 lo)).setCell ⟨w.heap.size + 1 + 1, 1, none⟩ (.int .i64 hi)) (.cells #[.int .i64 lo, .int .i64 hi] 73) (w.heap.size + 1 + 1) 0 (by simp only [World.size_setCell]; exact hsz)).trans t1
    have u2 := (World.cell?_alloc_past (w := (w2.setCell ⟨w.heap.size + 1 + 1, 0, none⟩ (.int .i64 lo)).setCell ⟨w.heap.size + 1 + 1, 1, none⟩ (.int .i64 hi)) (.cells #[.int .i64 lo, .int .i64 hi] 73) (w.heap.size + 1 + 1) 1 (by simp only [World.size_setCell]; exact hsz)).trans t2
    refine bodyPost_ret (v := .tuple #[.agg #[.int .i64 lo, .int .i64 hi], .bool (!b), .int .i64 0]) (by simp [results, Try.results57, go_sem, u1, u2]) rfl ⟨rfl, ?_⟩
    exact ((HL.out.setCell (by show w.heap.size ≤ w.heap.size + 1 + 1; omega) _).setCell (by show w.heap.size ≤ w.heap.size + 1 + 1; omega) _).alloc (by simp only [World.size_setCell]; omega) _

def splitN (xs ys : List Int) (step : Int) : Int := if ok2 xs ys && withinB step 0 ((xs.length : Int) - 1) then (splitAt xs ys step.toNat : Int) else 0
def stepE (ok : Bool) (xs : List Int) (step : Int) : Int := if ok && withinB step 0 ((xs.length : Int) - 1) then 0 else 1

set_option maxRecDepth 100000 in
set_option maxHeartbeats 800000 in
theorem Split_any (A1 A2 : Option Addr) (c1 c2 : Nat) (xs ys : List Int) (step : Int) (w : World) (r1 : Rd w w.heap.size A1 xs) (r2 : Rd w w.heap.size A2 ys) (m1 : xs.length ≤ maxLen) (m2 : ys.length ≤ maxLen) :
    Calls Try.prog 26 #[.agg #[.slice A1 xs.length c1], .agg #[.slice A2 ys.length c2], .int .i64 step] w fun e w' => e = .returned (.tuple #[.int .i64 (splitN xs ys step), .int .i64 (stepE (ok2 xs ys) xs step)]) ∧ Below w.heap.size w w' := by
  have hr := right2' A1 A2 c1 c2 xs ys w r1 r2 m1 m2
  clear r1 r2
  cases hv : ok2 xs ys
  · have e1 : splitN xs ys step = 0 := by simp [splitN, hv]
    have e2 : stepE false xs step = 1 := by simp [stepE]
    rw [hv] at hr
    rw [e1, e2]
    simp only [errB_f] at hr
    have HR := Lib.hid hr
    clear hr hv e1 e2
    go_enter Try.func26, Try.ntmps26
    go_wp2_with (go_at_call 78; refine HR.out.mono ?_; rintro e w1 ⟨rfl, p1, p2, HI⟩)
    go_ret2
    exact ⟨rfl, HI.below⟩
  · have ⟨v1, v2, h3⟩ := ok2_iff.1 hv
    rw [hv] at hr
    simp only [errB_t] at hr
    have hn1 := v1.1
    have hn2 := v1.2.1
    have HR := Lib.hid (And.intro hr (And.intro v1 (And.intro v2 h3)))
    clear hr v1 v2 h3
    cases hw : withinB step 0 ((xs.length : Int) - 1)
    · have e1 : splitN xs ys step = 0 := by simp [splitN, hw]
      have e2 : stepE true xs step = 1 := by simp [stepE, hw]
      rw [e1, e2]
      have HW := Lib.hid hw
      clear hv hw e1 e2
      go_enter Try.func26, Try.ntmps26
      go_wp2_with (first | (go_at_call 78; refine HR.out.1.mono ?_; rintro e w1 ⟨rfl, p1, p2, HI⟩) | (go_at_call 69; refine (within_any _ _ _ _).mono ?_; rw [HW.out]; rintro e w' ⟨rfl, rfl⟩))
      go_ret2
      exact ⟨rfl, HI.below⟩
    · have e2 : stepE true xs step = 0 := by simp [stepE, hw]
      have hw2 := of_decide_eq_true hw
      obtain ⟨t, rfl⟩ : ∃ t : Nat, step = t := ⟨step.toNat, by omega⟩
      have e1 : splitN xs ys t = splitAt xs ys t := by simp [splitN, hv, hw]
      have ht : t < xs.length := by omega
      rw [e1, e2]
      have HW := Lib.hid hw
      clear hv hw e1 e2 hw2
      go_enter Try.func26, Try.ntmps26
      go_wp2_with (first | (go_at_call 78; refine HR.out.1.mono ?_; rintro e w1 ⟨rfl, p1, p2, HI⟩) | (go_at_call 69; refine (within_any _ _ _ _).mono ?_; rw [HW.out]; rintro e w' ⟨rfl, rfl⟩) | (go_at_call 84; refine (divided_any _ _ _ _ _ _ _ _).mono ?_; rintro e w' ⟨rfl, rfl⟩))
      have hb0 : Below w1.heap.size w1 (((w1.alloc (.cells #[.slice A1 xs.length c1] 26)).alloc (.cells #[.slice A2 ys.length c2] 26)).alloc (.cells #[.int .i64 t] 3)) := (((Below.refl _ w1).alloc (Nat.le_refl _) _).alloc (by simp) _).alloc (by simp; omega) _
      refine (bestDiv_any (w1.heap.size + 1 + 1) w1.heap.size (w1.heap.size + 1) t xs ys _ (by simp [go_sem]) (by simp) ⟨by simp; omega, A1, c1, by simp [go_sem], (HI.r1.below hb0 (Nat.le_refl _)).mono (by simp; omega)⟩ ⟨by simp, A2, c2, by simp [go_sem], (HI.r2.below hb0 (Nat.le_refl _)).mono (by simp; omega)⟩ ht (by rw [HR.out.2.2.2]; exact ht) (by omega) HR.out.2.1.small HR.out.2.2.1.small).mono ?_
      rintro e w2 ⟨rfl, hb2⟩
      have HL := Lib.hid (HI.below.trans ((hb0.trans (hb2.mono (by simp; omega))).mono HI.below.size))
      clear hb0 hb2
      go_wp2
      go_ret2
      exact ⟨rfl, HL.out⟩
end Go.Proofs.Ytknkneccnhgjmaa
