/- Walks: flowing, Waited, Delay. -/
import Derived.Test.YtknkneccnhgjmaaB9
namespace Go.Proofs.Ytknkneccnhgjmaa
open Go.RowKit Go.Shelf

/-- Two boxed curves. -/
def w2b (w : World) (A1 A2 : Option Addr) (n1 c1 n2 c2 : Nat) : World := (w.alloc (.cells #[.slice A1 n1 c1] 26)).alloc (.cells #[.slice A2 n2 c2] 26)
theorem w2b_below (w : World) (A1 A2 : Option Addr) (n1 c1 n2 c2 : Nat) : Below w.heap.size w (w2b w A1 A2 n1 c1 n2 c2) := ((Below.refl _ w).alloc (Nat.le_refl _) _).alloc (by simp) _
theorem w2b_size (w : World) (A1 A2 : Option Addr) (n1 c1 n2 c2 : Nat) : (w2b w A1 A2 n1 c1 n2 c2).heap.size = w.heap.size + 1 + 1 := by simp [w2b]
structure In2 (w w1 : World) (A1 A2 : Option Addr) (xs ys : List Int) : Prop where
  r1 : Rd w1 w1.heap.size A1 xs
  r2 : Rd w1 w1.heap.size A2 ys
  below : Below w.heap.size w w1
  size : w.heap.size + 1 < w1.heap.size
theorem In2.ext {w w1 w2 : World} {A1 A2 : Option Addr} {xs ys : List Int} (h : In2 w w1 A1 A2 xs ys) (hb : Below w1.heap.size w1 w2) : In2 w w2 A1 A2 xs ys :=
  ⟨h.r1.ext hb, h.r2.ext hb, h.below.trans (hb.mono h.below.size), Nat.lt_of_lt_of_le h.size hb.size⟩
theorem w2b_after {w w1 : World} {A1 A2 : Option Addr} {c1 c2 : Nat} {xs ys : List Int} (r1 : Rd w w.heap.size A1 xs) (r2 : Rd w w.heap.size A2 ys) (hb : Below (w.heap.size + 1 + 1) (w2b w A1 A2 xs.length c1 ys.length c2) w1) :
    w1.cell? ⟨w.heap.size, 0, none⟩ = some (.slice A1 xs.length c1) ∧ w1.cell? ⟨w.heap.size + 1, 0, none⟩ = some (.slice A2 ys.length c2) ∧ In2 w w1 A1 A2 xs ys := by
  obtain ⟨rc, rf⟩ := bcell hb
  have h0 := w2b_below w A1 A2 xs.length c1 ys.length c2
  have hs := w2b_size w A1 A2 xs.length c1 ys.length c2
  have h1 : Below w.heap.size w w1 := h0.trans (hb.mono (by omega))
  have := hb.size
  exact ⟨by rw [rc _ _ (by omega)]; simp [w2b, go_sem], by rw [rc _ _ (by omega)]; simp [w2b, go_sem], ⟨r1.ext h1, r2.ext h1, h1, by omega⟩⟩
/-- The cells of two boxed curves, later on. -/
theorem keep2 {w w1 w2 : World} {v1 v2 : Value} (hs : w.heap.size + 1 < w1.heap.size) (hb : Below w1.heap.size w1 w2) (p1 : w1.cell? ⟨w.heap.size, 0, none⟩ = some v1) (p2 : w1.cell? ⟨w.heap.size + 1, 0, none⟩ = some v2) :
    w2.cell? ⟨w.heap.size, 0, none⟩ = some v1 ∧ w2.cell? ⟨w.heap.size + 1, 0, none⟩ = some v2 :=
  ⟨(hb.cell (p := ⟨w.heap.size, 0, none⟩) (show w.heap.size < _ by omega)).trans p1, (hb.cell (p := ⟨w.heap.size + 1, 0, none⟩) hs).trans p2⟩

def earlyAt (xs ys : List Int) (t : Nat) : Bool := decide (nth xs t < nth ys t)
def clashB (xs ys : List Int) : Bool := decide (0 ≤ firstIdx (earlyAt xs ys) xs.length)
theorem eg76 : ∀ args w, (callFunc 76 args).run Try.prog w = .ok (.enter 76 args) w := enters_of Try.func76 (by kernel_rfl) rfl

theorem contains_early (A1 A2 A : Option Addr) (c1 c2 c : Nat) (xs ys : List Int) (w : World) (r1 : Rd w w.heap.size A1 xs) (r2 : Rd w w.heap.size A2 ys) (r : Rd w w.heap.size A (upto xs.length)) (h2 : xs.length ≤ 1000) (h3 : ys.length = xs.length) :
    Calls Try.prog 74 #[.slice A (upto xs.length).length c, .func (.func 76) #[.agg #[.slice A1 xs.length c1, .slice A2 ys.length c2]] #[]] w fun e w' => e = .returned (.bool (clashB xs ys)) ∧ Below w.heap.size w w' := by
  have h := containsFunc_any 76 #[.agg #[.slice A1 xs.length c1, .slice A2 ys.length c2]] #[] eg76 A c (upto xs.length) (earlyAt xs ys) w r (by rw [upto_length]; exact h2) (fun i W hi hW => by
    rw [upto_length] at hi
    have := early_any i A1 A2 c1 c2 xs ys W (r1.ext hW) (r2.ext hW) hi (by omega)
    rw [nth_upto hi]
    exact this)
  rw [upto_length] at h ⊢
  exact h

def flowE (xs ys : List Int) : Int := if ok2 xs ys then (if clashB xs ys then 9 else 0) else 1

theorem right2' (A1 A2 : Option Addr) (c1 c2 : Nat) (xs ys : List Int) (w : World) (r1 : Rd w w.heap.size A1 xs) (r2 : Rd w w.heap.size A2 ys) (m1 : xs.length ≤ maxLen) (m2 : ys.length ≤ maxLen) :
    Calls Try.prog 78 #[.slice (some ⟨w.heap.size + 1 + 1, 0, none⟩) 2 2] ((w2b w A1 A2 xs.length c1 ys.length c2).alloc (.cells #[.slice A1 xs.length c1, .slice A2 ys.length c2] 26)) fun e w1 => e = .returned (.int .i64 (errB (ok2 xs ys))) ∧
      w1.cell? ⟨w.heap.size, 0, none⟩ = some (.slice A1 xs.length c1) ∧ w1.cell? ⟨w.heap.size + 1, 0, none⟩ = some (.slice A2 ys.length c2) ∧ In2 w w1 A1 A2 xs ys := by
  have hb0 := w2b_below w A1 A2 xs.length c1 ys.length c2
  have hr := right2 A1 A2 c1 c2 xs ys (w2b w A1 A2 xs.length c1 ys.length c2) (r1.ext hb0) (r2.ext hb0) m1 m2
  rw [w2b_size] at hr
  exact hr.mono fun e w1 ⟨he, hb⟩ => ⟨he, w2b_after r1 r2 hb⟩

set_option maxRecDepth 100000 in
set_option maxHeartbeats 800000 in
theorem flowing_any (A1 A2 : Option Addr) (c1 c2 : Nat) (xs ys : List Int) (w : World) (r1 : Rd w w.heap.size A1 xs) (r2 : Rd w w.heap.size A2 ys) (m1 : xs.length ≤ maxLen) (m2 : ys.length ≤ maxLen) :
    Calls Try.prog 105 #[.agg #[.slice A1 xs.length c1], .agg #[.slice A2 ys.length c2]] w fun e w' => e = .returned (.int .i64 (flowE xs ys)) ∧ Below w.heap.size w w' := by
  have hr := right2' A1 A2 c1 c2 xs ys w r1 r2 m1 m2
  clear r1 r2
  cases hv : ok2 xs ys
  · have hN : flowE xs ys = 1 := by simp [flowE, hv]
    rw [hv] at hr
    rw [hN]
    simp only [errB_f] at hr
    have HR := Lib.hid hr
    clear hr hv hN
    go_enter Try.func105, Try.ntmps105
    go_wp2_with (go_at_call 78; refine HR.out.mono ?_; rintro e w1 ⟨rfl, p1, p2, HI⟩)
    go_ret
    exact ⟨rfl, HI.below⟩
  · have ⟨v1, v2, h3⟩ := ok2_iff.1 hv
    have hN : flowE xs ys = if clashB xs ys then 9 else 0 := by simp [flowE, hv]
    rw [hv] at hr
    rw [hN]
    simp only [errB_t] at hr
    have HR := Lib.hid (And.intro hr (And.intro v1 h3))
    clear hr hv hN v1 v2 h3
    cases hc : clashB xs ys
    all_goals
      have HC := Lib.hid hc
      clear hc
      simp only [Bool.false_eq_true, if_false, if_true]
      go_enter Try.func105, Try.ntmps105
      go_upto_region 4 with (go_at_call 78; refine HR.out.1.mono ?_; rintro e w1 ⟨rfl, p1, p2, HI⟩)
      go_region_held3 (fun W => W.cell? ⟨w.heap.size, 0, none⟩ = some (.slice A1 xs.length c1) ∧ W.cell? ⟨w.heap.size + 1, 0, none⟩ = some (.slice A2 ys.length c2)) (go_keep) (first
        | (go_at_call 75; refine (steps_any A1 c1 xs _ (by have := HR.out.2.1.2.1; omega)).mono ?_; rintro e w2 ⟨A, c, rfl, hrd, hfr, hb⟩; have HL := Lib.hid (And.intro hrd (HI.ext (((Below.refl _ w1).drew).trans hb))); obtain ⟨s1, s2⟩ := keep2 HI.size (((Below.refl _ w1).drew).trans hb) p1 p2; clear hrd hfr hb)
        | (go_at_call 74; refine (contains_early A1 A2 A c1 c2 c xs ys w2 HL.out.2.r1 HL.out.2.r2 HL.out.1 (by have := HR.out.2.1.2.1; omega) HR.out.2.2).mono ?_; rw [HC.out]; rintro e w3 ⟨rfl, hb⟩; have HL3 := Lib.hid (HL.out.2.ext hb); obtain ⟨t1, t2⟩ := keep2 HL.out.2.size hb s1 s2; clear hb))
      all_goals (go_wp2; go_ret; exact ⟨rfl, HL3.out.below⟩)

set_option maxRecDepth 100000 in
set_option maxHeartbeats 800000 in
theorem Waited_any (A1 A2 : Option Addr) (c1 c2 : Nat) (xs ys : List Int) (w : World) (r1 : Rd w w.heap.size A1 xs) (r2 : Rd w w.heap.size A2 ys) (m1 : xs.length ≤ maxLen) (m2 : ys.length ≤ maxLen) :
    Calls Try.prog 45 #[.agg #[.slice A1 xs.length c1], .agg #[.slice A2 ys.length c2]] w fun e w' => e = .returned (.tuple #[.int .i64 (if flowE xs ys = 0 then waitI xs ys else 0), .int .i64 (flowE xs ys)]) ∧ Below w.heap.size w w' := by
  have hb0 := w2b_below w A1 A2 xs.length c1 ys.length c2
  have hr := flowing_any A1 A2 c1 c2 xs ys (w2b w A1 A2 xs.length c1 ys.length c2) (r1.ext hb0) (r2.ext hb0) m1 m2
  rw [w2b_size] at hr
  by_cases hz : flowE xs ys = 0
  · have hok : ok2 xs ys = true := by
      unfold flowE at hz
      cases h : ok2 xs ys
      · rw [h] at hz; simp at hz
      · rfl
    have ⟨v1, v2, h3⟩ := ok2_iff.1 hok
    rw [if_pos hz, hz]
    rw [hz] at hr
    have HR := Lib.hid (And.intro hr (And.intro r1 (And.intro r2 (And.intro v1 h3))))
    clear hr r1 r2 hb0 hz hok v1 v2 h3
    go_enter Try.func45, Try.ntmps45
    go_wp2_with (first | (go_at_call 105; refine HR.out.1.mono ?_; rintro e w1 ⟨rfl, hb⟩; obtain ⟨p1, p2, HI⟩ := w2b_after HR.out.2.1 HR.out.2.2.1 hb) | (go_at_call 91; refine (wait_any A1 A2 c1 c2 xs ys w1 HI.r1 HI.r2 HR.out.2.2.2.1.1 (by have := HR.out.2.2.2.1.2.1; omega) HR.out.2.2.2.2).mono ?_; rintro e w2 ⟨rfl, hb2⟩))
    go_ret2
    exact ⟨rfl, HI.below.trans (hb2.mono HI.below.size)⟩
  · rw [if_neg hz]
    have hne : (flowE xs ys != 0) = true := by simpa using hz
    have HR := Lib.hid (And.intro hr (And.intro r1 r2))
    clear hr r1 r2 hb0 hz
    generalize flowE xs ys = E at *
    go_enter Try.func45, Try.ntmps45
    go_wp2_with (first | (go_at_call 105; refine HR.out.1.mono ?_; rintro e w1 ⟨rfl, hb⟩; obtain ⟨p1, p2, HI⟩ := w2b_after HR.out.2.1 HR.out.2.2 hb))
    go_ret2
    exact ⟨rfl, HI.below⟩

def delayI (L S : List Int) : Int := waitI (closedL L) S
theorem Valid.closed_len {L : List Int} (_ : Valid L) : (closedL L).length = L.length := closedL_length L

set_option maxRecDepth 100000 in
set_option maxHeartbeats 800000 in
theorem Delay_any (A1 A2 : Option Addr) (c1 c2 : Nat) (xs ys : List Int) (w : World) (r1 : Rd w w.heap.size A1 xs) (r2 : Rd w w.heap.size A2 ys) (m1 : xs.length ≤ maxLen) (m2 : ys.length ≤ maxLen) :
    Calls Try.prog 30 #[.agg #[.slice A1 xs.length c1], .agg #[.slice A2 ys.length c2]] w fun e w' => e = .returned (.tuple #[.int .i64 (if ok2 xs ys then delayI xs ys else 0), .int .i64 (errB (ok2 xs ys))]) ∧ Below w.heap.size w w' := by
  have hr := right2' A1 A2 c1 c2 xs ys w r1 r2 m1 m2
  clear r1 r2
  cases hv : ok2 xs ys
  · rw [hv] at hr
    simp only [errB_f, Bool.false_eq_true, if_false] at hr ⊢
    have HR := Lib.hid hr
    clear hr hv
    go_enter Try.func30, Try.ntmps30
    go_wp2_with (go_at_call 78; refine HR.out.mono ?_; rintro e w1 ⟨rfl, p1, p2, HI⟩)
    go_ret2
    exact ⟨rfl, HI.below⟩
  · have ⟨v1, v2, h3⟩ := ok2_iff.1 hv
    rw [hv] at hr
    simp only [errB_t, if_true] at hr ⊢
    have HR := Lib.hid (And.intro hr (And.intro v1 h3))
    clear hr hv v1 v2 h3
    go_enter Try.func30, Try.ntmps30
    go_wp2_with (first | (go_at_call 78; refine HR.out.1.mono ?_; rintro e w1 ⟨rfl, p1, p2, HI⟩) | (go_at_call 88; refine (closed_any A1 c1 xs w1 HI.r1 HR.out.2.1).mono ?_; rintro e w2 ⟨A, c, A', c', rfl, hrd, hrd', hfr, hfr', hb⟩; have HL := Lib.hid (And.intro hrd (HI.ext hb)); obtain ⟨s1, s2⟩ := keep2 HI.size hb p1 p2; have hsz := HL.out.2.size; have hlt0 : w.heap.size < w2.heap.size := Nat.lt_of_succ_lt hsz; clear hrd hrd' hfr hfr' hb) | (go_at_call 91; refine (wait_any A A2 c c2 (closedL xs) ys _ (HL.out.1.ext ((Below.refl _ _).alloc (Nat.le_refl _) _)) (HL.out.2.r2.ext ((Below.refl _ _).alloc (Nat.le_refl _) _)) (by rw [closedL_length]; exact HR.out.2.1.1) (by rw [closedL_length]; have := HR.out.2.1.2.1; omega) (by rw [closedL_length]; exact HR.out.2.2)).mono ?_; rintro e w3 ⟨rfl, hb3⟩))
    go_ret2
    exact ⟨rfl, HL.out.2.below.trans ((((Below.refl _ w2).alloc (Nat.le_refl _) _).trans (hb3.mono (by simp))).mono HL.out.2.below.size)⟩
end Go.Proofs.Ytknkneccnhgjmaa
