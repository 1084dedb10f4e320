/- Walks: flowing, Waited, Delay. | Walks: Close, Tightest, Obeys. | Walks: Obeys, Split. | Walks: Behind, Left. | Walk: Left. | Walks: Stored. | Walks: Backlog. | Walks: Between's closures, slices.ContainsFunc on readings. | Walks: Between. -/
import Derived.Test.YtknkneccnhgjmaaF2
import Derived.RangeFuncNested
import Derived.RangeFuncBound
import Derived.RangeFuncCalls
import Derived.RangeFuncLeaves
import Derived.RangeFuncFrom
import Derived.OwnWalkIn
import Derived.TacticsInMore
import Derived.LoopNIn
import Derived.LoopIn
import Derived.RegionIn
import Derived.Shelf.AbstractIn
import Derived.Laws.EntriesVeiled
namespace Go.Proofs.Ytknkneccnhgjmaa
open Go.RowKit Go.Shelf

/-- Two boxed curves. -/
def w2b (w : World) (A1 A2 : Option Addr) (n1 c1 n2 c2 : Nat) : World := (w.alloc (.cells #[.slice A1 n1 c1] 26)).alloc (.cells #[.slice A2 n2 c2] 26)
theorem w2b_below (w : World) (A1 A2 : Option Addr) (n1 c1 n2 c2 : Nat) : Below w.heap.size w (w2b w A1 A2 n1 c1 n2 c2) := ((Below.refl _ w).alloc (Nat.le_refl _) _).alloc (by simp) _
theorem w2b_size (w : World) (A1 A2 : Option Addr) (n1 c1 n2 c2 : Nat) : (w2b w A1 A2 n1 c1 n2 c2).heap.size = w.heap.size + 1 + 1 := by simp [w2b]
structure In2 (w w1 : World) (A1 A2 : Option Addr) (xs ys : List Int) : Prop where
  r1 : Rd w1 w1.heap.size A1 xs
  r2 : Rd w1 w1.heap.size A2 ys
  below : Below w.heap.size w w1
  size : w.heap.size + 1 < w1.heap.size
theorem In2.ext {w w1 w2 : World} {A1 A2 : Option Addr} {xs ys : List Int} (h : In2 w w1 A1 A2 xs ys) (hb : Below w1.heap.size w1 w2) : In2 w w2 A1 A2 xs ys :=
  ⟨h.r1.ext hb, h.r2.ext hb, h.below.trans (hb.mono h.below.size), Nat.lt_of_lt_of_le h.size hb.size⟩
theorem w2b_after {w w1 : World} {A1 A2 : Option Addr} {c1 c2 : Nat} {xs ys : List Int} (r1 : Rd w w.heap.size A1 xs) (r2 : Rd w w.heap.size A2 ys) (hb : Below (w.heap.size + 1 + 1) (w2b w A1 A2 xs.length c1 ys.length c2) w1) :
    w1.cell? ⟨w.heap.size, 0, none⟩ = some (.slice A1 xs.length c1) ∧ w1.cell? ⟨w.heap.size + 1, 0, none⟩ = some (.slice A2 ys.length c2) ∧ In2 w w1 A1 A2 xs ys := by
  obtain ⟨rc, rf⟩ := bcell hb
  have h0 := w2b_below w A1 A2 xs.length c1 ys.length c2
  have hs := w2b_size w A1 A2 xs.length c1 ys.length c2
  have h1 : Below w.heap.size w w1 := h0.trans (hb.mono (by omega))
  have := hb.size
  exact ⟨by rw [rc _ _ (by omega)]; simp [w2b, go_sem], by rw [rc _ _ (by omega)]; simp [w2b, go_sem], ⟨r1.ext h1, r2.ext h1, h1, by omega⟩⟩
/-- The cells of two boxed curves, later on. -/
theorem keep2 {w w1 w2 : World} {v1 v2 : Value} (hs : w.heap.size + 1 < w1.heap.size) (hb : Below w1.heap.size w1 w2) (p1 : w1.cell? ⟨w.heap.size, 0, none⟩ = some v1) (p2 : w1.cell? ⟨w.heap.size + 1, 0, none⟩ = some v2) :
    w2.cell? ⟨w.heap.size, 0, none⟩ = some v1 ∧ w2.cell? ⟨w.heap.size + 1, 0, none⟩ = some v2 :=
  ⟨(hb.cell (p := ⟨w.heap.size, 0, none⟩) (show w.heap.size < _ by omega)).trans p1, (hb.cell (p := ⟨w.heap.size + 1, 0, none⟩) hs).trans p2⟩

def earlyAt (xs ys : List Int) (t : Nat) : Bool := decide (nth xs t < nth ys t)
def clashB (xs ys : List Int) : Bool := decide (0 ≤ firstIdx (earlyAt xs ys) xs.length)
theorem eg76 : ∀ args w, (callFunc 76 args).run Try.prog w = .ok (.enter 76 args) w := enters_of Try.func76 (by kernel_rfl) rfl

theorem contains_early (A1 A2 A : Option Addr) (c1 c2 c : Nat) (xs ys : List Int) (w : World) (r1 : Rd w w.heap.size A1 xs) (r2 : Rd w w.heap.size A2 ys) (r : Rd w w.heap.size A (upto xs.length)) (h2 : xs.length ≤ 1000) (h3 : ys.length = xs.length) :
    Calls Try.prog 74 #[.slice A (upto xs.length).length c, .func (.func 76) #[.agg #[.slice A1 xs.length c1, .slice A2 ys.length c2]] #[]] w fun e w' => e = .returned (.bool (clashB xs ys)) ∧ Below w.heap.size w w' := by
  have h := containsFunc_any 76 #[.agg #[.slice A1 xs.length c1, .slice A2 ys.length c2]] #[] eg76 A c (upto xs.length) (earlyAt xs ys) w r (by rw [upto_length]; exact h2) (fun i W hi hW => by
    rw [upto_length] at hi
    have := early_any i A1 A2 c1 c2 xs ys W (r1.ext hW) (r2.ext hW) hi (by omega)
    rw [nth_upto hi]
    exact this)
  rw [upto_length] at h ⊢
  exact h

def flowE (xs ys : List Int) : Int := if ok2 xs ys then (if clashB xs ys then 9 else 0) else 1

theorem right2' (A1 A2 : Option Addr) (c1 c2 : Nat) (xs ys : List Int) (w : World) (r1 : Rd w w.heap.size A1 xs) (r2 : Rd w w.heap.size A2 ys) (m1 : xs.length ≤ maxLen) (m2 : ys.length ≤ maxLen) :
    Calls Try.prog 78 #[.slice (some ⟨w.heap.size + 1 + 1, 0, none⟩) 2 2] ((w2b w A1 A2 xs.length c1 ys.length c2).alloc (.cells #[.slice A1 xs.length c1, .slice A2 ys.length c2] 26)) fun e w1 => e = .returned (.int .i64 (errB (ok2 xs ys))) ∧
      w1.cell? ⟨w.heap.size, 0, none⟩ = some (.slice A1 xs.length c1) ∧ w1.cell? ⟨w.heap.size + 1, 0, none⟩ = some (.slice A2 ys.length c2) ∧ In2 w w1 A1 A2 xs ys := by
  have hb0 := w2b_below w A1 A2 xs.length c1 ys.length c2
  have hr := right2 A1 A2 c1 c2 xs ys (w2b w A1 A2 xs.length c1 ys.length c2) (r1.ext hb0) (r2.ext hb0) m1 m2
  rw [w2b_size] at hr
  exact hr.mono fun e w1 ⟨he, hb⟩ => ⟨he, w2b_after r1 r2 hb⟩

set_option maxRecDepth 100000 in
set_option maxHeartbeats 800000 in
theorem flowing_any (A1 A2 : Option Addr) (c1 c2 : Nat) (xs ys : List Int) (w : World) (r1 : Rd w w.heap.size A1 xs) (r2 : Rd w w.heap.size A2 ys) (m1 : xs.length ≤ maxLen) (m2 : ys.length ≤ maxLen) :
    Calls Try.prog 105 #[.agg #[.slice A1 xs.length c1], .agg #[.slice A2 ys.length c2]] w fun e w' => e = .returned (.int .i64 (flowE xs ys)) ∧ Below w.heap.size w w' := by
  have hr := right2' A1 A2 c1 c2 xs ys w r1 r2 m1 m2
  clear r1 r2
  cases hv : ok2 xs ys
  · have hN : flowE xs ys = 1 := by simp [flowE, hv]
    rw [hv] at hr
    rw [hN]
    simp only [errB_f] at hr
    have HR := Lib.hid hr
    clear hr hv hN
    go_enter Try.func105, Try.ntmps105
    go_wp2_with (go_at_call 78; refine HR.out.mono ?_; rintro e w1 ⟨rfl, p1, p2, HI⟩)
    go_ret
    exact ⟨rfl, HI.below⟩
  · have ⟨v1, v2, h3⟩ := ok2_iff.1 hv
    have hN : flowE xs ys = if clashB xs ys then 9 else 0 := by simp [flowE, hv]
    rw [hv] at hr
    rw [hN]
    simp only [errB_t] at hr
    have HR := Lib.hid (And.intro hr (And.intro v1 h3))
    clear hr hv hN v1 v2 h3
    cases hc : clashB xs ys
    all_goals
      have HC := Lib.hid hc
      clear hc
      simp only [Bool.false_eq_true, if_false, if_true]
      go_enter Try.func105, Try.ntmps105
      go_upto_region 4 with (go_at_call 78; refine HR.out.1.mono ?_; rintro e w1 ⟨rfl, p1, p2, HI⟩)
      go_region_held3 (fun W => W.cell? ⟨w.heap.size, 0, none⟩ = some (.slice A1 xs.length c1) ∧ W.cell? ⟨w.heap.size + 1, 0, none⟩ = some (.slice A2 ys.length c2)) (go_keep) (first
        | (go_at_call 75; refine (steps_any A1 c1 xs _ (by have := HR.out.2.1.2.1; omega)).mono ?_; rintro e w2 ⟨A, c, rfl, hrd, hfr, hb⟩; have HL := Lib.hid (And.intro hrd (HI.ext (((Below.refl _ w1).drew).trans hb))); obtain ⟨s1, s2⟩ := keep2 HI.size (((Below.refl _ w1).drew).trans hb) p1 p2; clear hrd hfr hb)
        | (go_at_call 74; refine (contains_early A1 A2 A c1 c2 c xs ys w2 HL.out.2.r1 HL.out.2.r2 HL.out.1 (by have := HR.out.2.1.2.1; omega) HR.out.2.2).mono ?_; rw [HC.out]; rintro e w3 ⟨rfl, hb⟩; have HL3 := Lib.hid (HL.out.2.ext hb); obtain ⟨t1, t2⟩ := keep2 HL.out.2.size hb s1 s2; clear hb))
      all_goals (go_wp2; go_ret; exact ⟨rfl, HL3.out.below⟩)

set_option maxRecDepth 100000 in
set_option maxHeartbeats 800000 in
theorem Waited_any (A1 A2 : Option Addr) (c1 c2 : Nat) (xs ys : List Int) (w : World) (r1 : Rd w w.heap.size A1 xs) (r2 : Rd w w.heap.size A2 ys) (m1 : xs.length ≤ maxLen) (m2 : ys.length ≤ maxLen) :
    Calls Try.prog 45 #[.agg #[.slice A1 xs.length c1], .agg #[.slice A2 ys.length c2]] w fun e w' => e = .returned (.tuple #[.int .i64 (if flowE xs ys = 0 then waitI xs ys else 0), .int .i64 (flowE xs ys)]) ∧ Below w.heap.size w w' := by
  have hb0 := w2b_below w A1 A2 xs.length c1 ys.length c2
  have hr := flowing_any A1 A2 c1 c2 xs ys (w2b w A1 A2 xs.length c1 ys.length c2) (r1.ext hb0) (r2.ext hb0) m1 m2
  rw [w2b_size] at hr
  by_cases hz : flowE xs ys = 0
  · have hok : ok2 xs ys = true := by
      unfold flowE at hz
      cases h : ok2 xs ys
      · rw [h] at hz; simp at hz
      · rfl
    have ⟨v1, v2, h3⟩ := ok2_iff.1 hok
    rw [if_pos hz, hz]
    rw [hz] at hr
    have HR := Lib.hid (And.intro hr (And.intro r1 (And.intro r2 (And.intro v1 h3))))
    clear hr r1 r2 hb0 hz hok v1 v2 h3
    go_enter Try.func45, Try.ntmps45
    go_wp2_with (first | (go_at_call 105; refine HR.out.1.mono ?_; rintro e w1 ⟨rfl, hb⟩; obtain ⟨p1, p2, HI⟩ := w2b_after HR.out.2.1 HR.out.2.2.1 hb) | (go_at_call 91; refine (wait_any A1 A2 c1 c2 xs ys w1 HI.r1 HI.r2 HR.out.2.2.2.1.1 (by have := HR.out.2.2.2.1.2.1; omega) HR.out.2.2.2.2).mono ?_; rintro e w2 ⟨rfl, hb2⟩))
    go_ret2
    exact ⟨rfl, HI.below.trans (hb2.mono HI.below.size)⟩
  · rw [if_neg hz]
    have hne : (flowE xs ys != 0) = true := by simpa using hz
    have HR := Lib.hid (And.intro hr (And.intro r1 r2))
    clear hr r1 r2 hb0 hz
    generalize flowE xs ys = E at *
    go_enter Try.func45, Try.ntmps45
    go_wp2_with (first | (go_at_call 105; refine HR.out.1.mono ?_; rintro e w1 ⟨rfl, hb⟩; obtain ⟨p1, p2, HI⟩ := w2b_after HR.out.2.1 HR.out.2.2 hb))
    go_ret2
    exact ⟨rfl, HI.below⟩

def delayI (L S : List Int) : Int := waitI (closedL L) S
theorem Valid.closed_len {L : List Int} (_ : Valid L) : (closedL L).length = L.length := closedL_length L

set_option maxRecDepth 100000 in
set_option maxHeartbeats 800000 in
theorem Delay_any (A1 A2 : Option Addr) (c1 c2 : Nat) (xs ys : List Int) (w : World) (r1 : Rd w w.heap.size A1 xs) (r2 : Rd w w.heap.size A2 ys) (m1 : xs.length ≤ maxLen) (m2 : ys.length ≤ maxLen) :
    Calls Try.prog 30 #[.agg #[.slice A1 xs.length c1], .agg #[.slice A2 ys.length c2]] w fun e w' => e = .returned (.tuple #[.int .i64 (if ok2 xs ys then delayI xs ys else 0), .int .i64 (errB (ok2 xs ys))]) ∧ Below w.heap.size w w' := by
  have hr := right2' A1 A2 c1 c2 xs ys w r1 r2 m1 m2
  clear r1 r2
  cases hv : ok2 xs ys
  · rw [hv] at hr
    simp only [errB_f, Bool.false_eq_true, if_false] at hr ⊢
    have HR := Lib.hid hr
    clear hr hv
    go_enter Try.func30, Try.ntmps30
    go_wp2_with (go_at_call 78; refine HR.out.mono ?_; rintro e w1 ⟨rfl, p1, p2, HI⟩)
    go_ret2
    exact ⟨rfl, HI.below⟩
  · have ⟨v1, v2, h3⟩ := ok2_iff.1 hv
    rw [hv] at hr
    simp only [errB_t, if_true] at hr ⊢
    have HR := Lib.hid (And.intro hr (And.intro v1 h3))
    clear hr hv v1 v2 h3
    go_enter Try.func30, Try.ntmps30
    go_wp2_with (first | (go_at_call 78; refine HR.out.1.mono ?_; rintro e w1 ⟨rfl, p1, p2, HI⟩) | (go_at_call 88; refine (closed_any A1 c1 xs w1 HI.r1 HR.out.2.1).mono ?_; rintro e w2 ⟨A, c, A', c', rfl, hrd, hrd', hfr, hfr', hb⟩; have HL := Lib.hid (And.intro hrd (HI.ext hb)); obtain ⟨s1, s2⟩ := keep2 HI.size hb p1 p2; have hsz := HL.out.2.size; have hlt0 : w.heap.size < w2.heap.size := Nat.lt_of_succ_lt hsz; clear hrd hrd' hfr hfr' hb) | (go_at_call 91; refine (wait_any A A2 c c2 (closedL xs) ys _ (HL.out.1.ext ((Below.refl _ _).alloc (Nat.le_refl _) _)) (HL.out.2.r2.ext ((Below.refl _ _).alloc (Nat.le_refl _) _)) (by rw [closedL_length]; exact HR.out.2.1.1) (by rw [closedL_length]; have := HR.out.2.1.2.1; omega) (by rw [closedL_length]; exact HR.out.2.2)).mono ?_; rintro e w3 ⟨rfl, hb3⟩))
    go_ret2
    exact ⟨rfl, HL.out.2.below.trans ((((Below.refl _ w2).alloc (Nat.le_refl _) _).trans (hb3.mono (by simp))).mono HL.out.2.below.size)⟩
end Go.Proofs.Ytknkneccnhgjmaa
namespace Go.Proofs.Ytknkneccnhgjmaa
open Go.RowKit Go.Shelf

theorem right1 (A1 : Option Addr) (c1 : Nat) (xs : List Int) (w : World) (r1 : Rd w w.heap.size A1 xs) (m1 : xs.length ≤ maxLen) :
    Calls Try.prog 78 #[.slice (some ⟨w.heap.size, 0, none⟩) 1 1] (w.alloc (.cells #[.slice A1 xs.length c1] 26)) fun e w' => e = .returned (.int .i64 (errB (validB xs))) ∧ Below w.heap.size w w' := by
  have hb : Below w.heap.size w (w.alloc (.cells #[.slice A1 xs.length c1] 26)) := (Below.refl _ w).alloc (Nat.le_refl _) _
  have h : RdC (w.alloc (.cells #[.slice A1 xs.length c1] 26)) (w.alloc (.cells #[.slice A1 xs.length c1] 26)).heap.size (some ⟨w.heap.size, 0, none⟩) [⟨A1, c1, xs⟩] := by
    refine ⟨fun _ => ⟨_, _, rfl, by simp, fun i hi => ?_⟩, fun i hi => ?_⟩
    · match i, hi with
      | 0, _ => simp [go_sem, Cv.v]
    · match i, hi with
      | 0, _ => exact r1.ext hb
  have hc := right_any (some ⟨w.heap.size, 0, none⟩) 1 [⟨A1, c1, xs⟩] _ h (by simp) (fun i hi => by
    match i, hi with
    | 0, _ => exact m1)
  rw [rightB_one] at hc
  exact hc.mono fun e w' ⟨he, hb'⟩ => ⟨he, hb.trans (hb'.mono (by simp))⟩

theorem RCE.alloc {w w' : World} {xs : List Int} {E : Int} {e : Ending} (h : RCE w xs E e w') (o : Obj) : RCE w xs E e (w'.alloc o) := by
  obtain ⟨A, c, he, h1, h2, h3⟩ := h
  exact ⟨A, c, he, h1.ext ((Below.refl _ w').alloc (Nat.le_refl _) _), h2, h3.alloc h3.size _⟩

/-- A boxed curve, and a result's cell. -/
def w1c (w : World) (A1 : Option Addr) (n1 c1 : Nat) : World := (w.alloc (.cells #[.slice A1 n1 c1] 26)).alloc (.cells #[.slice none 0 0] 26)
theorem w1c_below (w : World) (A1 : Option Addr) (n1 c1 : Nat) : Below w.heap.size w (w1c w A1 n1 c1) := ((Below.refl _ w).alloc (Nat.le_refl _) _).alloc (by simp) _
theorem w1c_size (w : World) (A1 : Option Addr) (n1 c1 : Nat) : (w1c w A1 n1 c1).heap.size = w.heap.size + 1 + 1 := by simp [w1c]
structure In1 (w w1 : World) (A1 : Option Addr) (xs : List Int) : Prop where
  r1 : Rd w1 w1.heap.size A1 xs
  below : Below w.heap.size w w1
  size : w.heap.size + 1 < w1.heap.size
theorem right1' (A1 : Option Addr) (c1 : Nat) (xs : List Int) (w : World) (r1 : Rd w w.heap.size A1 xs) (m1 : xs.length ≤ maxLen) :
    Calls Try.prog 78 #[.slice (some ⟨w.heap.size + 1 + 1, 0, none⟩) 1 1] ((w1c w A1 xs.length c1).alloc (.cells #[.slice A1 xs.length c1] 26)) fun e w1 => e = .returned (.int .i64 (errB (validB xs))) ∧
      w1.cell? ⟨w.heap.size, 0, none⟩ = some (.slice A1 xs.length c1) ∧ w1.cell? ⟨w.heap.size + 1, 0, none⟩ = some (.slice none 0 0) ∧ w1.frozen? ⟨w.heap.size + 1, 0, none⟩ = false ∧ In1 w w1 A1 xs := by
  have hb0 := w1c_below w A1 xs.length c1
  have hr := right1 A1 c1 xs (w1c w A1 xs.length c1) (r1.ext hb0) m1
  rw [w1c_size] at hr
  refine hr.mono fun e w1 ⟨he, hb⟩ => ?_
  obtain ⟨rc, rf⟩ := bcell hb
  have hs := w1c_size w A1 xs.length c1
  have h1 : Below w.heap.size w w1 := hb0.trans (hb.mono (by omega))
  have := hb.size
  exact ⟨he, by rw [rc _ _ (by omega)]; simp [w1c, go_sem], by rw [rc _ _ (by omega)]; simp [w1c, go_sem], by rw [rf _ _ (by omega)]; simp [w1c, go_sem], ⟨r1.ext h1, h1, by omega⟩⟩

set_option maxRecDepth 100000 in
set_option maxHeartbeats 800000 in
theorem Close_any (A1 : Option Addr) (c1 : Nat) (xs : List Int) (w : World) (r1 : Rd w w.heap.size A1 xs) (m1 : xs.length ≤ maxLen) :
    Calls Try.prog 59 #[.agg #[.slice A1 xs.length c1]] w fun e w' => RCE w (pick (validB xs) (closedL xs)) (errB (validB xs)) e w' := by
  have hr := right1' A1 c1 xs w r1 m1
  clear r1
  cases hv : validB xs
  · rw [hv] at hr
    simp only [errB_f, pick_f] at hr ⊢
    have HR := Lib.hid hr
    clear hr hv
    go_enter Try.func59, Try.ntmps59
    go_wp2_with (go_at_call 78; refine HR.out.mono ?_; rintro e w1 ⟨rfl, p1, q1, q2, HI⟩)
    exact bodyPost_ret (v := .tuple #[.agg #[.slice none 0 0], .int .i64 1]) (by simp [results, Try.results59, go_sem, q1]) rfl (fin_nil HI.below (by omega))
  · have v1 := (validB_iff xs).1 hv
    rw [hv] at hr
    simp only [errB_t, pick_t] at hr ⊢
    have HR := Lib.hid (And.intro hr v1)
    clear hr hv v1
    go_enter Try.func59, Try.ntmps59
    go_wp2_with (first | (go_at_call 78; refine HR.out.1.mono ?_; rintro e w1 ⟨rfl, p1, q1, q2, HI⟩) | (go_at_call 88; refine (closed_any A1 c1 xs w1 HI.r1 HR.out.2).mono ?_; rintro e w2 ⟨A, c, A', c', rfl, hrd, hrd', hfr, hfr', hb⟩; have HL := Lib.hid (And.intro hrd (And.intro hfr hb)); have hsz : w.heap.size + 1 < w2.heap.size := Nat.lt_of_lt_of_le HI.size hb.size; have s1 := (hb.cell (p := ⟨w.heap.size + 1, 0, none⟩) HI.size).trans q1; have s2 := (hb.frozen (p := ⟨w.heap.size + 1, 0, none⟩) HI.size).trans q2; clear hrd hrd' hfr hfr' hb))
    have t1 : ((w2.setCell ⟨w.heap.size + 1, 0, none⟩ (.slice A (closedL xs).length c)).alloc (.cells #[.slice A (closedL xs).length c] 26)).cell? ⟨w.heap.size + 1, 0, none⟩ = some (.slice A (closedL xs).length c) := by
      rw [World.cell?_alloc_past _ _ _ (by rw [World.size_setCell]; exact hsz)]
      exact World.cell?_setCell_same' _ _ _ (by rw [s1]; rfl)
    exact bodyPost_ret (v := .tuple #[.agg #[.slice A (closedL xs).length c], .int .i64 0]) (by simp [results, Try.results59, go_sem, t1]) rfl
      ((fin_ce (w1 := w1) HI.below HL.out.2.2 HL.out.1 HL.out.2.1 (by omega) HI.size).alloc _)

set_option maxRecDepth 100000 in
set_option maxHeartbeats 800000 in
theorem Tightest_any (A1 : Option Addr) (c1 : Nat) (xs : List Int) (w : World) (r1 : Rd w w.heap.size A1 xs) (m1 : xs.length ≤ maxLen) :
    Calls Try.prog 53 #[.agg #[.slice A1 xs.length c1]] w fun e w' => RCE w (pick (validB xs) (leadL xs xs)) (errB (validB xs)) e w' := by
  have hr := right1' A1 c1 xs w r1 m1
  clear r1
  cases hv : validB xs
  · rw [hv] at hr
    simp only [errB_f, pick_f] at hr ⊢
    have HR := Lib.hid hr
    clear hr hv
    go_enter Try.func53, Try.ntmps53
    go_wp2_with (go_at_call 78; refine HR.out.mono ?_; rintro e w1 ⟨rfl, p1, q1, q2, HI⟩)
    exact bodyPost_ret (v := .tuple #[.agg #[.slice none 0 0], .int .i64 1]) (by simp [results, Try.results53, go_sem, q1]) rfl (fin_nil HI.below (by omega))
  · have v1 := (validB_iff xs).1 hv
    rw [hv] at hr
    simp only [errB_t, pick_t] at hr ⊢
    have HR := Lib.hid (And.intro hr v1)
    clear hr hv v1
    go_enter Try.func53, Try.ntmps53
    go_wp2_with (first | (go_at_call 78; refine HR.out.1.mono ?_; rintro e w1 ⟨rfl, p1, q1, q2, HI⟩) | (go_at_call 79; refine (lead_any A1 A1 c1 c1 xs xs w1 HI.r1 HI.r1 HR.out.2.1 HR.out.2.2.1 rfl HR.out.2.small HR.out.2.small).mono ?_; rintro e w2 ⟨A, c, rfl, hrd, hfr, hb⟩; have HL := Lib.hid (And.intro hrd (And.intro hfr hb)); have s1 := (hb.cell (p := ⟨w.heap.size + 1, 0, none⟩) HI.size).trans q1; have s2 := (hb.frozen (p := ⟨w.heap.size + 1, 0, none⟩) HI.size).trans q2; clear hrd hfr hb))
    exact bodyPost_ret (v := .tuple #[.agg #[.slice A (leadL xs xs).length c], .int .i64 0]) (by simp [results, Try.results53, go_sem, s1]) rfl
      (fin_ce (w1 := w1) HI.below HL.out.2.2 HL.out.1 HL.out.2.1 (by omega) HI.size)
end Go.Proofs.Ytknkneccnhgjmaa
namespace Go.Proofs.Ytknkneccnhgjmaa
open Go.RowKit Go.Shelf

/-- Two boxed curves and a result's span. -/
def w2s (w : World) (A1 A2 : Option Addr) (n1 c1 n2 c2 : Nat) : World := (w2b w A1 A2 n1 c1 n2 c2).alloc (.cells #[.int .i64 0, .int .i64 0] 73)
theorem w2s_below (w : World) (A1 A2 : Option Addr) (n1 c1 n2 c2 : Nat) : Below w.heap.size w (w2s w A1 A2 n1 c1 n2 c2) := (w2b_below w A1 A2 n1 c1 n2 c2).alloc (by rw [w2b_size]; omega) _
theorem w2s_size (w : World) (A1 A2 : Option Addr) (n1 c1 n2 c2 : Nat) : (w2s w A1 A2 n1 c1 n2 c2).heap.size = w.heap.size + 1 + 1 + 1 := by simp [w2s, w2b]
theorem right2s (A1 A2 : Option Addr) (c1 c2 : Nat) (xs ys : List Int) (w : World) (r1 : Rd w w.heap.size A1 xs) (r2 : Rd w w.heap.size A2 ys) (m1 : xs.length ≤ maxLen) (m2 : ys.length ≤ maxLen) :
    Calls Try.prog 78 #[.slice (some ⟨w.heap.size + 1 + 1 + 1, 0, none⟩) 2 2] ((w2s w A1 A2 xs.length c1 ys.length c2).alloc (.cells #[.slice A1 xs.length c1, .slice A2 ys.length c2] 26)) fun e w1 => e = .returned (.int .i64 (errB (ok2 xs ys))) ∧
      w1.cell? ⟨w.heap.size, 0, none⟩ = some (.slice A1 xs.length c1) ∧ w1.cell? ⟨w.heap.size + 1, 0, none⟩ = some (.slice A2 ys.length c2) ∧ Hid (w1.heap[w.heap.size + 1 + 1]? = some (.cells #[.int .i64 0, .int .i64 0] 73 (0, 0)) ∧ In2 w w1 A1 A2 xs ys) := by
  have hb0 := w2s_below w A1 A2 xs.length c1 ys.length c2
  have hr := right2 A1 A2 c1 c2 xs ys (w2s w A1 A2 xs.length c1 ys.length c2) (r1.ext hb0) (r2.ext hb0) m1 m2
  have hs := w2s_size w A1 A2 xs.length c1 ys.length c2
  have hs2 := w2b_size w A1 A2 xs.length c1 ys.length c2
  rw [hs] at hr
  refine hr.mono fun e w1 ⟨he, hb⟩ => ?_
  obtain ⟨rc, rf⟩ := bcell hb
  have h1 : Below w.heap.size w w1 := hb0.trans (hb.mono (by omega))
  have hq : (w2s w A1 A2 xs.length c1 ys.length c2).heap[w.heap.size + 1 + 1]? = some (.cells #[.int .i64 0, .int .i64 0] 73 (0, 0)) := by
    have := heap_alloc_new (w2b w A1 A2 xs.length c1 ys.length c2) (.cells #[.int .i64 0, .int .i64 0] 73)
    rwa [hs2] at this
  have := hb.size
  exact ⟨he, by rw [rc _ _ (by omega)]; simp [w2s, w2b, go_sem], by rw [rc _ _ (by omega)]; simp [w2s, w2b, go_sem], (hb.block _ (by omega)).trans hq, ⟨r1.ext h1, r2.ext h1, h1, by omega⟩⟩

/-- The cells of a block of two. -/
theorem two_cells {w : World} {g : Nat} {v0 v1 : Value} {ty : TypeId} (h : w.heap[g]? = some (.cells #[v0, v1] ty (0, 0))) :
    w.cell? ⟨g, 0, none⟩ = some v0 ∧ w.cell? ⟨g, 1, none⟩ = some v1 ∧ w.frozen? ⟨g, 0, none⟩ = false ∧ w.frozen? ⟨g, 1, none⟩ = false :=
  ⟨by rw [cell_of_row w g 0 _ _ _ h]; rfl, by rw [cell_of_row w g 1 _ _ _ h]; rfl, frozen_of_row w g 0 _ _ h, frozen_of_row w g 1 _ _ h⟩

theorem two_set {w : World} {g : Nat} {v0 v1 : Value} (h0 : w.cell? ⟨g, 0, none⟩ = some v0) (h1 : w.cell? ⟨g, 1, none⟩ = some v1) (x y : Value) :
    ((w.setCell ⟨g, 0, none⟩ x).setCell ⟨g, 1, none⟩ y).cell? ⟨g, 0, none⟩ = some x ∧ ((w.setCell ⟨g, 0, none⟩ x).setCell ⟨g, 1, none⟩ y).cell? ⟨g, 1, none⟩ = some y := by
  have n1 : (w.setCell ⟨g, 0, none⟩ x).cell? ⟨g, 1, none⟩ = some v1 := (World.cell?_setCell_other _ _ _ _ (by simp)).trans h1
  exact ⟨(World.cell?_setCell_other _ _ _ _ (by simp)).trans (World.cell?_setCell_same' _ _ _ (by rw [h0]; rfl)), World.cell?_setCell_same' _ _ _ (by rw [n1]; rfl)⟩

def obeysB (xs ys : List Int) : Bool := (brk xs ys).isNone
def pickI (b : Bool) (n : Int) : Int := if b then n else 0
theorem pickI_f (n : Int) : pickI false n = 0 := rfl
theorem pickI_t (n : Int) : pickI true n = n := rfl

set_option maxRecDepth 100000 in
set_option maxHeartbeats 800000 in
theorem Obeys_any (A1 A2 : Option Addr) (c1 c2 : Nat) (xs ys : List Int) (w : World) (r1 : Rd w w.heap.size A1 xs) (r2 : Rd w w.heap.size A2 ys) (m1 : xs.length ≤ maxLen) (m2 : ys.length ≤ maxLen) :
    Calls Try.prog 57 #[.agg #[.slice A1 xs.length c1], .agg #[.slice A2 ys.length c2]] w fun e w' => e = .returned (.tuple #[.agg #[.int .i64 (pickI (ok2 xs ys) (brkLo (brk xs ys))), .int .i64 (pickI (ok2 xs ys) (brkHi (brk xs ys)))], .bool (ok2 xs ys && obeysB xs ys), .int .i64 (errB (ok2 xs ys))]) ∧ Below w.heap.size w w' := by
  have hr := right2s A1 A2 c1 c2 xs ys w r1 r2 m1 m2
  clear r1 r2
  cases hv : ok2 xs ys
  · rw [hv] at hr
    simp only [errB_f, pickI_f, Bool.false_and] at hr ⊢
    have HR := Lib.hid hr
    clear hr hv
    go_enter Try.func57, Try.ntmps57
    go_wp2_with (go_at_call 78; refine HR.out.mono ?_; rintro e w1 ⟨rfl, p1, p2, HI⟩; obtain ⟨q1, q2, q3, q4⟩ := two_cells HI.out.1)
    exact bodyPost_ret (v := .tuple #[.agg #[.int .i64 0, .int .i64 0], .bool false, .int .i64 1]) (by simp [results, Try.results57, go_sem, q1, q2]) rfl
      ⟨rfl, (HI.out.2.below.setCell (by show w.heap.size ≤ w.heap.size + 1 + 1; omega) _).setCell (by show w.heap.size ≤ w.heap.size + 1 + 1; omega) _⟩
  · have ⟨v1, v2, h3⟩ := ok2_iff.1 hv
    rw [hv] at hr
    simp only [errB_t, pickI_t, Bool.true_and] at hr ⊢
    have hob : obeysB xs ys = !(brk xs ys).isSome := by unfold obeysB; cases brk xs ys <;> rfl
    rw [hob]
    have HR := Lib.hid (And.intro hr (And.intro v1 h3))
    have hbr := fun (W : World) (hW : In2 w W A1 A2 xs ys) => breaks_any A1 A2 c1 c2 xs ys W hW.r1 hW.r2 v1.1 (by have := v1.2.1; omega) h3 v1.small
    generalize brkLo (brk xs ys) = lo at *
    generalize brkHi (brk xs ys) = hi at *
    generalize (brk xs ys).isSome = b at *
    have HB := Lib.hid hbr
    clear hr hv v1 v2 h3 hbr hob
    go_enter Try.func57, Try.ntmps57
    go_wp2_with (first | (go_at_call 78; refine HR.out.1.mono ?_; rintro e w1 ⟨rfl, p1, p2, HI⟩) | (go_at_call 100; refine (HB.out w1 HI.out.2).mono ?_; rintro e w2 ⟨rfl, hb⟩; have hsz0 := HI.out.1; obtain ⟨q1, q2, q3, q4⟩ := two_cells ((hb.block _ (Array.getElem?_eq_some_iff.1 hsz0).1).trans hsz0); have hsz : w.heap.size + 1 + 1 < w2.heap.size := Nat.lt_of_lt_of_le (Array.getElem?_eq_some_iff.1 hsz0).1 hb.size; have HL := Lib.hid (HI.out.2.below.trans (hb.mono HI.out.2.below.size)); clear hb hsz0))
    obtain ⟨t1, t2⟩ := two_set q1 q2 (.int .i64 lo) (.int .i64 hi)
    have u1 := (World.cell?_alloc_past (w := (w2.setCell ⟨w.heap.size + 1 + 1, 0, none⟩ (.int .i64 lo)).setCell ⟨w.heap.size + 1 + 1, 1, none⟩ (.int .i64 hi)) (.cells #[.int .i64 lo, .int .i64 hi] 73) (w.heap.size + 1 + 1) 0 (by simp only [World.size_setCell]; exact hsz)).trans t1
    have u2 := (World.cell?_alloc_past (w := (w2.setCell ⟨w.heap.size + 1 + 1, 0, none⟩ (.int .i64 lo)).setCell ⟨w.heap.size + 1 + 1, 1, none⟩ (.int .i64 hi)) (.cells #[.int .i64 lo, .int .i64 hi] 73) (w.heap.size + 1 + 1) 1 (by simp only [World.size_setCell]; exact hsz)).trans t2
    refine bodyPost_ret (v := .tuple #[.agg #[.int .i64 lo, .int .i64 hi], .bool (!b), .int .i64 0]) (by simp [results, Try.results57, go_sem, u1, u2]) rfl ⟨rfl, ?_⟩
    exact ((HL.out.setCell (by show w.heap.size ≤ w.heap.size + 1 + 1; omega) _).setCell (by show w.heap.size ≤ w.heap.size + 1 + 1; omega) _).alloc (by simp only [World.size_setCell]; omega) _

def splitN (xs ys : List Int) (step : Int) : Int := if ok2 xs ys && withinB step 0 ((xs.length : Int) - 1) then (splitAt xs ys step.toNat : Int) else 0
def stepE (ok : Bool) (xs : List Int) (step : Int) : Int := if ok && withinB step 0 ((xs.length : Int) - 1) then 0 else 1

set_option maxRecDepth 100000 in
set_option maxHeartbeats 800000 in
theorem Split_any (A1 A2 : Option Addr) (c1 c2 : Nat) (xs ys : List Int) (step : Int) (w : World) (r1 : Rd w w.heap.size A1 xs) (r2 : Rd w w.heap.size A2 ys) (m1 : xs.length ≤ maxLen) (m2 : ys.length ≤ maxLen) :
    Calls Try.prog 26 #[.agg #[.slice A1 xs.length c1], .agg #[.slice A2 ys.length c2], .int .i64 step] w fun e w' => e = .returned (.tuple #[.int .i64 (splitN xs ys step), .int .i64 (stepE (ok2 xs ys) xs step)]) ∧ Below w.heap.size w w' := by
  have hr := right2' A1 A2 c1 c2 xs ys w r1 r2 m1 m2
  clear r1 r2
  cases hv : ok2 xs ys
  · have e1 : splitN xs ys step = 0 := by simp [splitN, hv]
    have e2 : stepE false xs step = 1 := by simp [stepE]
    rw [hv] at hr
    rw [e1, e2]
    simp only [errB_f] at hr
    have HR := Lib.hid hr
    clear hr hv e1 e2
    go_enter Try.func26, Try.ntmps26
    go_wp2_with (go_at_call 78; refine HR.out.mono ?_; rintro e w1 ⟨rfl, p1, p2, HI⟩)
    go_ret2
    exact ⟨rfl, HI.below⟩
  · have ⟨v1, v2, h3⟩ := ok2_iff.1 hv
    rw [hv] at hr
    simp only [errB_t] at hr
    have hn1 := v1.1
    have hn2 := v1.2.1
    have HR := Lib.hid (And.intro hr (And.intro v1 (And.intro v2 h3)))
    clear hr v1 v2 h3
    cases hw : withinB step 0 ((xs.length : Int) - 1)
    · have e1 : splitN xs ys step = 0 := by simp [splitN, hw]
      have e2 : stepE true xs step = 1 := by simp [stepE, hw]
      rw [e1, e2]
      have HW := Lib.hid hw
      clear hv hw e1 e2
      go_enter Try.func26, Try.ntmps26
      go_wp2_with (first | (go_at_call 78; refine HR.out.1.mono ?_; rintro e w1 ⟨rfl, p1, p2, HI⟩) | (go_at_call 69; refine (within_any _ _ _ _).mono ?_; rw [HW.out]; rintro e w' ⟨rfl, rfl⟩))
      go_ret2
      exact ⟨rfl, HI.below⟩
    · have e2 : stepE true xs step = 0 := by simp [stepE, hw]
      have hw2 := of_decide_eq_true hw
      obtain ⟨t, rfl⟩ : ∃ t : Nat, step = t := ⟨step.toNat, by omega⟩
      have e1 : splitN xs ys t = splitAt xs ys t := by simp [splitN, hv, hw]
      have ht : t < xs.length := by omega
      rw [e1, e2]
      have HW := Lib.hid hw
      clear hv hw e1 e2 hw2
      go_enter Try.func26, Try.ntmps26
      go_wp2_with (first | (go_at_call 78; refine HR.out.1.mono ?_; rintro e w1 ⟨rfl, p1, p2, HI⟩) | (go_at_call 69; refine (within_any _ _ _ _).mono ?_; rw [HW.out]; rintro e w' ⟨rfl, rfl⟩) | (go_at_call 84; refine (divided_any _ _ _ _ _ _ _ _).mono ?_; rintro e w' ⟨rfl, rfl⟩))
      have hb0 : Below w1.heap.size w1 (((w1.alloc (.cells #[.slice A1 xs.length c1] 26)).alloc (.cells #[.slice A2 ys.length c2] 26)).alloc (.cells #[.int .i64 t] 3)) := (((Below.refl _ w1).alloc (Nat.le_refl _) _).alloc (by simp) _).alloc (by simp; omega) _
      refine (bestDiv_any (w1.heap.size + 1 + 1) w1.heap.size (w1.heap.size + 1) t xs ys _ (by simp [go_sem]) (by simp) ⟨by simp; omega, A1, c1, by simp [go_sem], (HI.r1.below hb0 (Nat.le_refl _)).mono (by simp; omega)⟩ ⟨by simp, A2, c2, by simp [go_sem], (HI.r2.below hb0 (Nat.le_refl _)).mono (by simp; omega)⟩ ht (by rw [HR.out.2.2.2]; exact ht) (by omega) HR.out.2.1.small HR.out.2.2.1.small).mono ?_
      rintro e w2 ⟨rfl, hb2⟩
      have HL := Lib.hid (HI.below.trans ((hb0.trans (hb2.mono (by simp; omega))).mono HI.below.size))
      clear hb0 hb2
      go_wp2
      go_ret2
      exact ⟨rfl, HL.out⟩
end Go.Proofs.Ytknkneccnhgjmaa
namespace Go.Proofs.Ytknkneccnhgjmaa
open Go.RowKit Go.Shelf

theorem nth_closedL {L : List Int} {t : Nat} (h : t < L.length) : nth (closedL L) t = closAt L t := nth_tab h
theorem closedL_bd {L : List Int} (v : Valid L) (t : Nat) : 0 ≤ nth (closedL L) t ∧ nth (closedL L) t ≤ 1073741824 := by
  rcases Nat.lt_or_ge t L.length with h | h
  · rw [nth_closedL h]; exact closAt_bd v.bd t
  · rw [nth_out (by rw [closedL_length]; exact h)]; omega
theorem closedL_small {L : List Int} (v : Valid L) : Small (closedL L) := fun t => by have := closedL_bd v t; omega
theorem leadAt_bd {xs ys : List Int} (hx : ∀ i, 0 ≤ nth xs i ∧ nth xs i ≤ 1073741824) (hy : ∀ i, 0 ≤ nth ys i ∧ nth ys i ≤ 1073741824) (t : Nat) : 0 ≤ leadAt xs ys t ∧ leadAt xs ys t ≤ 1073741824 :=
  maxTo_bd _ _ (by omega) _ (fun i _ => by have := hx (t + i); have := hy i; omega)
theorem nth_leadL {xs ys : List Int} {t : Nat} (h : t < xs.length) : nth (leadL xs ys) t = leadAt xs ys t := nth_tab h

def behindAt (L S : List Int) (t : Nat) : Int := max (nth (closedL L) t) (nth (leadL (closedL L) S) t)
def behindL (L S : List Int) : List Int := tab (closedL L).length (behindAt L S)
theorem eg103 : ∀ args w, (callFunc 103 args).run Try.prog w = .ok (.enter 103 args) w := enters_of Try.func103 (by kernel_rfl) rfl

set_option maxRecDepth 100000 in
set_option maxHeartbeats 1600000 in
theorem Behind_any (A1 A2 : Option Addr) (c1 c2 : Nat) (xs ys : List Int) (w : World) (r1 : Rd w w.heap.size A1 xs) (r2 : Rd w w.heap.size A2 ys) (m1 : xs.length ≤ maxLen) (m2 : ys.length ≤ maxLen) :
    Calls Try.prog 40 #[.agg #[.slice A1 xs.length c1], .agg #[.slice A2 ys.length c2]] w fun e w' => RCE w (pick (ok2 xs ys) (behindL xs ys)) (errB (ok2 xs ys)) e w' := by
  have hb0 := w2c_below w A1 A2 xs.length c1 ys.length c2
  have hr := right2 A1 A2 c1 c2 xs ys (w2c w A1 A2 xs.length c1 ys.length c2) (r1.ext hb0) (r2.ext hb0) m1 m2
  rw [w2c_size'] at hr
  cases hv : ok2 xs ys
  · rw [hv] at hr
    simp only [errB_f, pick_f] at hr ⊢
    have HR := Lib.hid (And.intro hr (And.intro r1 r2))
    clear hr r1 r2 hb0 hv
    go_enter Try.func40, Try.ntmps40
    go_wp2_with (go_at_call 78; refine HR.out.1.mono ?_; rintro e w1 ⟨rfl, hb⟩; obtain ⟨p1, p2, q1, q2, HH⟩ := w2c_after HR.out.2.1 HR.out.2.2 hb)
    exact bodyPost_ret (v := .tuple #[.agg #[.slice none 0 0], .int .i64 1]) (by simp [results, Try.results40, go_sem, q1]) rfl (fin_nil HH.out.2.2.1 (by omega))
  · have ⟨v1, v2, h3⟩ := ok2_iff.1 hv
    rw [hv] at hr
    simp only [errB_t, pick_t] at hr ⊢
    have HR := Lib.hid (And.intro hr (And.intro r1 (And.intro r2 (And.intro v1 (And.intro v2 h3)))))
    have hl := closedL_length xs
    have hl1 : 1 ≤ (closedL xs).length := by rw [hl]; exact v1.1
    have hl2 : (closedL xs).length ≤ 121 := by rw [hl]; exact v1.2.1
    have hl3 : ys.length = (closedL xs).length := by rw [hl]; exact h3
    have HH3 := Lib.hid hl3
    clear hr r1 r2 hb0 hv v1 v2 h3 hl hl3
    go_enter Try.func40, Try.ntmps40
    go_upto_region 5 with (first | (go_at_call 78; refine HR.out.1.mono ?_; rintro e w1 ⟨rfl, hb⟩; obtain ⟨p1, p2, q1, q2, HH⟩ := w2c_after HR.out.2.1 HR.out.2.2.1 hb) | (go_at_call 88; refine (closed_any A1 c1 xs w1 HH.out.1 HR.out.2.2.2.1).mono ?_; rintro e w2 ⟨A, c, A', c', rfl, hrd, hrd', hfr, hfr', hb2⟩))
    have hsz : w.heap.size + 1 + 1 < w2.heap.size := Nat.lt_of_lt_of_le HH.out.2.2.2 hb2.size
    have hw3 : Below w2.heap.size w2 (w2.alloc (.cells #[.slice A (closedL xs).length c] 26)) := (Below.refl _ w2).alloc (Nat.le_refl _) _
    have s1 : (w2.alloc (.cells #[.slice A (closedL xs).length c] 26)).cell? ⟨w.heap.size + 1, 0, none⟩ = some (.slice A2 ys.length c2) := by rw [World.cell?_alloc_past _ _ _ (by omega)]; exact (hb2.cell (p := ⟨w.heap.size + 1, 0, none⟩) (show w.heap.size + 1 < _ by have := HH.out.2.2.2; omega)).trans p2
    have s2 : (w2.alloc (.cells #[.slice A (closedL xs).length c] 26)).cell? ⟨w.heap.size + 1 + 1, 0, none⟩ = some (.slice none 0 0) := by rw [World.cell?_alloc_past _ _ _ hsz]; exact (hb2.cell (p := ⟨w.heap.size + 1 + 1, 0, none⟩) HH.out.2.2.2).trans q1
    have s3 : (w2.alloc (.cells #[.slice A (closedL xs).length c] 26)).frozen? ⟨w.heap.size + 1 + 1, 0, none⟩ = false := by rw [World.frozen?_alloc_past _ _ _ hsz]; exact (hb2.frozen (p := ⟨w.heap.size + 1 + 1, 0, none⟩) HH.out.2.2.2).trans q2
    have s4 : (w2.alloc (.cells #[.slice A (closedL xs).length c] 26)).cell? ⟨w2.heap.size, 0, none⟩ = some (.slice A (closedL xs).length c) := by simp [go_sem]
    have s5 : w2.heap.size < (w2.alloc (.cells #[.slice A (closedL xs).length c] 26)).heap.size := by simp
    have hB : Below w.heap.size w (w2.alloc (.cells #[.slice A (closedL xs).length c] 26)) := HH.out.2.2.1.trans ((hb2.trans (hw3.mono hb2.size)).mono HH.out.2.2.1.size)
    have hL := hrd.ext hw3
    have hS := (HH.out.2.1.ext hb2).ext hw3
    have hB1 : Below w1.heap.size w1 (w2.alloc (.cells #[.slice A (closedL xs).length c] 26)) := hb2.trans (hw3.mono hb2.size)
    generalize hg2 : w2.alloc (.cells #[.slice A (closedL xs).length c] 26) = w3 at *
    generalize hgg : w2.heap.size = g at *
    have HL := Lib.hid (And.intro hL (And.intro hS (And.intro hB hB1)))
    clear hg2 hgg hL hS hB hB1 hrd hrd' hfr hfr' hb2 hw3 p1 p2 q1 q2
    go_upto_region 6 with (go_at_call 79; refine (lead_any A A2 c c2 (closedL xs) ys w3 HL.out.1 HL.out.2.1 hl1 hl2 HH3.out (closedL_small HR.out.2.2.2.1) HR.out.2.2.2.2.1.small).mono ?_; rintro e w4 ⟨A5, c5, rfl, hrd, hfr, hb4⟩)
    have hw5 : Below w4.heap.size w4 (w4.alloc (.cells #[.slice A5 (leadL (closedL xs) ys).length c5] 26)) := (Below.refl _ w4).alloc (Nat.le_refl _) _
    have hb5 := hb4.trans (hw5.mono hb4.size)
    have hsz5 : w.heap.size + 1 + 1 < w3.heap.size := by omega
    have t1 : (w4.alloc (.cells #[.slice A5 (leadL (closedL xs) ys).length c5] 26)).cell? ⟨g, 0, none⟩ = some (.slice A (closedL xs).length c) := (hb5.cell (p := ⟨g, 0, none⟩) s5).trans s4
    have t2 := (hb5.cell (p := ⟨w.heap.size + 1 + 1, 0, none⟩) hsz5).trans s2
    have t3 := (hb5.frozen (p := ⟨w.heap.size + 1 + 1, 0, none⟩) hsz5).trans s3
    have hx : Held (w4.alloc (.cells #[.slice A5 (leadL (closedL xs) ys).length c5] 26)) g 0 (closedL xs) := ⟨Nat.lt_of_lt_of_le s5 hb5.size, A, c, t1, HL.out.1.ext hb5⟩
    have hy : Held (w4.alloc (.cells #[.slice A5 (leadL (closedL xs) ys).length c5] 26)) w4.heap.size 0 (leadL (closedL xs) ys) := ⟨by simp, A5, c5, by simp [go_sem], hrd.ext hw5⟩
    have he := each_pure 103 #[.pointer (some ⟨g, 0, none⟩), .pointer (some ⟨w4.heap.size, 0, none⟩)] eg103 (closedL xs).length hl1 hl2 (behindAt xs ys) (w4.alloc (.cells #[.slice A5 (leadL (closedL xs) ys).length c5] 26))
      (fun t W ht hW => behind1_any t _ _ (closedL xs) (leadL (closedL xs) ys) W (hx.below hW) (hy.below hW) ht (by rw [leadL_length]; exact ht))
    have HE := Lib.hid (And.intro he hb5)
    clear he hx hy hw5 hb5 hrd hfr hb4 s1 s2 s3 s4
    go_wp2_with (go_at_call 71; refine HE.out.1.mono ?_)
    rintro e w6 ⟨A6, c6, rfl, hrd6, hfr6, hb6⟩
    have hlt5 : w.heap.size + 1 + 1 < (w4.alloc (.cells #[.slice A5 (leadL (closedL xs) ys).length c5] 26)).heap.size := Nat.lt_of_lt_of_le hsz5 HE.out.2.size
    have u1 := (hb6.cell (p := ⟨w.heap.size + 1 + 1, 0, none⟩) hlt5).trans t2
    have u2 := (hb6.frozen (p := ⟨w.heap.size + 1 + 1, 0, none⟩) hlt5).trans t3
    have hB6 : Below w1.heap.size w1 w6 := HL.out.2.2.2.trans ((HE.out.2.trans (hb6.mono HE.out.2.size)).mono HL.out.2.2.2.size)
    have HF := Lib.hid (fin_ce (E := 0) (zs := behindL xs ys) (c := c6) (g := w.heap.size + 1 + 1) HH.out.2.2.1 hB6 hrd6 (hfr6.mono (Nat.le_trans HL.out.2.2.2.size HE.out.2.size)) (by omega) HH.out.2.2.2)
    clear hrd6 hfr6 hb6 hB6 hlt5 t1 t2 t3
    go_wp2
    exact bodyPost_ret (v := .tuple #[.agg #[.slice A6 (behindL xs ys).length c6], .int .i64 0]) (by simp [results, Try.results40, go_sem, u1]; rfl) rfl HF.out
end Go.Proofs.Ytknkneccnhgjmaa
namespace Go.Proofs.Ytknkneccnhgjmaa
open Go.RowKit Go.Shelf

def leftAt (S L : List Int) (t : Nat) : Int := maxTo (fun s => nth S s - nth L s) (t + 1)
def leftL (S L : List Int) : List Int := tab S.length (leftAt S L)
theorem leftL_length (S L : List Int) : (leftL S L).length = S.length := tab_length _ _
theorem eg92 : ∀ args w, (callFunc 92 args).run Try.prog w = .ok (.enter 92 args) w := enters_of Try.func92 (by kernel_rfl) rfl

/-- The state of Left's closure. -/
def LeftI (w1 : World) (h : Nat → Int) (t : Nat) (W : World) : Prop :=
  W.cell? ⟨w1.heap.size, 0, none⟩ = some (.int .i64 (maxTo h t)) ∧ W.frozen? ⟨w1.heap.size, 0, none⟩ = false ∧ Below w1.heap.size w1 W ∧ w1.heap.size < W.heap.size

theorem left_tells {w1 : World} {B1 B2 : Nat} {xs ys : List Int} (hx : Held w1 B1 0 xs) (hy : Held w1 B2 0 ys) (h3 : ys.length = xs.length) (sx : Small xs) (sy : Small ys) (H : Nat) (hH : H = w1.heap.size + 1) :
    Tells 92 #[.pointer (some ⟨w1.heap.size, 0, none⟩), .pointer (some ⟨B1, 0, none⟩), .pointer (some ⟨B2, 0, none⟩)] xs.length H (leftAt xs ys) (LeftI w1 (fun s => nth xs s - nth ys s)) := by
  refine ⟨fun t W W' ⟨h1, h2, h4, h5⟩ hb => ⟨(hb.cell (p := ⟨w1.heap.size, 0, none⟩) (show w1.heap.size < H by omega)).trans h1, (hb.frozen (p := ⟨w1.heap.size, 0, none⟩) (show w1.heap.size < H by omega)).trans h2, h4.trans (hb.mono (by omega)), Nat.lt_of_lt_of_le h5 hb.size⟩, fun t W ht ⟨h1, h2, h4, h5⟩ hs => ?_⟩
  refine (left1_any t w1.heap.size B1 B2 _ xs ys W h1 h2 (hx.below h4) (hy.below h4) ht (by omega) sx sy).mono ?_
  rintro e W' ⟨rfl, h6, h7, hg⟩
  have hb : Below w1.heap.size W W' := ⟨hg.os, hg.tape, hg.output, hg.size, fun k hk => hg.block k (by omega) (fun e => by injection e; omega)⟩
  exact ⟨rfl, ⟨h6, h7, h4.trans hb, Nat.lt_of_lt_of_le h5 hg.size⟩, ⟨hg.size, fun k hk hl => hg.block k hl (fun e => by injection e; omega)⟩⟩

set_option maxRecDepth 100000 in
set_option maxHeartbeats 1600000 in
theorem Left_any (A1 A2 : Option Addr) (c1 c2 : Nat) (xs ys : List Int) (w : World) (r1 : Rd w w.heap.size A1 xs) (r2 : Rd w w.heap.size A2 ys) (m1 : xs.length ≤ maxLen) (m2 : ys.length ≤ maxLen) :
    Calls Try.prog 31 #[.agg #[.slice A1 xs.length c1], .agg #[.slice A2 ys.length c2]] w fun e w' => RCE w (pick (ok2 xs ys) (leftL xs ys)) (errB (ok2 xs ys)) e w' := by
  have hb0 := w2c_below w A1 A2 xs.length c1 ys.length c2
  have hr := right2 A1 A2 c1 c2 xs ys (w2c w A1 A2 xs.length c1 ys.length c2) (r1.ext hb0) (r2.ext hb0) m1 m2
  rw [w2c_size'] at hr
  cases hv : ok2 xs ys
  · rw [hv] at hr
    simp only [errB_f, pick_f] at hr ⊢
    have HR := Lib.hid (And.intro hr (And.intro r1 r2))
    clear hr r1 r2 hb0 hv
    go_enter Try.func31, Try.ntmps31
    go_wp2_with (go_at_call 78; refine HR.out.1.mono ?_; rintro e w1 ⟨rfl, hb⟩; obtain ⟨p1, p2, q1, q2, HH⟩ := w2c_after HR.out.2.1 HR.out.2.2 hb)
    exact bodyPost_ret (v := .tuple #[.agg #[.slice none 0 0], .int .i64 1]) (by simp [results, Try.results31, go_sem, q1]) rfl (fin_nil HH.out.2.2.1 (by omega))
  · have ⟨v1, v2, h3⟩ := ok2_iff.1 hv
    rw [hv] at hr
    simp only [errB_t, pick_t] at hr ⊢
    have HR := Lib.hid (And.intro hr (And.intro r1 (And.intro r2 (And.intro v1 (And.intro v2 h3)))))
    clear hr r1 r2 hb0 hv v1 v2 h3
    go_enter Try.func31, Try.ntmps31
    go_upto_region 5 with (go_at_call 78; refine HR.out.1.mono ?_; rintro e w1 ⟨rfl, hb⟩; obtain ⟨p1, p2, q1, q2, HH⟩ := w2c_after HR.out.2.1 HR.out.2.2.1 hb)
    have hsz := HH.out.2.2.2
    have hw5 : Below w1.heap.size w1 (w1.alloc (.cells #[.int .i64 0] 3)) := (Below.refl _ w1).alloc (Nat.le_refl _) _
    have hx : Held w1 w.heap.size 0 xs := ⟨by omega, A1, c1, p1, HH.out.1⟩
    have hy : Held w1 (w.heap.size + 1) 0 ys := ⟨by omega, A2, c2, p2, HH.out.2.1⟩
    have he := each_any 92 #[.pointer (some ⟨w1.heap.size, 0, none⟩), .pointer (some ⟨w.heap.size, 0, none⟩), .pointer (some ⟨w.heap.size + 1, 0, none⟩)] eg92 xs.length HR.out.2.2.2.1.1 HR.out.2.2.2.1.2.1 (leftAt xs ys) (LeftI w1 (fun s => nth xs s - nth ys s)) (w1.alloc (.cells #[.int .i64 0] 3))
      ⟨by simp [go_sem, maxTo], by simp [go_sem], hw5, by simp⟩ (left_tells hx hy HR.out.2.2.2.2.2 HR.out.2.2.2.1.small HR.out.2.2.2.2.1.small _ (by simp))
    have t1 : (w1.alloc (.cells #[.int .i64 0] 3)).cell? ⟨w.heap.size, 0, none⟩ = some (.slice A1 xs.length c1) := by rw [World.cell?_alloc_past _ _ _ (by omega)]; exact p1
    have HE := Lib.hid he
    clear he hx hy hw5
    go_wp2_with (go_at_call 71; refine HE.out.mono ?_)
    rintro e w6 ⟨A6, c6, rfl, hrd6, hfr6, hI6⟩
    obtain ⟨_, _, hb6, _⟩ := hI6
    have u1 := (hb6.cell (p := ⟨w.heap.size + 1 + 1, 0, none⟩) hsz).trans q1
    have u2 := (hb6.frozen (p := ⟨w.heap.size + 1 + 1, 0, none⟩) hsz).trans q2
    have hl6 := leftL_length xs ys
    have HF := Lib.hid (fin_ce (E := 0) (zs := leftL xs ys) (c := c6) (g := w.heap.size + 1 + 1) HH.out.2.2.1 hb6 hrd6 (hfr6.mono (by simp)) (by omega) HH.out.2.2.2)
    rw [hl6] at HF
    clear hrd6 hfr6 hb6 t1 p1 p2 q1 q2 hl6
    go_wp2
    exact bodyPost_ret (v := .tuple #[.agg #[.slice A6 xs.length c6], .int .i64 0]) (by simp [results, Try.results31, go_sem, u1]) rfl HF.out
end Go.Proofs.Ytknkneccnhgjmaa
namespace Go.Proofs.Ytknkneccnhgjmaa
open Go.RowKit Go.Shelf
attribute [local go_sem] Oper.semAt_some

theorem eg90 : ∀ args w, (callFunc 90 args).run Try.prog w = .ok (.enter 90 args) w := enters_of Try.func90 (by kernel_rfl) rfl
theorem eg106 : ∀ args w, (callFunc 106 args).run Try.prog w = .ok (.enter 106 args) w := enters_of Try.func106 (by kernel_rfl) rfl

set_option maxRecDepth 100000 in
set_option maxHeartbeats 2000000 in
theorem stored1_in (n : Nat) (hn : 2 ≤ n) (l n₀ B1 B2 : Nat) (A1 A2 : Option Addr) (c1 c2 : Nat) (xs ys : List Int) (J Jx : List (Nat × Int) → World → Prop)
    (hY : ∀ pre x W, J pre W → pre.length < xs.length → YieldAt Fence.wide (n - 1) Try.prog l (encP x) W fun e W' =>
      (e = .returned (.bool true) ∧ J (pre ++ [x]) W' ∧ Below n₀ W W') ∨ (e = .returned (.bool false) ∧ Jx (pre ++ [x]) W'))
    (hJd : ∀ s W W', J s W → Below W.heap.size W W' → J s W') (w W : World) (hn0 : w.heap.size ≤ n₀) (hw : Below w.heap.size w W)
    (l1 : B1 < w.heap.size) (l2 : B2 < w.heap.size) (f1 : w.cell? ⟨B1, 0, none⟩ = some (.slice A1 xs.length c1)) (f2 : w.cell? ⟨B2, 0, none⟩ = some (.func (.func 90) #[.agg #[.slice A1 xs.length c1, .slice A2 ys.length c2]] #[]))
    (r1 : Rd w w.heap.size A1 xs) (r2 : Rd w w.heap.size A2 ys) (h3 : ys.length = xs.length) (hm : xs.length ≤ 1000) (sx : Small xs) (sy : Small ys) (h0 : J [] W) :
    CallsIn Fence.wide n Try.prog 106 #[.func (.yield l) #[] #[], .pointer (some ⟨B1, 0, none⟩), .pointer (some ⟨B2, 0, none⟩)] W fun e W' => (∃ v, e = .returned v) ∧
      ((∃ zs, zs = came (fun s => (s, nth xs s - nth ys s)) xs.length ∧ J zs W') ∨ (∃ pre, True ∧ Jx pre W')) := by
  have f1' := (hw.cell (p := ⟨B1, 0, none⟩) l1).trans f1
  refine callsIn_of_wp Try.func106 rfl trivial ?_ rfl
  simp only [Try.ntmps106, List.size_toArray, List.length_cons, List.length_nil, Nat.reduceAdd, Nat.reduceSub, Array.replicate_succ, Array.replicate_zero, List.push_toArray, List.append_toArray, List.nil_append, List.cons_append]
  gi_wp2
  gi_loopw [8] (fun i wr => ∃ k : Nat, k ≤ xs.length ∧ i = .int .i64 k ∧ J (came (fun s => (s, nth xs s - nth ys s)) k) wr ∧ Below w.heap.size w wr)
    (fun i _ => xs.length - (intOf i).toNat)
  case atStart => exact ⟨0, Nat.zero_le _, rfl, h0, hw⟩
  case round =>
    obtain ⟨k, hk, rfl, hJs, hnx⟩ := hrel
    by_cases hlt : k < xs.length
    · have hltz : (k : Int) < (xs.length : Int) := by omega
      have q2 := (hnx.cell (p := ⟨B2, 0, none⟩) l2).trans f2
      have hL : CallsIn Fence.wide (n - 1) Try.prog 90 #[.agg #[.slice A1 xs.length c1, .slice A2 ys.length c2], .int .i64 (k : Int)] wr fun e w' => e = .returned (.int .i64 (nth xs k - nth ys k)) ∧ Below wr.heap.size wr w' :=
        callsIn_wide.2 (lies_any k A1 A2 c1 c2 xs ys wr (r1.ext hnx) (r2.ext hnx) hlt (by omega) sx sy)
      rw [h3] at hL q2
      have HY := Lib.hid (And.intro hY (And.intro hJd (And.intro hJs hnx)))
      have HL := Lib.hid hL
      clear hL hJs hnx hY hJd f1 f2 r1 r2 f1'
      gi_wp2_with (refine ⟨trivial, fun _ => by omega, HL.out.mono ?_⟩; rintro e w2 ⟨rfl, hb2⟩)
      obtain ⟨fn, tmps, assign, body, hy, hR⟩ := HY.out.1 _ (k, nth xs k - nth ys k) w2 (HY.out.2.1 _ _ _ HY.out.2.2.1 hb2) (by rw [came_length]; exact hlt)
      dsimp only [encP] at hy
      gi_wp2
      rw [hy]
      gi_wp2
      refine ⟨fun _ => by omega, hR.mono ?_⟩
      rintro e W3 (⟨rfl, hJ3, hk3⟩ | ⟨rfl, hJx3⟩)
      · gi_wp2
        go_roundw
        case rel => exact ⟨k + 1, by omega, by simp, by rw [came_succ]; exact hJ3, HY.out.2.2.2.trans ((hb2.mono HY.out.2.2.2.size).trans (hk3.mono hn0))⟩
        case measure => simp [intOf]; omega
      · gi_wp2
        refine bodyPost_ret (results_none rfl _ _ _) rfl ?_
        exact ⟨⟨_, rfl⟩, .inr ⟨_, trivial, hJx3⟩⟩
    · have hltz : ¬ (k : Int) < (xs.length : Int) := by omega
      obtain rfl : k = xs.length := by omega
      gi_wp2
      go_end0
      exact ⟨⟨_, rfl⟩, .inl hJs⟩

theorem stored1_stops (n : Nat) (hn : 2 ≤ n) (B1 B2 : Nat) (A1 A2 : Option Addr) (c1 c2 : Nat) (xs ys : List Int) (w : World)
    (l1 : B1 < w.heap.size) (l2 : B2 < w.heap.size) (f1 : w.cell? ⟨B1, 0, none⟩ = some (.slice A1 xs.length c1)) (f2 : w.cell? ⟨B2, 0, none⟩ = some (.func (.func 90) #[.agg #[.slice A1 xs.length c1, .slice A2 ys.length c2]] #[]))
    (r1 : Rd w w.heap.size A1 xs) (r2 : Rd w w.heap.size A2 ys) (h3 : ys.length = xs.length) (hm : xs.length ≤ 1000) (sx : Small xs) (sy : Small ys) :
    SeqStopsK Fence.wide n Try.prog 106 #[.pointer (some ⟨B1, 0, none⟩), .pointer (some ⟨B2, 0, none⟩)] encP (Below w.heap.size) (fun zs => zs = came (fun s => (s, nth xs s - nth ys s)) xs.length) (fun _ => True) xs.length w :=
  fun l J Jx W hW hJ _ hY h0 => stored1_in n hn l w.heap.size B1 B2 A1 A2 c1 c2 xs ys J Jx hY (fun s V V' h hb => hJ s V V' none h ⟨hb.os, hb.tape, hb.output, hb.size, fun i hi _ => hb.block i hi⟩ (fun _ e => by cases e)) w W (Nat.le_refl _) hW l1 l2 f1 f2 r1 r2 h3 hm sx sy h0

theorem lt_alloc {w : World} {o : Obj} {n : Nat} (h : n < w.heap.size + 1) : n < (w.alloc o).heap.size := by simpa using h
def gtB (a b : Int) : Bool := decide (a > b)
/-- The first step at which the most lies in a reach, and how much does. -/
def liesAt (xs ys : List Int) (t : Nat) : Int := nth xs t - nth ys t
def mostAt (xs ys : List Int) : Nat := argb gtB (liesAt xs ys) (xs.length - 1)
theorem bestLies_any (B1 B2 : Nat) (A1 A2 : Option Addr) (c1 c2 : Nat) (xs ys : List Int) (w : World)
    (l1 : B1 < w.heap.size) (l2 : B2 < w.heap.size) (f1 : w.cell? ⟨B1, 0, none⟩ = some (.slice A1 xs.length c1)) (f2 : w.cell? ⟨B2, 0, none⟩ = some (.func (.func 90) #[.agg #[.slice A1 xs.length c1, .slice A2 ys.length c2]] #[]))
    (r1 : Rd w w.heap.size A1 xs) (r2 : Rd w w.heap.size A2 ys) (h3 : ys.length = xs.length) (h1 : 1 ≤ xs.length) (hm : xs.length ≤ 1000) (sx : Small xs) (sy : Small ys) :
    Calls Try.prog 83 #[.func (.func 106) #[] #[.pointer (some ⟨B1, 0, none⟩), .pointer (some ⟨B2, 0, none⟩)], .func (.func 107) #[] #[]] w
      fun e w' => e = .returned (.tuple #[.int .i64 (mostAt xs ys), .int .i64 (liesAt xs ys (mostAt xs ys))]) ∧ Below w.heap.size w w' := by
  have h := callsIn_wide.1 (best_in 3 (by omega) 106 _ eg106 107 gtB eg107 (fun x y W => gt_any x y W) xs.length _ w (stored1_stops 2 (by omega) B1 B2 A1 A2 c1 c2 xs ys w l1 l2 f1 f2 r1 r2 h3 hm sx sy))
  have e : bestL gtB (came (fun s => (s, nth xs s - nth ys s)) (xs.length - 1 + 1)) = some (mostAt xs ys, liesAt xs ys (mostAt xs ys)) := bestL_came gtB (liesAt xs ys) (xs.length - 1)
  rw [show xs.length - 1 + 1 = xs.length by omega] at e
  rw [e] at h
  exact h

set_option maxRecDepth 100000 in
set_option maxHeartbeats 800000 in
theorem Stored_any (A1 A2 : Option Addr) (c1 c2 : Nat) (xs ys : List Int) (w : World) (r1 : Rd w w.heap.size A1 xs) (r2 : Rd w w.heap.size A2 ys) (m1 : xs.length ≤ maxLen) (m2 : ys.length ≤ maxLen) :
    Calls Try.prog 43 #[.agg #[.slice A1 xs.length c1], .agg #[.slice A2 ys.length c2]] w fun e w' => e = .returned (.tuple #[.int .i64 (if flowE xs ys = 0 then liesAt xs ys (mostAt xs ys) else 0), .int .i64 (if flowE xs ys = 0 then mostAt xs ys else 0), .int .i64 (flowE xs ys)]) ∧ Below w.heap.size w w' := by
  have hb0 := w2b_below w A1 A2 xs.length c1 ys.length c2
  have hr := flowing_any A1 A2 c1 c2 xs ys (w2b w A1 A2 xs.length c1 ys.length c2) (r1.ext hb0) (r2.ext hb0) m1 m2
  rw [w2b_size] at hr
  by_cases hz : flowE xs ys = 0
  · have hok : ok2 xs ys = true := by
      unfold flowE at hz
      cases h : ok2 xs ys
      · rw [h] at hz; simp at hz
      · rfl
    have ⟨v1, v2, h3⟩ := ok2_iff.1 hok
    rw [if_pos hz, if_pos hz, hz]
    rw [hz] at hr
    have HR := Lib.hid (And.intro hr (And.intro r1 (And.intro r2 (And.intro v1 (And.intro v2 h3)))))
    clear hr r1 r2 hb0 hz hok v1 v2 h3
    go_enter Try.func43, Try.ntmps43
    go_wp2_with (first
      | (go_at_call 105; refine HR.out.1.mono ?_; rintro e w1 ⟨rfl, hb⟩; obtain ⟨p1, p2, HI⟩ := w2b_after HR.out.2.1 HR.out.2.2.1 hb)
      | (go_at_call 83; refine (bestLies_any w.heap.size w1.heap.size A1 A2 c1 c2 xs ys _ (lt_alloc (Nat.lt_succ_of_lt (Nat.lt_of_succ_lt HI.size))) (lt_alloc (Nat.lt_succ_self _)) ((World.cell?_alloc_lt w1 _ ⟨w.heap.size, 0, none⟩ (Nat.lt_of_succ_lt HI.size)).trans p1) (by simp [go_sem])
          (HI.r1.ext ((Below.refl _ _).alloc (Nat.le_refl _) _)) (HI.r2.ext ((Below.refl _ _).alloc (Nat.le_refl _) _)) HR.out.2.2.2.2.2 HR.out.2.2.2.1.1 (by have := HR.out.2.2.2.1.2.1; omega) HR.out.2.2.2.1.small HR.out.2.2.2.2.1.small).mono ?_; rintro e w2 ⟨rfl, hb2⟩))

    go_ret3
    exact ⟨rfl, HI.below.trans ((((Below.refl _ w1).alloc (Nat.le_refl _) _).trans (hb2.mono (by simp))).mono HI.below.size)⟩
  · rw [if_neg hz, if_neg hz]
    have hne : (flowE xs ys != 0) = true := by simpa using hz
    have HR := Lib.hid (And.intro hr (And.intro r1 r2))
    clear hr r1 r2 hb0 hz
    generalize flowE xs ys = E at *
    go_enter Try.func43, Try.ntmps43
    go_wp2_with (first | (go_at_call 105; refine HR.out.1.mono ?_; rintro e w1 ⟨rfl, hb⟩; obtain ⟨p1, p2, HI⟩ := w2b_after HR.out.2.1 HR.out.2.2 hb))

    go_ret3
    exact ⟨rfl, HI.below⟩
end Go.Proofs.Ytknkneccnhgjmaa
namespace Go.Proofs.Ytknkneccnhgjmaa
open Go.RowKit Go.Shelf

/-- The first place at which the greatest of k numbers stands, and it, but at least 0. -/
def topI (h : Nat → Int) : Nat → Nat × Int
  | 0 => (0, 0)
  | k + 1 => if (topI h k).2 < h k then (k, h k) else topI h k
theorem topI_bd (h : Nat → Int) (M : Int) (h0 : 0 ≤ M) (k : Nat) (hh : ∀ i, i < k → h i ≤ M) : 0 ≤ (topI h k).2 ∧ (topI h k).2 ≤ M ∧ (topI h k).1 ≤ k := by
  induction k with
  | zero => exact ⟨Int.le_refl _, h0, Nat.le_refl _⟩
  | succ k ih =>
    have := ih fun i hi => hh i (by omega)
    have := hh k (by omega)
    unfold topI
    split
    · exact ⟨by simp only; omega, by simp only; omega, by simp only; omega⟩
    · exact ⟨by omega, by omega, by omega⟩

/-- Two boxed curves and a surge's cells. -/
def w2g (w : World) (A1 A2 : Option Addr) (n1 c1 n2 c2 : Nat) : World := (w2b w A1 A2 n1 c1 n2 c2).alloc (.cells #[.slice none 0 0, .slice none 0 0, .int .i64 0] 45)
theorem w2g_below (w : World) (A1 A2 : Option Addr) (n1 c1 n2 c2 : Nat) : Below w.heap.size w (w2g w A1 A2 n1 c1 n2 c2) := (w2b_below w A1 A2 n1 c1 n2 c2).alloc (by rw [w2b_size]; omega) _
theorem w2g_size (w : World) (A1 A2 : Option Addr) (n1 c1 n2 c2 : Nat) : (w2g w A1 A2 n1 c1 n2 c2).heap.size = w.heap.size + 1 + 1 + 1 := by simp [w2g, w2b]
/-- A surge's cells as they were laid. -/
structure Surge0 (w : World) (g : Nat) : Prop where
  c0 : w.cell? ⟨g, 0, none⟩ = some (.slice none 0 0)
  c1 : w.cell? ⟨g, 1, none⟩ = some (.slice none 0 0)
  c2 : w.cell? ⟨g, 2, none⟩ = some (.int .i64 0)
  f0 : w.frozen? ⟨g, 0, none⟩ = false
  f1 : w.frozen? ⟨g, 1, none⟩ = false
  f2 : w.frozen? ⟨g, 2, none⟩ = false
  lt : g < w.heap.size
theorem Surge0.ext {w w1 : World} {g : Nat} (h : Surge0 w g) (hb : Below w.heap.size w w1) : Surge0 w1 g := by
  obtain ⟨rc, rf⟩ := bcell hb
  exact ⟨(rc g 0 h.lt).trans h.c0, (rc g 1 h.lt).trans h.c1, (rc g 2 h.lt).trans h.c2, (rf g 0 h.lt).trans h.f0, (rf g 1 h.lt).trans h.f1, (rf g 2 h.lt).trans h.f2, Nat.lt_of_lt_of_le h.lt hb.size⟩
theorem w2g_after {w w1 : World} {A1 A2 : Option Addr} {c1 c2 : Nat} {xs ys : List Int} (r1 : Rd w w.heap.size A1 xs) (r2 : Rd w w.heap.size A2 ys) (hb : Below (w.heap.size + 1 + 1 + 1) (w2g w A1 A2 xs.length c1 ys.length c2) w1) :
    w1.cell? ⟨w.heap.size, 0, none⟩ = some (.slice A1 xs.length c1) ∧ w1.cell? ⟨w.heap.size + 1, 0, none⟩ = some (.slice A2 ys.length c2) ∧ In2 w w1 A1 A2 xs ys ∧ Surge0 w1 (w.heap.size + 1 + 1) := by
  obtain ⟨rc, rf⟩ := bcell hb
  have h0 := w2g_below w A1 A2 xs.length c1 ys.length c2
  have hs := w2g_size w A1 A2 xs.length c1 ys.length c2
  have h1 : Below w.heap.size w w1 := h0.trans (hb.mono (by omega))
  have := hb.size
  have hz := w2b_size w A1 A2 xs.length c1 ys.length c2
  have e0 : Surge0 (w2g w A1 A2 xs.length c1 ys.length c2) (w.heap.size + 1 + 1) := by
    rw [← hz]
    exact ⟨by simp [w2g, go_sem], by simp [w2g, go_sem], by simp [w2g, go_sem], by simp [w2g, go_sem], by simp [w2g, go_sem], by simp [w2g, go_sem], by simp [w2g]⟩
  exact ⟨by rw [rc _ _ (by omega)]; simp [w2g, w2b, go_sem], by rw [rc _ _ (by omega)]; simp [w2g, w2b, go_sem], ⟨r1.ext h1, r2.ext h1, h1, by omega⟩, e0.ext (by rw [hs]; exact hb)⟩

def RSurge (w : World) (m : Int) (xs ys : List Int) (at' E : Int) (e : Ending) (w' : World) : Prop :=
  ∃ A c A' c', e = .returned (.tuple #[.int .i64 m, .agg #[.slice A xs.length c, .slice A' ys.length c', .int .i64 at'], .int .i64 E]) ∧ Rd w' w'.heap.size A xs ∧ Rd w' w'.heap.size A' ys ∧ Fresh w.heap.size A ∧ Fresh w.heap.size A' ∧ Below w.heap.size w w'

theorem surge_set {w : World} {g : Nat} (h : Surge0 w g) (v0 v1 v2 : Value) :
    (((w.setCell ⟨g, 0, none⟩ v0).setCell ⟨g, 1, none⟩ v1).setCell ⟨g, 2, none⟩ v2).cell? ⟨g, 0, none⟩ = some v0 ∧ (((w.setCell ⟨g, 0, none⟩ v0).setCell ⟨g, 1, none⟩ v1).setCell ⟨g, 2, none⟩ v2).cell? ⟨g, 1, none⟩ = some v1 ∧
    (((w.setCell ⟨g, 0, none⟩ v0).setCell ⟨g, 1, none⟩ v1).setCell ⟨g, 2, none⟩ v2).cell? ⟨g, 2, none⟩ = some v2 := by
  have n1 : ∀ (w : World) (i j : Nat) (v : Value), i ≠ j → (w.setCell ⟨g, i, none⟩ v).cell? ⟨g, j, none⟩ = w.cell? ⟨g, j, none⟩ := fun w i j v hne => World.cell?_setCell_other w ⟨g, i, none⟩ ⟨g, j, none⟩ v (fun e => hne (by injection e))
  refine ⟨?_, ?_, ?_⟩
  · rw [n1 _ _ _ _ (by omega), n1 _ _ _ _ (by omega)]; exact World.cell?_setCell_same' _ _ _ (by rw [h.c0]; rfl)
  · rw [n1 _ _ _ _ (by omega)]; exact World.cell?_setCell_same' _ _ _ (by rw [n1 _ _ _ _ (by omega), h.c1]; rfl)
  · exact World.cell?_setCell_same' _ _ _ (by rw [n1 _ _ _ _ (by omega), n1 _ _ _ _ (by omega), h.c2]; rfl)
theorem fin_surge {w w1 w2 : World} {g : Nat} {m at' E : Int} {xs ys : List Int} {A A' : Option Addr} {c c' : Nat} {v0 v1 v2 : Value} (h0 : Below w.heap.size w w1) (h1 : Below w1.heap.size w1 w2) (hrd : Rd w2 w2.heap.size A xs) (hrd' : Rd w2 w2.heap.size A' ys)
    (hfr : Fresh w1.heap.size A) (hfr' : Fresh w1.heap.size A') (hg : w.heap.size ≤ g) (hg2 : g < w1.heap.size) :
    RSurge w m xs ys at' E (.returned (.tuple #[.int .i64 m, .agg #[.slice A xs.length c, .slice A' ys.length c', .int .i64 at'], .int .i64 E])) (((w2.setCell ⟨g, 0, none⟩ v0).setCell ⟨g, 1, none⟩ v1).setCell ⟨g, 2, none⟩ v2) := by
  have ne : ∀ (i : Nat) (ad : Addr), A = some ad → ad.block ≠ (⟨g, i, none⟩ : Addr).block := fun i ad e => by have := hfr ad e; show ad.block ≠ g; omega
  have ne' : ∀ (i : Nat) (ad : Addr), A' = some ad → ad.block ≠ (⟨g, i, none⟩ : Addr).block := fun i ad e => by have := hfr' ad e; show ad.block ≠ g; omega
  refine ⟨A, c, A', c', rfl, ?_, ?_, hfr.mono h0.size, hfr'.mono h0.size, (((h0.trans (h1.mono h0.size)).setCell (by exact hg) _).setCell (by exact hg) _).setCell (by exact hg) _⟩
  · simp only [World.size_setCell]; exact ((hrd.setCell (ne 0) _).setCell (ne 1) _).setCell (ne 2) _
  · simp only [World.size_setCell]; exact ((hrd'.setCell (ne' 0) _).setCell (ne' 1) _).setCell (ne' 2) _

theorem nth_leastL {xs ys : List Int} {t : Nat} (h : t < xs.length) : nth (leastL xs ys) t = min (nth xs t) (joinAt xs ys t) := by
  unfold leastL lowerL
  rw [nth_tab h]
  unfold joinL
  rw [nth_tab h]
theorem leastL_bd {xs ys : List Int} (hx : ∀ i, 0 ≤ nth xs i ∧ nth xs i ≤ 1073741824) (hy : ∀ i, 0 ≤ nth ys i ∧ nth ys i ≤ 1073741824) (t : Nat) : 0 ≤ nth (leastL xs ys) t ∧ nth (leastL xs ys) t ≤ 1073741824 := by
  rcases Nat.lt_or_ge t xs.length with h | h
  · rw [nth_leastL h]
    have a := hx t
    have b := hx (splitAt xs ys t)
    have c := hy (t - splitAt xs ys t)
    have e : joinAt xs ys t = nth xs (splitAt xs ys t) + nth ys (t - splitAt xs ys t) := rfl
    omega
  · rw [nth_out (by rw [leastL_length]; exact h)]; omega

theorem RSurge.drew {w : World} {m at' E : Int} {xs ys : List Int} {e : Ending} {w' : World} (h : RSurge w m xs ys at' E e w') : RSurge w m xs ys at' E e w'.drew := by
  obtain ⟨A, c, A', c', he, h1, h2, h3, h4, h5⟩ := h
  exact ⟨A, c, A', c', he, h1.ext (Below.refl _ w').drew, h2.ext (Below.refl _ w').drew, h3, h4, h5.drew⟩

def backOut (L S : List Int) : List Int := leastL (closedL L) S
def backTop (L S : List Int) : Nat × Int := topI (fun t => nth (closedL L) t - nth (leastL (closedL L) S) t) L.length

set_option maxRecDepth 100000 in
set_option maxHeartbeats 3200000 in
theorem Backlog_any (A1 A2 : Option Addr) (c1 c2 : Nat) (xs ys : List Int) (w : World) (r1 : Rd w w.heap.size A1 xs) (r2 : Rd w w.heap.size A2 ys) (m1 : xs.length ≤ maxLen) (m2 : ys.length ≤ maxLen) :
    Calls Try.prog 29 #[.agg #[.slice A1 xs.length c1], .agg #[.slice A2 ys.length c2]] w fun e w' =>
      RSurge w (pickI (ok2 xs ys) (backTop xs ys).2) (pick (ok2 xs ys) (closedL xs)) (pick (ok2 xs ys) (backOut xs ys)) (pickI (ok2 xs ys) (backTop xs ys).1) (errB (ok2 xs ys)) e w' := by
  have hb0 := w2g_below w A1 A2 xs.length c1 ys.length c2
  have hr := right2 A1 A2 c1 c2 xs ys (w2g w A1 A2 xs.length c1 ys.length c2) (r1.ext hb0) (r2.ext hb0) m1 m2
  rw [w2g_size] at hr
  cases hv : ok2 xs ys
  · rw [hv] at hr
    simp only [errB_f, pick_f, pickI_f] at hr ⊢
    have HR := Lib.hid (And.intro hr (And.intro r1 r2))
    clear hr r1 r2 hb0 hv
    go_enter Try.func29, Try.ntmps29
    go_upto_region 3 with (go_at_call 78; refine HR.out.1.mono ?_; rintro e w1 ⟨rfl, hb⟩; obtain ⟨p1, p2, HI, HG⟩ := w2g_after HR.out.2.1 HR.out.2.2 hb)
    have HT := Lib.hid (And.intro (surge_set HG (.slice none 0 0) (.slice none 0 0) (.int .i64 0)) (fin_surge (m := 0) (at' := 0) (E := 1) (xs := []) (ys := []) (A := none) (A' := none) (c := 0) (c' := 0) (v0 := .slice none 0 0) (v1 := .slice none 0 0) (v2 := .int .i64 0) HI.below (Below.refl _ w1) Rd.nil Rd.nil (fun _ e => (by cases e)) (fun _ e => (by cases e)) (by omega) HG.lt))
    obtain ⟨g0, g1, g2, k0, k1, k2, hlt⟩ := HG
    go_wp2
    obtain ⟨⟨q0, q1, q2⟩, HF⟩ := HT.out
    exact bodyPost_ret (v := .tuple #[.int .i64 0, .agg #[.slice none 0 0, .slice none 0 0, .int .i64 0], .int .i64 1]) (by simp [results, Try.results29, go_sem, q0, q1, q2]) rfl HF
  · have ⟨v1, v2, h3⟩ := ok2_iff.1 hv
    rw [hv] at hr
    simp only [errB_t, pick_t, pickI_t] at hr ⊢
    have HR := Lib.hid (And.intro hr (And.intro r1 (And.intro r2 (And.intro v1 (And.intro v2 h3)))))
    have hl := closedL_length xs
    have hl1 : 1 ≤ (closedL xs).length := by rw [hl]; exact v1.1
    have hl2 : (closedL xs).length ≤ 121 := by rw [hl]; exact v1.2.1
    have hl3 : ys.length = (closedL xs).length := by rw [hl]; exact h3
    have HH3 := Lib.hid (And.intro hl1 (And.intro hl3 hl))
    clear hr r1 r2 hb0 hv v1 v2 h3 hl hl1 hl3
    go_enter Try.func29, Try.ntmps29
    go_upto_region 5 with (first | (go_at_call 78; refine HR.out.1.mono ?_; rintro e w1 ⟨rfl, hb⟩; obtain ⟨p1, p2, HI, HG⟩ := w2g_after HR.out.2.1 HR.out.2.2.1 hb) | (go_at_call 88; refine (closed_any A1 c1 xs w1 HI.r1 HR.out.2.2.2.1).mono ?_; rintro e w2 ⟨A, c, A', c', rfl, hrd, hrd', hfr, hfr', hb2⟩))
    have hw3 : Below w2.heap.size w2 (w2.alloc (.cells #[.slice A (closedL xs).length c] 26)) := (Below.refl _ w2).alloc (Nat.le_refl _) _
    have hB1 : Below w1.heap.size w1 (w2.alloc (.cells #[.slice A (closedL xs).length c] 26)) := hb2.trans (hw3.mono hb2.size)
    obtain ⟨s0, s1⟩ := keep2 HI.size hB1 p1 p2
    have s4 : (w2.alloc (.cells #[.slice A (closedL xs).length c] 26)).cell? ⟨w2.heap.size, 0, none⟩ = some (.slice A (closedL xs).length c) := by simp [go_sem]
    have s5 : w2.heap.size < (w2.alloc (.cells #[.slice A (closedL xs).length c] 26)).heap.size := by simp
    have hL := hrd.ext hw3
    have hI := HI.ext hB1
    have hG := HG.ext hB1
    generalize hg2 : w2.alloc (.cells #[.slice A (closedL xs).length c] 26) = w3 at *
    generalize hgg : w2.heap.size = g at *
    have HL := Lib.hid (And.intro hL (And.intro hI (And.intro hG (And.intro hB1 (And.intro hfr (And.intro HI HG.lt))))))
    clear hg2 hgg hL hI hG hB1 hrd hrd' hfr hfr' hb2 hw3 p1 p2 HI HG s0
    go_upto_region 6 with (go_at_call 89; refine (least_any A A2 c c2 (closedL xs) ys w3 HL.out.1 HL.out.2.1.r2 HH3.out.1 hl2 HH3.out.2.1 (closedL_small HR.out.2.2.2.1) HR.out.2.2.2.2.1.small).mono ?_; rintro e w4 ⟨A5, c5, rfl, hrd, hfr, hb4⟩)
    have hw5 : Below w4.heap.size w4 (w4.alloc (.cells #[.slice A5 (leastL (closedL xs) ys).length c5] 26)) := (Below.refl _ w4).alloc (Nat.le_refl _) _
    have hb5 := hb4.trans (hw5.mono hb4.size)
    have t1 := (hb5.cell (p := ⟨g, 0, none⟩) s5).trans s4
    have t2 : (w4.alloc (.cells #[.slice A5 (leastL (closedL xs) ys).length c5] 26)).cell? ⟨w4.heap.size, 0, none⟩ = some (.slice A5 (leastL (closedL xs) ys).length c5) := by simp [go_sem]
    have t3 : w4.heap.size < (w4.alloc (.cells #[.slice A5 (leastL (closedL xs) ys).length c5] 26)).heap.size := by simp
    have t4 := Nat.lt_of_lt_of_le s5 hb5.size
    have u1 := HL.out.1.ext hb5
    have u2 := hrd.ext hw5
    have u3 := HL.out.2.2.1.ext hb5
    have u4 := HL.out.2.2.2.1.trans (hb5.mono HL.out.2.2.2.1.size)
    have u5 := hfr.mono HL.out.2.2.2.1.size
    generalize hg2 : w4.alloc (.cells #[.slice A5 (leastL (closedL xs) ys).length c5] 26) = w5 at *
    generalize hgg : w4.heap.size = gl at *
    have hll : (leastL (closedL xs) ys).length = (closedL xs).length := leastL_length _ _
    have HM := Lib.hid (And.intro u1 (And.intro u2 (And.intro u3 (And.intro u4 (And.intro u5 hll)))))
    clear hg2 hgg hb4 hb5 hw5 hrd hfr u1 u2 u3 u4 u5 s1 s4 s5 hll
    go_wp2
    go_loopg [12, 13, 14, 15, 39] (closedL xs).length (fun gk s12 s13 _ _ i wr => ∃ t : Nat, t ≤ (closedL xs).length ∧ (closedL xs).length - t ≤ gk ∧ i = .int .i64 t ∧ s12 = .int .i64 ((topI (fun t => nth (closedL xs) t - nth (leastL (closedL xs) ys) t) t).1 : Nat) ∧
      s13 = .int .i64 (topI (fun t => nth (closedL xs) t - nth (leastL (closedL xs) ys) t) t).2 ∧ Aside (Below w5.heap.size w5 wr))
    case atStart => exact ⟨0, Nat.zero_le _, by omega, rfl, rfl, rfl, Below.refl _ _⟩
    case round =>
      obtain ⟨t, ht, hg, rfl, rfl, rfl, hb⟩ := hrel
      by_cases hlt : t < (closedL xs).length
      · have hltz : (t : Int) < ((closedL xs).length : Int) := by omega
        have hcall := lies_any t A A5 c c5 (closedL xs) (leastL (closedL xs) ys) wr (HM.out.1.ext hb.out) (HM.out.2.1.ext hb.out) hlt (by rw [HM.out.2.2.2.2.2]; exact hlt) (closedL_small HR.out.2.2.2.1) (fun i => by have := leastL_bd (xs := closedL xs) (ys := ys) (closedL_bd HR.out.2.2.2.1) HR.out.2.2.2.2.1.bd i; omega)
        have HC := Lib.hid hcall
        clear hcall
        by_cases hq : (topI (fun t => nth (closedL xs) t - nth (leastL (closedL xs) ys) t) t).2 < nth (closedL xs) t - nth (leastL (closedL xs) ys) t
        · have hs : topI (fun t => nth (closedL xs) t - nth (leastL (closedL xs) ys) t) (t + 1) = (t, nth (closedL xs) t - nth (leastL (closedL xs) ys) t) := by simp only [topI]; rw [if_pos hq]
          have HS := Lib.hid hs
          clear hs
          go_wp2_with (go_at_call 90; refine HC.out.mono ?_; rintro e w6 ⟨rfl, hb'⟩)
          go_roundg ((closedL xs).length - (t + 1))
          case measure => omega
          case rel => exact ⟨t + 1, by omega, by omega, by go_num, by rw [HS.out], by rw [HS.out], hb.out.trans (hb'.mono hb.out.size)⟩
        · have hs : topI (fun t => nth (closedL xs) t - nth (leastL (closedL xs) ys) t) (t + 1) = topI (fun t => nth (closedL xs) t - nth (leastL (closedL xs) ys) t) t := by simp only [topI]; rw [if_neg hq]
          have HS := Lib.hid hs
          clear hs
          go_wp2_with (go_at_call 90; refine HC.out.mono ?_; rintro e w6 ⟨rfl, hb'⟩)
          go_roundg ((closedL xs).length - (t + 1))
          case measure => omega
          case rel => exact ⟨t + 1, by omega, by omega, by go_num, by rw [HS.out], by rw [HS.out], hb.out.trans (hb'.mono hb.out.size)⟩
      · have hltz : ¬ (t : Int) < ((closedL xs).length : Int) := by omega
        obtain rfl : t = (closedL xs).length := by omega
        have q1 := (hb.out.cell (p := ⟨g, 0, none⟩) t4).trans t1
        have q2 := (hb.out.cell (p := ⟨gl, 0, none⟩) t3).trans t2
        have hG := HM.out.2.2.1.ext hb.out
        have HT := Lib.hid (And.intro (surge_set hG (.slice A (closedL xs).length c) (.slice A5 (leastL (closedL xs) ys).length c5) (.int .i64 (backTop xs ys).1)) (fin_surge (m := (backTop xs ys).2) (at' := (backTop xs ys).1) (E := 0) (xs := closedL xs) (ys := leastL (closedL xs) ys) (A := A) (A' := A5) (c := c) (c' := c5) (v0 := .slice A (closedL xs).length c) (v1 := .slice A5 (leastL (closedL xs) ys).length c5) (v2 := .int .i64 (backTop xs ys).1) HL.out.2.2.2.2.2.1.below (HM.out.2.2.2.1.trans (hb.out.mono HM.out.2.2.2.1.size)) (HM.out.1.ext hb.out) (HM.out.2.1.ext hb.out) HL.out.2.2.2.2.1 HM.out.2.2.2.2.1 (by omega) HL.out.2.2.2.2.2.2))
        obtain ⟨g0, g1, g2, k0, k1, k2, hlt'⟩ := hG
        have hTop : topI (fun t => nth (closedL xs) t - nth (leastL (closedL xs) ys) t) (closedL xs).length = backTop xs ys := by unfold backTop; rw [HH3.out.2.2]
        rw [hTop]
        go_wp2
        go_still_tail 6, (by kernel_rfl)
        change wpList _ _ _ _ _ wr.drew
        go_wp2
        obtain ⟨⟨q3, q4, q5⟩, HF⟩ := HT.out
        exact bodyPost_ret (v := .tuple #[.int .i64 (backTop xs ys).2, .agg #[.slice A (closedL xs).length c, .slice A5 (leastL (closedL xs) ys).length c5, .int .i64 (backTop xs ys).1], .int .i64 0]) (by simp [results, Try.results29, go_sem, q3, q4, q5]) rfl HF.drew
end Go.Proofs.Ytknkneccnhgjmaa
namespace Go.Proofs.Ytknkneccnhgjmaa
open Go.RowKit Go.Shelf

/-- A reading. -/
structure Sv where
  step : Int
  lo : Int
  hi : Int
def Sv.cells (s : Sv) : Array Value := #[.int .i64 s.step, .int .i64 s.lo, .int .i64 s.hi]
def nthS (l : List Sv) (i : Nat) : Sv := l.getD i ⟨0, 0, 0⟩
/-- A slice reads as readings. -/
def RdS (w : World) (B : Nat) (A : Option Addr) (l : List Sv) : Prop :=
  0 < l.length → ∃ b off, A = some ⟨b, off, none⟩ ∧ b < B ∧ ∀ i, i < l.length → w.cell? ⟨b, off + i * 3, none⟩ = some (.int .i64 (nthS l i).step) ∧ w.cell? ⟨b, off + i * 3 + 1, none⟩ = some (.int .i64 (nthS l i).lo) ∧ w.cell? ⟨b, off + i * 3 + 2, none⟩ = some (.int .i64 (nthS l i).hi)
theorem RdS.ext {w w' : World} {A : Option Addr} {l : List Sv} (h : RdS w w.heap.size A l) (hb : Below w.heap.size w w') : RdS w' w'.heap.size A l := fun hn => by
  obtain ⟨b, off, e, hlt, hc⟩ := h hn
  obtain ⟨rc, rf⟩ := bcell hb
  refine ⟨b, off, e, Nat.lt_of_lt_of_le hlt hb.size, fun i hi => ?_⟩
  obtain ⟨h1, h2, h3⟩ := hc i hi
  exact ⟨(rc _ _ hlt).trans h1, (rc _ _ hlt).trans h2, (rc _ _ hlt).trans h3⟩

/-- A reading that is not one. -/
def wrongB (last : Int) (s : Sv) : Bool := !withinB s.step 0 last || decide (s.lo < 0) || decide (s.hi < s.lo) || decide (1073741824 < s.hi)

theorem wrong_any (last : Int) (s : Sv) (B : Nat) (w : World) (hc : w.cell? ⟨B, 0, none⟩ = some (.int .i64 last)) (hB : B < w.heap.size) :
    Calls Try.prog 68 #[.agg s.cells, .pointer (some ⟨B, 0, none⟩)] w fun e w' => e = .returned (.bool (wrongB last s)) ∧ Below w.heap.size w w' := by
  obtain ⟨p, lo, hi⟩ := s
  unfold Sv.cells
  dsimp only
  by_cases h0 : 0 ≤ p ∧ p ≤ last
  · have hw : withinB p 0 last = true := by unfold withinB; rw [decide_eq_true_eq]; omega
    have hfin : wrongB last ⟨p, lo, hi⟩ = (decide (lo < 0) || decide (hi < lo) || decide (1073741824 < hi)) := by simp [wrongB, hw]
    rw [hfin]
    have Hh := Lib.hid h0
    clear hfin h0
    go_enter Try.func68, Try.ntmps68
    go_wp2_with (go_at_call 69; refine (within_any _ _ _ _).mono ?_; rintro e w' ⟨rfl, rfl⟩)
    all_goals
      go_ret
      exact ⟨by first | rfl | (exact ret_bool (by simp; omega)) | (exact ret_bool (by simp)), (Below.refl _ w).alloc (Nat.le_refl _) _⟩
  · have hw : withinB p 0 last = false := by unfold withinB; rw [decide_eq_false_iff_not]; omega
    have hfin : wrongB last ⟨p, lo, hi⟩ = true := by simp [wrongB, hw]
    rw [hfin]
    have Hh := Lib.hid h0
    clear hfin h0
    go_enter Try.func68, Try.ntmps68
    go_wp2_with (go_at_call 69; refine (within_any _ _ _ _).mono ?_; rintro e w' ⟨rfl, rfl⟩)
    go_ret
    exact ⟨rfl, (Below.refl _ w).alloc (Nat.le_refl _) _⟩

/-- The first reading of which p is true. -/
def AnswersS (g : Nat) (pre caps : Array Value) (l : List Sv) (p : Nat → Bool) (w : World) : Prop :=
  ∀ i W, i < l.length → Below w.heap.size w W → Calls Try.prog g (pre ++ #[.agg (nthS l i).cells] ++ caps) W fun e w' => e = .returned (.bool (p i)) ∧ Below W.heap.size W w'

set_option maxHeartbeats 800000 in
theorem indexFuncS_any (A : Option Addr) (c : Nat) (l : List Sv) (last : Int) (B : Nat) (w : World)
    (h : RdS w w.heap.size A l) (hm : l.length ≤ 1000) (hc : w.cell? ⟨B, 0, none⟩ = some (.int .i64 last)) (hB : B < w.heap.size) :
    Calls Try.prog 115 #[.slice A l.length c, .func (.func 68) #[] #[.pointer (some ⟨B, 0, none⟩)]] w fun e w' => e = .returned (.int .i64 (firstIdx (fun i => wrongB last (nthS l i)) l.length)) ∧ Below w.heap.size w w' := by
  go_enter Try.func115, Try.ntmps115
  go_wp2
  go_loopg [5, 8] l.length (fun gg _ s8 wr => ∃ t : Nat, t ≤ l.length ∧ l.length - t ≤ gg ∧ s8 = .int .i64 t ∧ Aside (Below w.heap.size w wr) ∧ Aside (∀ j, j < t → wrongB last (nthS l j) = false))
  case atStart => exact ⟨0, Nat.zero_le _, by omega, rfl, Below.refl _ w, fun j hj => absurd hj (Nat.not_lt_zero _)⟩
  case round =>
    obtain ⟨t, ht, hg, rfl, hb, hA⟩ := hrel
    by_cases hlt : t < l.length
    · have hltz : (t : Int) < (l.length : Int) := by omega
      obtain ⟨b, off, rfl, lb, hcs⟩ := h (by omega)
      obtain ⟨k1, k2, k3⟩ := hcs t hlt
      obtain ⟨rc, rf⟩ := bcell hb.out
      replace k1 := (rc _ _ lb).trans k1
      replace k2 := (rc _ _ lb).trans k2
      replace k3 := (rc _ _ lb).trans k3
      have hcall := wrong_any last (nthS l t) B wr ((rc _ _ hB).trans hc) (Nat.lt_of_lt_of_le hB hb.out.size)
      unfold Sv.cells at hcall
      clear hcs h hc rc rf
      generalize hsv : nthS l t = s at *
      obtain ⟨p, lo, hi⟩ := s
      dsimp only at k1 k2 k3 hcall
      cases hq : wrongB last ⟨p, lo, hi⟩ with
      | true =>
        rw [hq] at hcall
        have HQ := Lib.hid (And.intro hq hsv)
        clear hq hsv
        go_wp2_with (go_at_call 68; refine hcall.mono ?_; rintro e w' ⟨rfl, hb'⟩)
        go_ret
        exact ⟨ret_int (firstIdx_hit hlt (by rw [HQ.out.2]; exact HQ.out.1) hA.out).symm, hb.out.trans (hb'.mono hb.out.size)⟩
      | false =>
        rw [hq] at hcall
        have HQ := Lib.hid (And.intro hq hsv)
        clear hq hsv
        go_wp2_with (go_at_call 68; refine hcall.mono ?_; rintro e w' ⟨rfl, hb'⟩)
        go_roundg (l.length - (t + 1))
        case measure => omega
        case rel =>
          refine ⟨t + 1, by omega, by omega, by go_num, hb.out.trans (hb'.mono hb.out.size), (show Aside _ from fun j hj => ?_)⟩
          by_cases e : j = t
          · subst e; rw [HQ.out.2]; exact HQ.out.1
          · exact hA.out j (by omega)
    · have hltz : ¬ (t : Int) < (l.length : Int) := by omega
      obtain rfl : t = l.length := by omega
      go_wp2
      go_ret
      exact ⟨ret_int (firstIdx_miss hA.out).symm, hb.out⟩

def anyWrong (last : Int) (l : List Sv) : Bool := decide (0 ≤ firstIdx (fun i => wrongB last (nthS l i)) l.length)
theorem containsFuncS_any (A : Option Addr) (c : Nat) (l : List Sv) (last : Int) (B : Nat) (w : World)
    (h : RdS w w.heap.size A l) (hm : l.length ≤ 1000) (hc : w.cell? ⟨B, 0, none⟩ = some (.int .i64 last)) (hB : B < w.heap.size) :
    Calls Try.prog 70 #[.slice A l.length c, .func (.func 68) #[] #[.pointer (some ⟨B, 0, none⟩)]] w fun e w' => e = .returned (.bool (anyWrong last l)) ∧ Below w.heap.size w w' := by
  have hcall := indexFuncS_any A c l last B w h hm hc hB
  unfold anyWrong
  generalize firstIdx (fun i => wrongB last (nthS l i)) l.length = r at *
  clear h hc
  go_enter Try.func70, Try.ntmps70
  go_wp2_with (go_at_call 115; refine hcall.mono ?_; rintro e w' ⟨rfl, hb'⟩)
  go_ret
  exact ⟨rfl, hb'⟩

/-- The least that had passed at step t, by k readings; the most. -/
def loTo (l : List Sv) (t : Int) : Nat → Int
  | 0 => 0
  | k + 1 => if (nthS l k).step ≤ t then max (loTo l t k) (nthS l k).lo else loTo l t k
def hiTo (l : List Sv) (t : Int) : Nat → Int
  | 0 => 1073741824
  | k + 1 => if t ≤ (nthS l k).step then min (hiTo l t k) (nthS l k).hi else hiTo l t k

set_option maxHeartbeats 800000 in
theorem between2_any (t : Int) (A : Option Addr) (c B : Nat) (l : List Sv) (w : World) (h : RdS w w.heap.size A l) (hm : l.length ≤ 1000) (hc : w.cell? ⟨B, 0, none⟩ = some (.slice A l.length c)) :
    Calls Try.prog 72 #[.int .i64 t, .pointer (some ⟨B, 0, none⟩)] w fun e w' => e = .returned (.int .i64 (loTo l t l.length)) ∧ Below w.heap.size w w' := by
  go_enter Try.func72, Try.ntmps72
  go_wp2
  go_loopg [4, 6, 9] l.length (fun gg s4 _ s9 wr => ∃ k : Nat, k ≤ l.length ∧ l.length - k ≤ gg ∧ s9 = .int .i64 k ∧ s4 = .int .i64 (loTo l t k) ∧ Aside (Below w.heap.size w wr))
  case atStart => exact ⟨0, Nat.zero_le _, by omega, rfl, rfl, Below.refl _ w⟩
  case round =>
    obtain ⟨k, hk, hg, rfl, rfl, hb⟩ := hrel
    by_cases hlt : k < l.length
    · have hltz : (k : Int) < (l.length : Int) := by omega
      obtain ⟨b, off, rfl, lb, hcs⟩ := h (by omega)
      obtain ⟨k1, k2, k3⟩ := hcs k hlt
      obtain ⟨rc, rf⟩ := bcell hb.out
      replace k1 := (rc _ _ lb).trans k1
      replace k2 := (rc _ _ lb).trans k2
      replace k3 := (rc _ _ lb).trans k3
      clear hcs h hc rc rf
      have hs : loTo l t (k + 1) = if (nthS l k).step ≤ t then max (loTo l t k) (nthS l k).lo else loTo l t k := rfl
      generalize hsv : nthS l k = s at *
      obtain ⟨p, lo, hi⟩ := s
      dsimp only at k1 k2 k3 hs
      by_cases hq : p ≤ t
      · rw [if_pos hq] at hs
        have HS := Lib.hid hs
        clear hs hsv
        generalize loTo l t k = M at *
        go_wp2
        all_goals
          go_roundg (l.length - (k + 1))
          case measure => omega
          case rel => exact ⟨k + 1, by omega, by omega, by go_num, by rw [HS.out]; exact int_eq (by omega), (hb.out.alloc hb.out.size _)⟩
      · rw [if_neg hq] at hs
        have HS := Lib.hid hs
        clear hs hsv
        generalize loTo l t k = M at *
        go_wp2
        go_roundg (l.length - (k + 1))
        case measure => omega
        case rel => exact ⟨k + 1, by omega, by omega, by go_num, by rw [HS.out], (hb.out.alloc hb.out.size _)⟩
    · have hltz : ¬ (k : Int) < (l.length : Int) := by omega
      obtain rfl : k = l.length := by omega
      go_wp2
      go_ret
      exact ⟨rfl, hb.out⟩

set_option maxHeartbeats 800000 in
theorem between3_any (t : Int) (A : Option Addr) (c B : Nat) (l : List Sv) (w : World) (h : RdS w w.heap.size A l) (hm : l.length ≤ 1000) (hc : w.cell? ⟨B, 0, none⟩ = some (.slice A l.length c)) :
    Calls Try.prog 73 #[.int .i64 t, .pointer (some ⟨B, 0, none⟩)] w fun e w' => e = .returned (.int .i64 (hiTo l t l.length)) ∧ Below w.heap.size w w' := by
  go_enter Try.func73, Try.ntmps73
  go_wp2
  go_loopg [4, 6, 9] l.length (fun gg s4 _ s9 wr => ∃ k : Nat, k ≤ l.length ∧ l.length - k ≤ gg ∧ s9 = .int .i64 k ∧ s4 = .int .i64 (hiTo l t k) ∧ Aside (Below w.heap.size w wr))
  case atStart => exact ⟨0, Nat.zero_le _, by omega, rfl, rfl, Below.refl _ w⟩
  case round =>
    obtain ⟨k, hk, hg, rfl, rfl, hb⟩ := hrel
    by_cases hlt : k < l.length
    · have hltz : (k : Int) < (l.length : Int) := by omega
      obtain ⟨b, off, rfl, lb, hcs⟩ := h (by omega)
      obtain ⟨k1, k2, k3⟩ := hcs k hlt
      obtain ⟨rc, rf⟩ := bcell hb.out
      replace k1 := (rc _ _ lb).trans k1
      replace k2 := (rc _ _ lb).trans k2
      replace k3 := (rc _ _ lb).trans k3
      clear hcs h hc rc rf
      have hs : hiTo l t (k + 1) = if t ≤ (nthS l k).step then min (hiTo l t k) (nthS l k).hi else hiTo l t k := rfl
      generalize hsv : nthS l k = s at *
      obtain ⟨p, lo, hi⟩ := s
      dsimp only at k1 k2 k3 hs
      by_cases hq : t ≤ p
      · rw [if_pos hq] at hs
        have HS := Lib.hid hs
        clear hs hsv
        generalize hiTo l t k = M at *
        go_wp2
        all_goals
          go_roundg (l.length - (k + 1))
          case measure => omega
          case rel => exact ⟨k + 1, by omega, by omega, by go_num, by rw [HS.out]; exact int_eq (by omega), (hb.out.alloc hb.out.size _)⟩
      · rw [if_neg hq] at hs
        have HS := Lib.hid hs
        clear hs hsv
        generalize hiTo l t k = M at *
        go_wp2
        go_roundg (l.length - (k + 1))
        case measure => omega
        case rel => exact ⟨k + 1, by omega, by omega, by go_num, by rw [HS.out], (hb.out.alloc hb.out.size _)⟩
    · have hltz : ¬ (k : Int) < (l.length : Int) := by omega
      obtain rfl : k = l.length := by omega
      go_wp2
      go_ret
      exact ⟨rfl, hb.out⟩
end Go.Proofs.Ytknkneccnhgjmaa
namespace Go.Proofs.Ytknkneccnhgjmaa
open Go.RowKit Go.Shelf

theorem eg72 : ∀ args w, (callFunc 72 args).run Try.prog w = .ok (.enter 72 args) w := enters_of Try.func72 (by kernel_rfl) rfl
theorem eg73 : ∀ args w, (callFunc 73 args).run Try.prog w = .ok (.enter 73 args) w := enters_of Try.func73 (by kernel_rfl) rfl

def loL (l : List Sv) (n : Nat) : List Int := tab n fun t => loTo l t l.length
def hiL (l : List Sv) (n : Nat) : List Int := tab n fun t => hiTo l t l.length
def betE (l : List Sv) (last : Int) : Int :=
  if 60 < l.length then 2 else if withinB last 0 120 = false then 1 else if anyWrong last l then 1 else if clashB (hiL l (last.toNat + 1)) (loL l (last.toNat + 1)) then 9 else 0

def RTwo (w : World) (xs ys : List Int) (E : Int) (e : Ending) (w' : World) : Prop :=
  ∃ A c A' c', e = .returned (.tuple #[.agg #[.slice A xs.length c], .agg #[.slice A' ys.length c'], .int .i64 E]) ∧ Rd w' w'.heap.size A xs ∧ Rd w' w'.heap.size A' ys ∧ Below w.heap.size w w'
theorem RTwo.drew {w : World} {E : Int} {xs ys : List Int} {e : Ending} {w' : World} (h : RTwo w xs ys E e w') : RTwo w xs ys E e w'.drew := by
  obtain ⟨A, c, A', c', he, h1, h2, h5⟩ := h
  exact ⟨A, c, A', c', he, h1.ext (Below.refl _ w').drew, h2.ext (Below.refl _ w').drew, h5.drew⟩

/-- Two results' cells as they were laid. -/
structure Ends0 (w : World) (g : Nat) : Prop where
  c0 : w.cell? ⟨g, 0, none⟩ = some (.slice none 0 0)
  c1 : w.cell? ⟨g + 1, 0, none⟩ = some (.slice none 0 0)
  f0 : w.frozen? ⟨g, 0, none⟩ = false
  f1 : w.frozen? ⟨g + 1, 0, none⟩ = false
  lt : g + 1 < w.heap.size
theorem Ends0.ext {w w1 : World} {g : Nat} (h : Ends0 w g) (hb : Below w.heap.size w w1) : Ends0 w1 g := by
  obtain ⟨rc, rf⟩ := bcell hb
  have l0 : g < w.heap.size := Nat.lt_of_succ_lt h.lt
  exact ⟨(rc _ 0 l0).trans h.c0, (rc _ 0 h.lt).trans h.c1, (rf _ 0 l0).trans h.f0, (rf _ 0 h.lt).trans h.f1, Nat.lt_of_lt_of_le h.lt hb.size⟩
theorem ends_set {w : World} {g : Nat} (h : Ends0 w g) (v0 v1 : Value) :
    ((w.setCell ⟨g, 0, none⟩ v0).setCell ⟨g + 1, 0, none⟩ v1).cell? ⟨g, 0, none⟩ = some v0 ∧ ((w.setCell ⟨g, 0, none⟩ v0).setCell ⟨g + 1, 0, none⟩ v1).cell? ⟨g + 1, 0, none⟩ = some v1 := by
  have n1 : ∀ (w : World) (p q : Addr) (v : Value), p.block ≠ q.block → (w.setCell p v).cell? q = w.cell? q := fun w p q v hne => World.cell?_setCell_other w p q v (fun e => hne (by rw [e]))
  refine ⟨?_, ?_⟩
  · rw [n1 _ _ _ _ (by simp)]; exact World.cell?_setCell_same' _ _ _ (by rw [h.c0]; rfl)
  · exact World.cell?_setCell_same' _ _ _ (by rw [n1 _ _ _ _ (by simp), h.c1]; rfl)
theorem fin_ends {w w1 w2 : World} {g : Nat} {E : Int} {xs ys : List Int} {A A' : Option Addr} {c c' : Nat} {v0 v1 : Value} (h0 : Below w.heap.size w w1) (h1 : Below w1.heap.size w1 w2) (hrd : Rd w2 w2.heap.size A xs) (hrd' : Rd w2 w2.heap.size A' ys)
    (hfr : Fresh w1.heap.size A) (hfr' : Fresh w1.heap.size A') (hg : w.heap.size ≤ g) (hg2 : g + 1 < w1.heap.size) :
    RTwo w xs ys E (.returned (.tuple #[.agg #[.slice A xs.length c], .agg #[.slice A' ys.length c'], .int .i64 E])) ((w2.setCell ⟨g, 0, none⟩ v0).setCell ⟨g + 1, 0, none⟩ v1) := by
  have ne : ∀ (ad : Addr), A = some ad → ad.block ≠ g ∧ ad.block ≠ g + 1 := fun ad e => by have := hfr ad e; omega
  have ne' : ∀ (ad : Addr), A' = some ad → ad.block ≠ g ∧ ad.block ≠ g + 1 := fun ad e => by have := hfr' ad e; omega
  refine ⟨A, c, A', c', rfl, ?_, ?_, ((h0.trans (h1.mono h0.size)).setCell (by exact hg) _).setCell (by show _ ≤ g + 1; omega) _⟩
  · simp only [World.size_setCell]; exact (hrd.setCell (fun ad e => (ne ad e).1) _).setCell (fun ad e => (ne ad e).2) _
  · simp only [World.size_setCell]; exact (hrd'.setCell (fun ad e => (ne' ad e).1) _).setCell (fun ad e => (ne' ad e).2) _

/-- Between's four blocks. -/
def wBt (w : World) (A : Option Addr) (n c : Nat) (last : Int) : World := (((w.alloc (.cells #[.slice A n c] 22)).alloc (.cells #[.int .i64 last] 3)).alloc (.cells #[.slice none 0 0] 26)).alloc (.cells #[.slice none 0 0] 26)
theorem wBt_below (w : World) (A : Option Addr) (n c : Nat) (last : Int) : Below w.heap.size w (wBt w A n c last) := ((((Below.refl _ w).alloc (Nat.le_refl _) _).alloc (by simp) _).alloc (by simp; omega) _).alloc (by simp; omega) _
theorem wBt_size (w : World) (A : Option Addr) (n c : Nat) (last : Int) : (wBt w A n c last).heap.size = w.heap.size + 1 + 1 + 1 + 1 := by simp [wBt]
theorem wBt_ends (w : World) (A : Option Addr) (n c : Nat) (last : Int) : Ends0 (wBt w A n c last) (w.heap.size + 1 + 1) :=
  ⟨by simp [wBt, go_sem], by simp [wBt, go_sem], by simp [wBt, go_sem], by simp [wBt, go_sem], by simp [wBt]⟩
theorem wBt_cells (w : World) (A : Option Addr) (n c : Nat) (last : Int) : (wBt w A n c last).cell? ⟨w.heap.size, 0, none⟩ = some (.slice A n c) ∧ (wBt w A n c last).cell? ⟨w.heap.size + 1, 0, none⟩ = some (.int .i64 last) :=
  ⟨by simp [wBt, go_sem], by simp [wBt, go_sem]⟩

theorem cells_later {w1 w2 : World} {g : Nat} {v1 v2 : Value} (hs : g + 1 < w1.heap.size) (hb : Below w1.heap.size w1 w2) (p1 : w1.cell? ⟨g, 0, none⟩ = some v1) (p2 : w1.cell? ⟨g + 1, 0, none⟩ = some v2) :
    w2.cell? ⟨g, 0, none⟩ = some v1 ∧ w2.cell? ⟨g + 1, 0, none⟩ = some v2 :=
  ⟨(hb.cell (p := ⟨g, 0, none⟩) (Nat.lt_of_succ_lt hs)).trans p1, (hb.cell (p := ⟨g + 1, 0, none⟩) hs).trans p2⟩

/-- What is known in Between, once the boxes are laid. -/
structure BtW (w W : World) (A : Option Addr) (c : Nat) (l : List Sv) (last : Int) : Prop where
  p1 : W.cell? ⟨w.heap.size, 0, none⟩ = some (.slice A l.length c)
  p2 : W.cell? ⟨w.heap.size + 1, 0, none⟩ = some (.int .i64 last)
  e0 : Ends0 W (w.heap.size + 1 + 1)
  rd : RdS W W.heap.size A l
  bl : Below w.heap.size w W
  bt : Below (wBt w A l.length c last).heap.size (wBt w A l.length c last) W
theorem BtW.ext {w W W' : World} {A : Option Addr} {c : Nat} {l : List Sv} {last : Int} (h : BtW w W A c l last) (hb : Below W.heap.size W W') : BtW w W' A c l last := by
  have hlt := h.e0.lt
  exact ⟨(hb.cell (p := ⟨w.heap.size, 0, none⟩) (show w.heap.size < _ by omega)).trans h.p1, (hb.cell (p := ⟨w.heap.size + 1, 0, none⟩) (show w.heap.size + 1 < _ by omega)).trans h.p2, h.e0.ext hb, h.rd.ext hb, h.bl.trans (hb.mono h.bl.size), h.bt.trans (hb.mono h.bt.size)⟩
theorem wBt_known (w : World) (A : Option Addr) (c : Nat) (l : List Sv) (last : Int) (h : RdS w w.heap.size A l) : BtW w (wBt w A l.length c last) A c l last :=
  ⟨(wBt_cells w A l.length c last).1, (wBt_cells w A l.length c last).2, wBt_ends w A l.length c last, h.ext (wBt_below w A l.length c last), wBt_below w A l.length c last, Below.refl _ _⟩
/-- .. and once both courses are made. -/
structure BtE (w W : World) (A : Option Addr) (c : Nat) (l : List Sv) (last : Int) (g8 g9 : Nat) (A3 : Option Addr) (c3 : Nat) (A4 : Option Addr) (c4 : Nat) (lo hi : List Int) : Prop where
  k : BtW w W A c l last
  r3 : Rd W W.heap.size A3 lo
  r4 : Rd W W.heap.size A4 hi
  c8 : W.cell? ⟨g8, 0, none⟩ = some (.slice A3 lo.length c3)
  c9 : W.cell? ⟨g9, 0, none⟩ = some (.slice A4 hi.length c4)
  l8 : g8 < W.heap.size
  l9 : g9 < W.heap.size
  n9 : w.heap.size + 1 + 1 + 1 < g9
theorem BtE.ext {w W W' : World} {A : Option Addr} {c : Nat} {l : List Sv} {last : Int} {g8 g9 : Nat} {A3 : Option Addr} {c3 : Nat} {A4 : Option Addr} {c4 : Nat} {lo hi : List Int} (h : BtE w W A c l last g8 g9 A3 c3 A4 c4 lo hi) (hb : Below W.heap.size W W') : BtE w W' A c l last g8 g9 A3 c3 A4 c4 lo hi :=
  ⟨h.k.ext hb, h.r3.ext hb, h.r4.ext hb, (hb.cell (p := ⟨g8, 0, none⟩) h.l8).trans h.c8, (hb.cell (p := ⟨g9, 0, none⟩) h.l9).trans h.c9, Nat.lt_of_lt_of_le h.l8 hb.size, Nat.lt_of_lt_of_le h.l9 hb.size, h.n9⟩
theorem loL_length (l : List Sv) (n : Nat) : (loL l n).length = n := tab_length _ _
theorem hiL_length (l : List Sv) (n : Nat) : (hiL l n).length = n := tab_length _ _
theorem rtwo_none (w w1 : World) (E : Int) (hb : Below w.heap.size w w1) : RTwo w [] [] E (.returned (.tuple #[.agg #[.slice none 0 0], .agg #[.slice none 0 0], .int .i64 E])) w1 :=
  ⟨none, 0, none, 0, rfl, Rd.nil, Rd.nil, hb⟩

set_option maxRecDepth 100000 in
set_option maxHeartbeats 3200000 in
theorem Between_any (A : Option Addr) (c : Nat) (l : List Sv) (last : Int) (w : World) (h : RdS w w.heap.size A l) (hm : l.length ≤ maxLen) :
    Calls Try.prog 17 #[.slice A l.length c, .int .i64 last] w fun e w' => RTwo w (pick (decide (betE l last = 0)) (loL l (last.toNat + 1))) (pick (decide (betE l last = 0)) (hiL l (last.toNat + 1))) (betE l last) e w' := by
  have hK := wBt_known w A c l last h
  have hs0 := wBt_size w A l.length c last
  have hm' := hm
  unfold maxLen at hm
  by_cases h60 : 60 < l.length
  · have hE : betE l last = 2 := by simp [betE, h60]
    rw [hE, show decide ((2 : Int) = 0) = false from rfl, pick_f, pick_f]
    have HT := Lib.hid (rtwo_none w _ 2 hK.bl)
    have h60z : (60 : Int) < (l.length : Int) := by omega
    clear hE hs0 hK h
    unfold wBt at HT
    go_enter Try.func17, Try.ntmps17
    go_wp2
    exact bodyPost_ret (v := .tuple #[.agg #[.slice none 0 0], .agg #[.slice none 0 0], .int .i64 2]) (by simp [results, Try.results17, go_sem]) rfl HT.out
  have h60z : ¬ (60 : Int) < (l.length : Int) := by omega
  cases hw : withinB last 0 120 with
  | false =>
    have hE : betE l last = 1 := by simp [betE, h60, hw]
    rw [hE, show decide ((1 : Int) = 0) = false from rfl, pick_f, pick_f]
    have HT := Lib.hid (rtwo_none w _ 1 hK.bl)
    clear hE hs0 hK h
    unfold wBt at HT
    go_enter Try.func17, Try.ntmps17
    go_wp2_with (go_at_call 69; refine (within_any _ _ _ _).mono ?_; rintro e w' ⟨rfl, rfl⟩)
    exact bodyPost_ret (v := .tuple #[.agg #[.slice none 0 0], .agg #[.slice none 0 0], .int .i64 1]) (by simp [results, Try.results17, go_sem]) rfl HT.out
  | true =>
  have hcall := containsFuncS_any A c l last (w.heap.size + 1) (wBt w A l.length c last) hK.rd (by omega) hK.p2 (by rw [hs0]; omega)
  cases ha : anyWrong last l with
  | true =>
    have hE : betE l last = 1 := by simp [betE, h60, hw, ha]
    rw [hE, show decide ((1 : Int) = 0) = false from rfl, pick_f, pick_f]
    rw [ha] at hcall
    have HC := Lib.hid (And.intro hcall (And.intro hK hs0))
    clear hE hs0 hK h hcall ha
    go_enter Try.func17, Try.ntmps17
    go_upto_region 5 with (first
      | (go_at_call 69; refine (within_any _ _ _ _).mono ?_; rintro e w' ⟨rfl, rfl⟩)
      | (go_at_call 70; refine HC.out.1.mono ?_; rintro e w1 ⟨rfl, hb⟩))
    have hK := HC.out.2.1.ext hb
    have HT := Lib.hid (And.intro (ends_set hK.e0 (.slice none 0 0) (.slice none 0 0)) (fin_ends (E := 1) (xs := []) (ys := []) (A := none) (A' := none) (c := 0) (c' := 0) (v0 := .slice none 0 0) (v1 := .slice none 0 0) hK.bl (Below.refl _ w1) Rd.nil Rd.nil (fun _ e => (by cases e)) (fun _ e => (by cases e)) (by omega) hK.e0.lt))
    obtain ⟨g0, g1, k0, k1, hlt⟩ := hK.e0
    clear hK hb
    go_wp2
    obtain ⟨⟨q0, q1⟩, HF⟩ := HT.out
    exact bodyPost_ret (v := .tuple #[.agg #[.slice none 0 0], .agg #[.slice none 0 0], .int .i64 1]) (by simp [results, Try.results17, go_sem, q0, q1]) rfl HF
  | false =>
  rw [ha] at hcall
  have hlast : 0 ≤ last ∧ last ≤ 120 := by unfold withinB at hw; simpa using hw
  obtain ⟨m, rfl⟩ : ∃ m : Nat, last = (m : Int) := ⟨last.toNat, by omega⟩
  have hm120 : m ≤ 120 := by omega
  have hm0z : (0 : Int) ≤ (m : Int) := by omega
  have hm120z : (m : Int) ≤ 120 := by omega
  have hcast : ((m + 1 : Nat) : Int) = (m : Int) + 1 := by omega
  have hE : betE l m = if clashB (hiL l (m + 1)) (loL l (m + 1)) then 9 else 0 := by simp [betE, h60, hw, ha]
  rw [hE, Int.toNat_natCast]
  have HC := Lib.hid (And.intro hcall (And.intro hK (And.intro hs0 (And.intro hcast hlast))))
  clear hE hs0 hK h hcall ha hcast hlast
  cases hc : clashB (hiL l (m + 1)) (loL l (m + 1))
  all_goals
    have HCl := Lib.hid hc
    clear hc
    simp only [Bool.false_eq_true, if_false, if_true]
    first
      | rw [show decide ((9 : Int) = 0) = false from rfl, pick_f, pick_f]
      | rw [show decide True = true from rfl, pick_t, pick_t]
    go_enter Try.func17, Try.ntmps17
    go_upto_region 6 with (first
      | (go_at_call 69; refine (within_any _ _ _ _).mono ?_; rintro e w' ⟨rfl, rfl⟩)
      | (go_at_call 70; refine HC.out.1.mono ?_; rintro e w1 ⟨rfl, hb⟩))
    have hK := HC.out.2.1.ext hb
    have he6 := each_pure 72 #[.pointer (some ⟨w.heap.size, 0, none⟩)] eg72 (m + 1) (by omega) (by omega) (fun t => loTo l t l.length) w1 (fun t W ht hW => between2_any t A c w.heap.size l W (hK.rd.ext hW) (by omega) (hK.ext hW).p1)
    rw [HC.out.2.2.2.1, show (tab (m + 1) fun t => loTo l t l.length) = loL l (m + 1) from rfl] at he6
    have HE6 := Lib.hid (And.intro he6 hK)
    have p1 := hK.p1
    have p2 := hK.p2
    clear he6 hK hb
    go_upto_region 7 with (go_at_call 71; refine HE6.out.1.mono ?_; rintro e w2 ⟨A3, c3, rfl, hrd, hfr, hb⟩)
    have hw3 : Below w2.heap.size w2 (w2.alloc (.cells #[.slice A3 (loL l (m + 1)).length c3] 26)) := (Below.refl _ w2).alloc (Nat.le_refl _) _
    have hB3 := hb.trans (hw3.mono hb.size)
    have hK := HE6.out.2.ext hB3
    have q1 := hK.p1
    have q2 := hK.p2
    have u8 : (w2.alloc (.cells #[.slice A3 (loL l (m + 1)).length c3] 26)).cell? ⟨w2.heap.size, 0, none⟩ = some (.slice A3 (loL l (m + 1)).length c3) := by simp [go_sem]
    have l8 : w2.heap.size < (w2.alloc (.cells #[.slice A3 (loL l (m + 1)).length c3] 26)).heap.size := by simp
    have hR3 := hrd.ext hw3
    have hF3 := hfr.mono HE6.out.2.bl.size
    have hsz3 := HE6.out.2.e0.lt
    have hfr3 : Fresh (w.heap.size + 1 + 1 + 1 + 1) A3 := hfr.mono (by omega)
    generalize hg2 : w2.alloc (.cells #[.slice A3 (loL l (m + 1)).length c3] 26) = w3 at *
    generalize hgg : w2.heap.size = g8 at *
    have he7 := each_pure 73 #[.pointer (some ⟨w.heap.size, 0, none⟩)] eg73 (m + 1) (by omega) (by omega) (fun t => hiTo l t l.length) w3 (fun t W ht hW => between3_any t A c w.heap.size l W (hK.rd.ext hW) (by omega) (hK.ext hW).p1)
    rw [HC.out.2.2.2.1, show (tab (m + 1) fun t => hiTo l t l.length) = hiL l (m + 1) from rfl] at he7
    have HE7 := Lib.hid (And.intro he7 (And.intro hK (And.intro hR3 hfr3)))
    clear hg2 hgg he7 hK hR3 hF3 hfr3 hB3 hw3 hb hrd hfr p1 p2 hsz3
    go_upto_region 8 with (go_at_call 71; refine HE7.out.1.mono ?_; rintro e w4 ⟨A4, c4, rfl, hrd, hfr, hb⟩)
    have hw5 : Below w4.heap.size w4 (w4.alloc (.cells #[.slice A4 (hiL l (m + 1)).length c4] 26)) := (Below.refl _ w4).alloc (Nat.le_refl _) _
    have hB5 := hb.trans (hw5.mono hb.size)
    have hE : BtE w (w4.alloc (.cells #[.slice A4 (hiL l (m + 1)).length c4] 26)) A c l m g8 w4.heap.size A3 c3 A4 c4 (loL l (m + 1)) (hiL l (m + 1)) :=
      ⟨HE7.out.2.1.ext hB5, HE7.out.2.2.1.ext hB5, hrd.ext hw5, (hB5.cell (p := ⟨g8, 0, none⟩) l8).trans u8, by simp [go_sem], Nat.lt_of_lt_of_le l8 hB5.size, by simp, by have := hb.size; have := HE7.out.2.1.e0.lt; omega⟩
    have hfr4 : Fresh (w.heap.size + 1 + 1 + 1 + 1) A4 := hfr.mono (by have := HE7.out.2.1.e0.lt; omega)
    generalize hg2 : w4.alloc (.cells #[.slice A4 (hiL l (m + 1)).length c4] 26) = w5 at *
    generalize hgg : w4.heap.size = g9 at *
    have HE := Lib.hid (And.intro hE (And.intro HE7.out.2.2.2 hfr4))
    have c8 := hE.c8
    have c9 := hE.c9
    have hce : ∀ (A' : Option Addr) (c' : Nat) (W : World), Rd W W.heap.size A4 (hiL l (m + 1)) → Rd W W.heap.size A3 (loL l (m + 1)) → Rd W W.heap.size A' (upto (loL l (m + 1)).length) →
        Calls Try.prog 74 #[.slice A' (upto (loL l (m + 1)).length).length c', .func (.func 76) #[.agg #[.slice A4 (hiL l (m + 1)).length c4, .slice A3 (loL l (m + 1)).length c3]] #[]] W fun e w' => e = .returned (.bool (clashB (hiL l (m + 1)) (loL l (m + 1)))) ∧ Below W.heap.size W w' := fun A' c' W r4 r3 r => by
      have e : upto (loL l (m + 1)).length = upto (hiL l (m + 1)).length := by rw [loL_length, hiL_length]
      rw [e] at r ⊢
      exact contains_early A4 A3 A' c4 c3 c' (hiL l (m + 1)) (loL l (m + 1)) W r4 r3 r (by rw [hiL_length]; omega) (by rw [loL_length, hiL_length])
    have HCE := Lib.hid hce
    have hst := fun W => steps_any A3 c3 (loL l (m + 1)) W (by rw [loL_length]; omega)
    have HST := Lib.hid hst
    clear hg2 hgg hE hfr4 hB5 hw5 hb hrd hfr hce hst u8 l8 q1 q2 HE6 HE7
    go_region_held3 (fun W => W.cell? ⟨g8, 0, none⟩ = some (.slice A3 (loL l (m + 1)).length c3) ∧ W.cell? ⟨g9, 0, none⟩ = some (.slice A4 (hiL l (m + 1)).length c4)) (go_keep) (first
      | (go_at_call 75; refine (HST.out _).mono ?_; rintro e w6 ⟨A6, c6, rfl, hrd, hfr, hb⟩; have HL := Lib.hid (And.intro hrd (HE.out.1.ext (((Below.refl _ w5).drew).trans hb))); obtain ⟨s1, s2⟩ := And.intro HL.out.2.c8 HL.out.2.c9; clear hrd hfr hb)
      | (go_at_call 74; refine (HCE.out A6 c6 w6 HL.out.2.r4 HL.out.2.r3 HL.out.1).mono ?_; rw [HCl.out]; rintro e w7 ⟨rfl, hb⟩; have HL7 := Lib.hid (HL.out.2.ext hb); obtain ⟨t1, t2⟩ := And.intro HL7.out.c8 HL7.out.c9; obtain ⟨g0, g1, k0, k1, hlt⟩ := HL7.out.k.e0; clear hb))
  · have hF3 := HE.out.2.1
    have hF4 := HE.out.2.2
    have hs0 := HC.out.2.2.1
    have hK := HL7.out
    have HT := Lib.hid (And.intro (ends_set hK.k.e0 (.slice A3 (loL l (m + 1)).length c3) (.slice A4 (hiL l (m + 1)).length c4)) (fin_ends (E := 0) (c := c3) (c' := c4) (v0 := .slice A3 (loL l (m + 1)).length c3) (v1 := .slice A4 (hiL l (m + 1)).length c4) (wBt_below w A l.length c m) hK.k.bt hK.r3 hK.r4 (by rw [hs0]; exact hF3) (by rw [hs0]; exact hF4) (show w.heap.size ≤ w.heap.size + 1 + 1 by omega) (by rw [hs0]; omega)))
    clear hK hF3 hF4 hs0
    go_wp2
    have hn9 : ∀ (W : World) (v : Value), (W.setCell ⟨w.heap.size + 1 + 1, 0, none⟩ v).cell? ⟨g9, 0, none⟩ = W.cell? ⟨g9, 0, none⟩ := fun W v => World.cell?_setCell_other W _ _ v (fun e => by have e := congrArg Addr.block e; have := HL7.out.n9; dsimp only at e; omega)
    go_region
    go_wp2
    obtain ⟨⟨q0, q1⟩, HF⟩ := HT.out
    exact bodyPost_ret (v := .tuple #[.agg #[.slice A3 (loL l (m + 1)).length c3], .agg #[.slice A4 (hiL l (m + 1)).length c4], .int .i64 0]) (by simp [results, Try.results17, go_sem, q0, q1]) rfl HF.drew
  · have hF3 := HE.out.2.1
    have hF4 := HE.out.2.2
    have hs0 := HC.out.2.2.1
    have hK := HL7.out
    have HT := Lib.hid (And.intro (ends_set hK.k.e0 (.slice A3 (loL l (m + 1)).length c3) (.slice A4 (hiL l (m + 1)).length c4)) (fin_ends (E := 0) (c := c3) (c' := c4) (v0 := .slice A3 (loL l (m + 1)).length c3) (v1 := .slice A4 (hiL l (m + 1)).length c4) (wBt_below w A l.length c m) hK.k.bt hK.r3 hK.r4 (by rw [hs0]; exact hF3) (by rw [hs0]; exact hF4) (show w.heap.size ≤ w.heap.size + 1 + 1 by omega) (by rw [hs0]; omega)))
    clear hK hF3 hF4 hs0
    go_wp2
    have hn9 : ∀ (W : World) (v : Value), (W.setCell ⟨w.heap.size + 1 + 1, 0, none⟩ v).cell? ⟨g9, 0, none⟩ = W.cell? ⟨g9, 0, none⟩ := fun W v => World.cell?_setCell_other W _ _ v (fun e => by have e := congrArg Addr.block e; have := HL7.out.n9; dsimp only at e; omega)
    go_region
    go_wp2
    obtain ⟨⟨q0, q1⟩, HF⟩ := HT.out
    exact bodyPost_ret (v := .tuple #[.agg #[.slice A3 (loL l (m + 1)).length c3], .agg #[.slice A4 (hiL l (m + 1)).length c4], .int .i64 0]) (by simp [results, Try.results17, go_sem, q0, q1]) rfl HF.drew
  all_goals
    have hF3 := HE.out.2.1
    have hF4 := HE.out.2.2
    have hs0 := HC.out.2.2.1
    have hK := HL7.out
    have HT := Lib.hid (And.intro (ends_set hK.k.e0 (.slice none 0 0) (.slice none 0 0)) (fin_ends (E := 9) (xs := []) (ys := []) (A := none) (A' := none) (c := 0) (c' := 0) (v0 := .slice none 0 0) (v1 := .slice none 0 0) (wBt_below w A l.length c m) hK.k.bt Rd.nil Rd.nil (fun _ e => (by cases e)) (fun _ e => (by cases e)) (show w.heap.size ≤ w.heap.size + 1 + 1 by omega) (by rw [hs0]; omega)))
    clear hK hF3 hF4 hs0
    go_wp2
    obtain ⟨⟨q0, q1⟩, HF⟩ := HT.out
    exact bodyPost_ret (v := .tuple #[.agg #[.slice none 0 0], .agg #[.slice none 0 0], .int .i64 9]) (by simp [results, Try.results17, go_sem, q0, q1]) rfl HF
end Go.Proofs.Ytknkneccnhgjmaa
