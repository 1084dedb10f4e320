/- Walks: Served, flowing, Waited, Delay. -/
import Derived.Test.YtknkneccnhgjmaaB8
namespace Go.Proofs.Ytknkneccnhgjmaa
open Go.RowKit Go.Shelf

def ok3 (xs ys zs : List Int) : Bool := validB xs && validB ys && decide (ys.length = xs.length) && validB zs && decide (zs.length = xs.length)
theorem ok3_iff {xs ys zs : List Int} : ok3 xs ys zs = true ↔ Valid xs ∧ Valid ys ∧ ys.length = xs.length ∧ Valid zs ∧ zs.length = xs.length := by
  unfold ok3; simp only [Bool.and_eq_true, decide_eq_true_eq, validB_iff]
  exact ⟨fun ⟨⟨⟨⟨a, b⟩, c⟩, d⟩, e⟩ => ⟨a, b, c, d, e⟩, fun ⟨a, b, c, d, e⟩ => ⟨⟨⟨⟨a, b⟩, c⟩, d⟩, e⟩⟩
theorem rightB_three (A1 A2 A3 : Option Addr) (c1 c2 c3 : Nat) (xs ys zs : List Int) : rightB [⟨A1, c1, xs⟩, ⟨A2, c2, ys⟩, ⟨A3, c3, zs⟩] = ok3 xs ys zs := by
  simp [rightB, rightAt, ok3, List.range_succ, Bool.and_assoc]

theorem right3 (A1 A2 A3 : Option Addr) (c1 c2 c3 : Nat) (xs ys zs : List Int) (w : World) (r1 : Rd w w.heap.size A1 xs) (r2 : Rd w w.heap.size A2 ys) (r3 : Rd w w.heap.size A3 zs) (m1 : xs.length ≤ maxLen) (m2 : ys.length ≤ maxLen) (m3 : zs.length ≤ maxLen) :
    Calls Try.prog 78 #[.slice (some ⟨w.heap.size, 0, none⟩) 3 3] (w.alloc (.cells #[.slice A1 xs.length c1, .slice A2 ys.length c2, .slice A3 zs.length c3] 26)) fun e w' => e = .returned (.int .i64 (errB (ok3 xs ys zs))) ∧ Below w.heap.size w w' := by
  have hb : Below w.heap.size w (w.alloc (.cells #[.slice A1 xs.length c1, .slice A2 ys.length c2, .slice A3 zs.length c3] 26)) := (Below.refl _ w).alloc (Nat.le_refl _) _
  have h : RdC (w.alloc (.cells #[.slice A1 xs.length c1, .slice A2 ys.length c2, .slice A3 zs.length c3] 26)) (w.alloc (.cells #[.slice A1 xs.length c1, .slice A2 ys.length c2, .slice A3 zs.length c3] 26)).heap.size (some ⟨w.heap.size, 0, none⟩) [⟨A1, c1, xs⟩, ⟨A2, c2, ys⟩, ⟨A3, c3, zs⟩] := by
    refine ⟨fun _ => ⟨_, _, rfl, by simp, fun i hi => ?_⟩, fun i hi => ?_⟩
    · match i, hi with
      | 0, _ => simp [go_sem, Cv.v]
      | 1, _ => simp [go_sem, Cv.v]
      | 2, _ => simp [go_sem, Cv.v]
    · match i, hi with
      | 0, _ => exact r1.ext hb
      | 1, _ => exact r2.ext hb
      | 2, _ => exact r3.ext hb
  have hc := right_any (some ⟨w.heap.size, 0, none⟩) 3 [⟨A1, c1, xs⟩, ⟨A2, c2, ys⟩, ⟨A3, c3, zs⟩] _ h (by simp) (fun i hi => by
    match i, hi with
    | 0, _ => exact m1
    | 1, _ => exact m2
    | 2, _ => exact m3)
  rw [rightB_three] at hc
  exact hc.mono fun e w' ⟨he, hb'⟩ => ⟨he, hb.trans (hb'.mono (by simp))⟩

/-- Served: the step, whether there is none, the error. -/
def servedN (xs ys zs : List Int) : Int := if ok3 xs ys zs then (if 0 ≤ failsI xs ys zs then failsI xs ys zs else 0) else 0
def servedB (xs ys zs : List Int) : Bool := ok3 xs ys zs && decide (failsI xs ys zs < 0)

set_option maxRecDepth 100000 in
set_option maxHeartbeats 800000 in
theorem Served_any (A1 A2 A3 : Option Addr) (c1 c2 c3 : Nat) (xs ys zs : List Int) (w : World) (r1 : Rd w w.heap.size A1 xs) (r2 : Rd w w.heap.size A2 ys) (r3 : Rd w w.heap.size A3 zs) (m1 : xs.length ≤ maxLen) (m2 : ys.length ≤ maxLen) (m3 : zs.length ≤ maxLen) :
    Calls Try.prog 36 #[.agg #[.slice A1 xs.length c1], .agg #[.slice A2 ys.length c2], .agg #[.slice A3 zs.length c3]] w fun e w' => e = .returned (.tuple #[.int .i64 (servedN xs ys zs), .bool (servedB xs ys zs), .int .i64 (errB (ok3 xs ys zs))]) ∧ Below w.heap.size w w' := by
  have hb0 := w3b_below w A1 A2 A3 xs.length c1 ys.length c2 zs.length c3
  have hr := right3 A1 A2 A3 c1 c2 c3 xs ys zs (w3b w A1 A2 A3 xs.length c1 ys.length c2 zs.length c3) (r1.ext hb0) (r2.ext hb0) (r3.ext hb0) m1 m2 m3
  rw [w3b_size] at hr
  cases hv : ok3 xs ys zs
  · have hN : servedN xs ys zs = 0 := by simp [servedN, hv]
    have hB : servedB xs ys zs = false := by simp [servedB, hv]
    rw [hv] at hr
    rw [hN, hB]
    simp only [errB_f] at hr ⊢
    have HR := Lib.hid (And.intro hr (And.intro r1 (And.intro r2 r3)))
    clear hr r1 r2 r3 hb0 hv hN hB
    go_enter Try.func36, Try.ntmps36
    go_wp2_with (go_at_call 78; refine HR.out.1.mono ?_; rintro e w1 ⟨rfl, hb⟩; obtain ⟨p1, p2, p3, HI⟩ := w3b_after HR.out.2.1 HR.out.2.2.1 HR.out.2.2.2 hb)
    go_ret3
    exact ⟨rfl, HI.below⟩
  · have ⟨v1, v2, h3, v3, h4⟩ := ok3_iff.1 hv
    have hN : servedN xs ys zs = if 0 ≤ failsI xs ys zs then failsI xs ys zs else 0 := by simp [servedN, hv]
    have hB : servedB xs ys zs = decide (failsI xs ys zs < 0) := by simp [servedB, hv]
    rw [hv] at hr
    rw [hN, hB]
    simp only [errB_t] at hr ⊢
    have HR := Lib.hid (And.intro hr (And.intro r1 (And.intro r2 (And.intro r3 (And.intro v1 (And.intro h3 (And.intro v3 h4)))))))
    have hf := fun (W : World) (hW : In3 w W A1 A2 A3 xs ys zs) => fails_any A1 A2 A3 c1 c2 c3 xs ys zs W hW.r1 hW.r2 hW.r3 v1.1 v1.2.1 h3 h4 v1.small v3.small
    have HF := Lib.hid hf
    clear hr r1 r2 r3 hb0 hv hN hB v1 v2 v3 h3 h4 hf
    generalize failsI xs ys zs = r at *
    by_cases hr : 0 ≤ r
    all_goals
      have Hr := Lib.hid hr
      go_enter Try.func36, Try.ntmps36
      go_wp2_with (first | (go_at_call 78; refine HR.out.1.mono ?_; rintro e w1 ⟨rfl, hb⟩; obtain ⟨p1, p2, p3, HI⟩ := w3b_after HR.out.2.1 HR.out.2.2.1 HR.out.2.2.2.1 hb) | (go_at_call 101; refine (HF.out _ HI).mono ?_; rintro e w2 ⟨rfl, hb2⟩))
      go_ret3
      refine ⟨?_, HI.below.trans (hb2.mono HI.below.size)⟩
      have := Hr.out
      simp [this]
      try omega
end Go.Proofs.Ytknkneccnhgjmaa
