/- Walks: divided, join's closure, lower, lead, join, bounded. -/
import Derived.Test.YtknkneccnhgjmaaA7
namespace Go.Proofs.Ytknkneccnhgjmaa
open Go.RowKit Go.Shelf

/-- The first number up to k at which h is best. -/
def argb (bt : Int → Int → Bool) (h : Nat → Int) : Nat → Nat
  | 0 => 0
  | k + 1 => if bt (h (k + 1)) (h (argb bt h k)) then k + 1 else argb bt h k
theorem argb_le (bt : Int → Int → Bool) (h : Nat → Int) (k : Nat) : argb bt h k ≤ k := by
  induction k with
  | zero => exact Nat.le_refl _
  | succ k ih => unfold argb; split <;> omega
theorem bestL_came (bt : Int → Int → Bool) (h : Nat → Int) (k : Nat) : bestL bt (came (fun s => (s, h s)) (k + 1)) = some (argb bt h k, h (argb bt h k)) := by
  induction k with
  | zero => rfl
  | succ k ih =>
    rw [came_succ, bestL_snoc, ih]
    simp only []
    by_cases hb : bt (h (k + 1)) (h (argb bt h k)) = true
    · simp [argb, hb]
    · simp [argb, hb]

def ltB (a b : Int) : Bool := decide (a < b)
/-- The sum of the parts into which step t is divided at s. -/
def divAt (xs ys : List Int) (t s : Nat) : Int := nth xs s + nth ys (t - s)
def splitAt (xs ys : List Int) (t : Nat) : Nat := argb ltB (divAt xs ys t) t
def joinAt (xs ys : List Int) (t : Nat) : Int := divAt xs ys t (splitAt xs ys t)

def RDiv (w : World) (A1 A2 : Option Addr) (n1 c1 n2 c2 : Nat) (t : Int) (e : Ending) (w' : World) : Prop :=
  e = .returned (.func (.func 120) #[] #[.pointer (some ⟨w.heap.size + 1 + 1, 0, none⟩), .pointer (some ⟨w.heap.size, 0, none⟩), .pointer (some ⟨w.heap.size + 1, 0, none⟩)]) ∧
    w' = ((w.alloc (.cells #[.slice A1 n1 c1] 26)).alloc (.cells #[.slice A2 n2 c2] 26)).alloc (.cells #[.int .i64 t] 3)

theorem divided_any (A1 A2 : Option Addr) (n1 c1 n2 c2 : Nat) (t : Int) (w : World) :
    Calls Try.prog 84 #[.agg #[.slice A1 n1 c1], .agg #[.slice A2 n2 c2], .int .i64 t] w fun e w' => RDiv w A1 A2 n1 c1 n2 c2 t e w' := by
  go_enter Try.func84, Try.ntmps84
  go_wp2
  go_ret
  exact ⟨rfl, rfl⟩

theorem eg120 : ∀ args w, (callFunc 120 args).run Try.prog w = .ok (.enter 120 args) w := enters_of Try.func120 (by kernel_rfl) rfl
theorem eg85 : ∀ args w, (callFunc 85 args).run Try.prog w = .ok (.enter 85 args) w := enters_of Try.func85 (by kernel_rfl) rfl
theorem eg107 : ∀ args w, (callFunc 107 args).run Try.prog w = .ok (.enter 107 args) w := enters_of Try.func107 (by kernel_rfl) rfl

/-- best over divided's closure. -/
theorem bestDiv_any (B0 B1 B2 t : Nat) (xs ys : List Int) (w : World) (hc0 : w.cell? ⟨B0, 0, none⟩ = some (.int .i64 t)) (hB0 : B0 < w.heap.size) (hx : Held w B1 0 xs) (hy : Held w B2 0 ys)
    (h1 : t < xs.length) (h2 : t < ys.length) (hm : xs.length ≤ 1000) (sx : Small xs) (sy : Small ys) :
    Calls Try.prog 83 #[.func (.func 120) #[] #[.pointer (some ⟨B0, 0, none⟩), .pointer (some ⟨B1, 0, none⟩), .pointer (some ⟨B2, 0, none⟩)], .func (.func 85) #[] #[]] w
      fun e w' => e = .returned (.tuple #[.int .i64 (splitAt xs ys t), .int .i64 (joinAt xs ys t)]) ∧ Below w.heap.size w w' := by
  have h := callsIn_wide.1 (best_in 3 (by omega) 120 _ eg120 85 ltB eg85 (fun x y W => lt_any x y W) (t + 1) _ w (divided_stops 2 (by omega) B0 B1 B2 t xs ys w hc0 hB0 hx hy h1 h2 hm sx sy))
  have e : bestL ltB (came (fun s => (s, nth xs s + nth ys (t - s))) (t + 1)) = some (splitAt xs ys t, joinAt xs ys t) := bestL_came ltB (divAt xs ys t) t
  rw [e] at h
  exact h

set_option maxHeartbeats 400000 in
theorem join1_any (t : Nat) (B1 B2 : Nat) (xs ys : List Int) (w : World) (hx : Held w B1 0 xs) (hy : Held w B2 0 ys) (h1 : t < xs.length) (h2 : t < ys.length) (hm : xs.length ≤ 1000) (sx : Small xs) (sy : Small ys) :
    Calls Try.prog 118 #[.int .i64 t, .pointer (some ⟨B1, 0, none⟩), .pointer (some ⟨B2, 0, none⟩)] w fun e w' => e = .returned (.int .i64 (joinAt xs ys t)) ∧ Below w.heap.size w w' := by
  obtain ⟨l1, A1, c1, f1, r1⟩ := hx
  obtain ⟨l2, A2, c2, f2, r2⟩ := hy
  have hb0 : Below w.heap.size w (((w.alloc (.cells #[.slice A1 xs.length c1] 26)).alloc (.cells #[.slice A2 ys.length c2] 26)).alloc (.cells #[.int .i64 t] 3)) := (((Below.refl _ w).alloc (Nat.le_refl _) _).alloc (by simp) _).alloc (by simp; omega) _
  have hb := bestDiv_any (w.heap.size + 1 + 1) w.heap.size (w.heap.size + 1) t xs ys (((w.alloc (.cells #[.slice A1 xs.length c1] 26)).alloc (.cells #[.slice A2 ys.length c2] 26)).alloc (.cells #[.int .i64 t] 3))
    (by simp [go_sem]) (by simp) ⟨by simp; omega, A1, c1, by simp [go_sem], (r1.below hb0 (Nat.le_refl _)).mono (by simp; omega)⟩ ⟨by simp, A2, c2, by simp [go_sem], (r2.below hb0 (Nat.le_refl _)).mono (by simp; omega)⟩ h1 h2 hm sx sy
  have HB := Lib.hid (And.intro hb hb0)
  clear hb hb0 r1 r2
  go_enter Try.func118, Try.ntmps118
  go_wp2_with (first | (go_at_call 84; refine (divided_any _ _ _ _ _ _ _ _).mono ?_; rintro e w' ⟨rfl, rfl⟩) | (go_at_call 83; refine HB.out.1.mono ?_; rintro e w' ⟨rfl, hb'⟩))
  go_ret
  exact ⟨rfl, HB.out.2.trans (hb'.mono (by simp; omega))⟩
end Go.Proofs.Ytknkneccnhgjmaa
