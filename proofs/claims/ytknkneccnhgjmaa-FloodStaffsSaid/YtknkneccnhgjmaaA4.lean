/- Walks: the closures that read captured curves. -/
import Derived.Test.YtknkneccnhgjmaaA3
namespace Go.Proofs.Ytknkneccnhgjmaa
open Go.RowKit

/-- The cell ⟨B, o⟩ holds a slice that reads as xs. -/
def Held (w : World) (B o : Nat) (xs : List Int) : Prop := B < w.heap.size ∧ ∃ A c, w.cell? ⟨B, o, none⟩ = some (.slice A xs.length c) ∧ Rd w w.heap.size A xs

theorem Held.below {w w' : World} {B o : Nat} {xs : List Int} (h : Held w B o xs) (hb : Below w.heap.size w w') : Held w' B o xs := by
  obtain ⟨hB, A, c, h1, h2⟩ := h
  exact ⟨Nat.lt_of_lt_of_le hB hb.size, A, c, (hb.cell (p := ⟨B, o, none⟩) hB).trans h1, (h2.below hb (Nat.le_refl _)).mono hb.size⟩

/-- At a place in range: the cells. -/
theorem Held.at {w : World} {B o : Nat} {xs : List Int} (h : Held w B o xs) {t : Nat} (ht : t < xs.length) :
    B < w.heap.size ∧ ∃ b off c, b < w.heap.size ∧ w.cell? ⟨B, o, none⟩ = some (.slice (some ⟨b, off, none⟩) xs.length c) ∧ ∀ i, i < xs.length → w.cell? ⟨b, off + i, none⟩ = some (.int .i64 (nth xs i)) := by
  obtain ⟨hB, A, c, h1, h2⟩ := h
  obtain ⟨b, off, rfl, hb, hc⟩ := h2 (by omega)
  exact ⟨hB, b, off, c, hb, h1, hc⟩

/-- All numbers fit in a wide margin. -/
def Small (xs : List Int) : Prop := ∀ i, -1000000000000000 ≤ nth xs i ∧ nth xs i ≤ 1000000000000000

set_option maxHeartbeats 400000 in
theorem sum1_any (t : Nat) (B1 B2 : Nat) (xs ys : List Int) (w : World) (hx : Held w B1 0 xs) (hy : Held w B2 0 ys) (h1 : t < xs.length) (h2 : t < ys.length) (sx : Small xs) (sy : Small ys) :
    Calls Try.prog 86 #[.int .i64 t, .pointer (some ⟨B1, 0, none⟩), .pointer (some ⟨B2, 0, none⟩)] w fun e w' => e = .returned (.int .i64 (nth xs t + nth ys t)) ∧ Below w.heap.size w w' := by
  obtain ⟨l1, b1, o1, c1, lb1, f1, g1⟩ := hx.at h1
  obtain ⟨l2, b2, o2, c2, lb2, f2, g2⟩ := hy.at h2
  have k1 := g1 t h1
  have k2 := g2 t h2
  obtain ⟨m1, m2⟩ := sx t
  obtain ⟨m3, m4⟩ := sy t
  clear g1 g2 hx hy sx sy
  go_enter Try.func86, Try.ntmps86
  go_wp2
  refine wp_region_ext (by kernel_rfl) (by kernel_rfl) ?_
  intro ι _ X hX hC
  have rX := fun k => (bcell (hX k)).1
  repeat (first | go_big_quiet_skip | (go_big_quiet_want; go_big_quiet_op; first | go_big_quiet_on | (apply Exists.intro; refine ⟨fun _ => ?_, ?_⟩; (focus (fail)); go_big_quiet_on)))
  refine wpQuiet_nil ?_
  intro w1 hb1
  clear rX hX hC
  go_wp2
  go_ret
  exact ⟨rfl, hb1⟩

set_option maxHeartbeats 400000 in
theorem lower1_any (t : Nat) (B1 B2 : Nat) (xs ys : List Int) (w : World) (hx : Held w B1 0 xs) (hy : Held w B2 0 ys) (h1 : t < xs.length) (h2 : t < ys.length) :
    Calls Try.prog 121 #[.int .i64 t, .pointer (some ⟨B1, 0, none⟩), .pointer (some ⟨B2, 0, none⟩)] w fun e w' => e = .returned (.int .i64 (min (nth xs t) (nth ys t))) ∧ Below w.heap.size w w' := by
  obtain ⟨l1, b1, o1, c1, lb1, f1, g1⟩ := hx.at h1
  obtain ⟨l2, b2, o2, c2, lb2, f2, g2⟩ := hy.at h2
  have k1 := g1 t h1
  have k2 := g2 t h2
  clear g1 g2 hx hy
  go_enter Try.func121, Try.ntmps121
  go_wp2
  refine wp_region_ext (by kernel_rfl) (by kernel_rfl) ?_
  intro ι _ X hX hC
  have rX := fun k => (bcell (hX k)).1
  repeat (first | go_big_quiet_skip | (go_big_quiet_want; go_big_quiet_op; first | go_big_quiet_on | (apply Exists.intro; refine ⟨fun _ => ?_, ?_⟩; (focus (fail)); go_big_quiet_on)))
  refine wpQuiet_nil ?_
  intro w1 hb1
  clear rX hX hC
  go_wp2
  all_goals
    go_ret
    exact ⟨ret_int (by omega), hb1⟩

set_option maxHeartbeats 400000 in
theorem behind1_any (t : Nat) (B1 B2 : Nat) (xs ys : List Int) (w : World) (hx : Held w B1 0 xs) (hy : Held w B2 0 ys) (h1 : t < xs.length) (h2 : t < ys.length) :
    Calls Try.prog 103 #[.int .i64 t, .pointer (some ⟨B1, 0, none⟩), .pointer (some ⟨B2, 0, none⟩)] w fun e w' => e = .returned (.int .i64 (max (nth xs t) (nth ys t))) ∧ Below w.heap.size w w' := by
  obtain ⟨l1, b1, o1, c1, lb1, f1, g1⟩ := hx.at h1
  obtain ⟨l2, b2, o2, c2, lb2, f2, g2⟩ := hy.at h2
  have k1 := g1 t h1
  have k2 := g2 t h2
  clear g1 g2 hx hy
  go_enter Try.func103, Try.ntmps103
  go_wp2
  refine wp_region_ext (by kernel_rfl) (by kernel_rfl) ?_
  intro ι _ X hX hC
  have rX := fun k => (bcell (hX k)).1
  repeat (first | go_big_quiet_skip | (go_big_quiet_want; go_big_quiet_op; first | go_big_quiet_on | (apply Exists.intro; refine ⟨fun _ => ?_, ?_⟩; (focus (fail)); go_big_quiet_on)))
  refine wpQuiet_nil ?_
  intro w1 hb1
  clear rX hX hC
  go_wp2
  all_goals
    go_ret
    exact ⟨ret_int (by omega), hb1⟩

theorem lt_any (x y : Int) (w : World) : Calls Try.prog 85 #[.int .i64 x, .int .i64 y] w fun e w' => e = .returned (.bool (decide (x < y))) ∧ w = w' := by
  go_enter Try.func85, Try.ntmps85
  go_wp2
  go_ret
  exact ⟨rfl, rfl⟩
theorem gt_any (x y : Int) (w : World) : Calls Try.prog 107 #[.int .i64 x, .int .i64 y] w fun e w' => e = .returned (.bool (decide (y < x))) ∧ w = w' := by
  go_enter Try.func107, Try.ntmps107
  go_wp2
  go_ret
  exact ⟨rfl, rfl⟩

set_option maxHeartbeats 400000 in
theorem early_any (t : Nat) (A1 A2 : Option Addr) (d1 d2 : Nat) (xs ys : List Int) (w : World) (hx : Rd w w.heap.size A1 xs) (hy : Rd w w.heap.size A2 ys) (h1 : t < xs.length) (h2 : t < ys.length) :
    Calls Try.prog 76 #[.agg #[.slice A1 xs.length d1, .slice A2 ys.length d2], .int .i64 t] w fun e w' => e = .returned (.bool (decide (nth xs t < nth ys t))) ∧ Below w.heap.size w w' := by
  obtain ⟨b1, o1, rfl, lb1, g1⟩ := hx (by omega)
  obtain ⟨b2, o2, rfl, lb2, g2⟩ := hy (by omega)
  have k1 := g1 t h1
  have k2 := g2 t h2
  have m1 : b1 < w.heap.size + 1 := by omega
  have m2 : b2 < w.heap.size + 1 := by omega
  clear g1 g2 hx hy
  go_enter Try.func76, Try.ntmps76
  go_wp2
  refine wp_region_ext (by kernel_rfl) (by kernel_rfl) ?_
  intro ι _ X hX hC
  have rX := fun k => (bcell (hX k)).1
  repeat (first | go_big_quiet_skip | (go_big_quiet_want; go_big_quiet_op; first | go_big_quiet_on | (apply Exists.intro; refine ⟨fun _ => ?_, ?_⟩; (focus (fail)); go_big_quiet_on)))
  refine wpQuiet_nil ?_
  intro w1 hb1
  clear rX hX hC
  go_wp2
  go_ret
  exact ⟨rfl, ((Below.refl _ w).alloc (Nat.le_refl _) _).trans (hb1.mono (by simp))⟩

set_option maxHeartbeats 400000 in
theorem lies_any (t : Nat) (A1 A2 : Option Addr) (d1 d2 : Nat) (xs ys : List Int) (w : World) (hx : Rd w w.heap.size A1 xs) (hy : Rd w w.heap.size A2 ys) (h1 : t < xs.length) (h2 : t < ys.length) (sx : Small xs) (sy : Small ys) :
    Calls Try.prog 90 #[.agg #[.slice A1 xs.length d1, .slice A2 ys.length d2], .int .i64 t] w fun e w' => e = .returned (.int .i64 (nth xs t - nth ys t)) ∧ Below w.heap.size w w' := by
  obtain ⟨b1, o1, rfl, lb1, g1⟩ := hx (by omega)
  obtain ⟨b2, o2, rfl, lb2, g2⟩ := hy (by omega)
  have k1 := g1 t h1
  have k2 := g2 t h2
  have m1 : b1 < w.heap.size + 1 := by omega
  have m2 : b2 < w.heap.size + 1 := by omega
  obtain ⟨n1, n2⟩ := sx t
  obtain ⟨n3, n4⟩ := sy t
  clear g1 g2 hx hy sx sy
  go_enter Try.func90, Try.ntmps90
  go_wp2
  refine wp_region_ext (by kernel_rfl) (by kernel_rfl) ?_
  intro ι _ X hX hC
  have rX := fun k => (bcell (hX k)).1
  repeat (first | go_big_quiet_skip | (go_big_quiet_want; go_big_quiet_op; first | go_big_quiet_on | (apply Exists.intro; refine ⟨fun _ => ?_, ?_⟩; (focus (fail)); go_big_quiet_on)))
  refine wpQuiet_nil ?_
  intro w1 hb1
  clear rX hX hC
  go_wp2
  go_ret
  exact ⟨rfl, ((Below.refl _ w).alloc (Nat.le_refl _) _).trans (hb1.mono (by simp))⟩

/-- The greatest of k numbers, but at least 0. -/
def maxTo (h : Nat → Int) : Nat → Int
  | 0 => 0
  | k + 1 => max (maxTo h k) (h k)

theorem maxTo_bd (h : Nat → Int) (M : Int) (h0 : 0 ≤ M) (k : Nat) (hh : ∀ i, i < k → h i ≤ M) : 0 ≤ maxTo h k ∧ maxTo h k ≤ M := by
  induction k with
  | zero => exact ⟨Int.le_refl _, h0⟩
  | succ k ih =>
    have := ih fun i hi => hh i (by omega)
    have := hh k (by omega)
    unfold maxTo
    omega

def leadAt (xs ys : List Int) (t : Nat) : Int := maxTo (fun u => nth xs (t + u) - nth ys u) (xs.length - t)

set_option maxHeartbeats 400000 in
theorem lead1_any (t : Nat) (B1 B2 : Nat) (xs ys : List Int) (w : World) (hx : Held w B1 0 xs) (hy : Held w B2 0 ys) (h1 : t < xs.length) (h2 : ys.length = xs.length) (hm : xs.length ≤ 1000) (sx : Small xs) (sy : Small ys) :
    Calls Try.prog 117 #[.int .i64 t, .pointer (some ⟨B1, 0, none⟩), .pointer (some ⟨B2, 0, none⟩)] w fun e w' => e = .returned (.int .i64 (leadAt xs ys t)) ∧ Below w.heap.size w w' := by
  obtain ⟨l1, b1, o1, c1, lb1, f1, g1⟩ := hx.at h1
  obtain ⟨l2, b2, o2, c2, lb2, f2, g2⟩ := hy.at (t := 0) (by omega)
  have H2 := Lib.hid h2
  clear h2 hx hy
  go_enter Try.func117, Try.ntmps117
  go_wp2
  go_loopg [5, 12] (xs.length - t) (fun gk v i wr => ∃ u : Nat, u ≤ xs.length - t ∧ xs.length - t - u ≤ gk ∧ i = .int .i64 u ∧ v = .int .i64 (maxTo (fun u => nth xs (t + u) - nth ys u) u) ∧ Aside (Below w.heap.size w wr))
  case atStart => exact ⟨0, Nat.zero_le _, by omega, rfl, rfl, Below.refl _ _⟩
  case round =>
    obtain ⟨u, hu, hg, rfl, rfl, hb⟩ := hrel
    have hbd := maxTo_bd (fun u => nth xs (t + u) - nth ys u) 2000000000000000 (by omega) u (fun i _ => by have := sx (t + i); have := sy i; omega)
    by_cases hlt : u < xs.length - t
    · have k1 := g1 (t + u) (by omega)
      have k2 := g2 u (by rw [H2.out]; omega)
      have hlt2 : (u : Int) < (xs.length : Int) - (t : Int) := by omega
      have hul : (u : Int) < (ys.length : Int) := by rw [H2.out]; omega
      obtain ⟨n1, n2⟩ := sx (t + u)
      obtain ⟨n3, n4⟩ := sy u
      obtain ⟨n5, n6⟩ := hbd
      obtain ⟨rc, rf⟩ := bcell hb.out
      have hsz := hb.out.size
      have lw1 : b1 < wr.heap.size := by omega
      have lw2 : b2 < wr.heap.size := by omega
      have lw3 : B1 < wr.heap.size := by omega
      have lw4 : B2 < wr.heap.size := by omega
      clear g1 g2 sx sy
      have HM := Lib.hid (show maxTo (fun u => nth xs (t + u) - nth ys u) (u + 1) = max (maxTo (fun u => nth xs (t + u) - nth ys u) u) (nth xs (t + u) - nth ys u) from rfl)
      generalize maxTo (fun u => nth xs (t + u) - nth ys u) u = M at *
      go_wp2
      refine wp_region_ext (by kernel_rfl) (by kernel_rfl) ?_
      intro ι _ X hX hC
      have rX := fun k => (bcell (hX k)).1
      repeat (first | go_big_quiet_skip | (go_big_quiet_want; go_big_quiet_op; first | go_big_quiet_on | (apply Exists.intro; refine ⟨fun _ => ?_, ?_⟩; (focus (fail)); go_big_quiet_on)))
      refine wpQuiet_nil ?_
      intro w1 hb1
      clear rX hX hC
      go_wp2
      all_goals
        go_roundg (xs.length - t - (u + 1))
        case measure => omega
        case rel => exact ⟨u + 1, by omega, by omega, by go_num, by rw [HM.out]; exact int_eq (by omega), hb.out.trans (hb1.mono hsz)⟩
    · have hlt2 : ¬ (u : Int) < (xs.length : Int) - (t : Int) := by omega
      obtain rfl : u = xs.length - t := by omega
      go_wp2
      go_ret
      exact ⟨rfl, hb.out⟩
end Go.Proofs.Ytknkneccnhgjmaa
