/- Walks: Between's closures, slices.ContainsFunc on readings. -/
import Derived.Test.YtknkneccnhgjmaaC7
namespace Go.Proofs.Ytknkneccnhgjmaa
open Go.RowKit Go.Shelf

/-- A reading. -/
structure Sv where
  step : Int
  lo : Int
  hi : Int
def Sv.cells (s : Sv) : Array Value := #[.int .i64 s.step, .int .i64 s.lo, .int .i64 s.hi]
def nthS (l : List Sv) (i : Nat) : Sv := l.getD i ⟨0, 0, 0⟩
/-- A slice reads as readings. -/
def RdS (w : World) (B : Nat) (A : Option Addr) (l : List Sv) : Prop :=
  0 < l.length → ∃ b off, A = some ⟨b, off, none⟩ ∧ b < B ∧ ∀ i, i < l.length → w.cell? ⟨b, off + i * 3, none⟩ = some (.int .i64 (nthS l i).step) ∧ w.cell? ⟨b, off + i * 3 + 1, none⟩ = some (.int .i64 (nthS l i).lo) ∧ w.cell? ⟨b, off + i * 3 + 2, none⟩ = some (.int .i64 (nthS l i).hi)
theorem RdS.ext {w w' : World} {A : Option Addr} {l : List Sv} (h : RdS w w.heap.size A l) (hb : Below w.heap.size w w') : RdS w' w'.heap.size A l := fun hn => by
  obtain ⟨b, off, e, hlt, hc⟩ := h hn
  obtain ⟨rc, rf⟩ := bcell hb
  refine ⟨b, off, e, Nat.lt_of_lt_of_le hlt hb.size, fun i hi => ?_⟩
  obtain ⟨h1, h2, h3⟩ := hc i hi
  exact ⟨(rc _ _ hlt).trans h1, (rc _ _ hlt).trans h2, (rc _ _ hlt).trans h3⟩

/-- A reading that is not one. -/
def wrongB (last : Int) (s : Sv) : Bool := !withinB s.step 0 last || decide (s.lo < 0) || decide (s.hi < s.lo) || decide (1073741824 < s.hi)

theorem wrong_any (last : Int) (s : Sv) (B : Nat) (w : World) (hc : w.cell? ⟨B, 0, none⟩ = some (.int .i64 last)) (hB : B < w.heap.size) :
    Calls Try.prog 68 #[.agg s.cells, .pointer (some ⟨B, 0, none⟩)] w fun e w' => e = .returned (.bool (wrongB last s)) ∧ Below w.heap.size w w' := by
  obtain ⟨p, lo, hi⟩ := s
  unfold Sv.cells
  dsimp only
  by_cases h0 : 0 ≤ p ∧ p ≤ last
  · have hw : withinB p 0 last = true := by unfold withinB; rw [decide_eq_true_eq]; omega
    have hfin : wrongB last ⟨p, lo, hi⟩ = (decide (lo < 0) || decide (hi < lo) || decide (1073741824 < hi)) := by simp [wrongB, hw]
    rw [hfin]
    have Hh := Lib.hid h0
    clear hfin h0
    go_enter Try.func68, Try.ntmps68
    go_wp2_with (go_at_call 69; refine (within_any _ _ _ _).mono ?_; rintro e w' ⟨rfl, rfl⟩)
    all_goals
      go_ret
      exact ⟨by first | rfl | (exact ret_bool (by simp; omega)) | (exact ret_bool (by simp)), (Below.refl _ w).alloc (Nat.le_refl _) _⟩
  · have hw : withinB p 0 last = false := by unfold withinB; rw [decide_eq_false_iff_not]; omega
    have hfin : wrongB last ⟨p, lo, hi⟩ = true := by simp [wrongB, hw]
    rw [hfin]
    have Hh := Lib.hid h0
    clear hfin h0
    go_enter Try.func68, Try.ntmps68
    go_wp2_with (go_at_call 69; refine (within_any _ _ _ _).mono ?_; rintro e w' ⟨rfl, rfl⟩)
    go_ret
    exact ⟨rfl, (Below.refl _ w).alloc (Nat.le_refl _) _⟩

/-- The first reading of which p is true. -/
def AnswersS (g : Nat) (pre caps : Array Value) (l : List Sv) (p : Nat → Bool) (w : World) : Prop :=
  ∀ i W, i < l.length → Below w.heap.size w W → Calls Try.prog g (pre ++ #[.agg (nthS l i).cells] ++ caps) W fun e w' => e = .returned (.bool (p i)) ∧ Below W.heap.size W w'

set_option maxHeartbeats 800000 in
theorem indexFuncS_any (A : Option Addr) (c : Nat) (l : List Sv) (last : Int) (B : Nat) (w : World)
    (h : RdS w w.heap.size A l) (hm : l.length ≤ 1000) (hc : w.cell? ⟨B, 0, none⟩ = some (.int .i64 last)) (hB : B < w.heap.size) :
    Calls Try.prog 115 #[.slice A l.length c, .func (.func 68) #[] #[.pointer (some ⟨B, 0, none⟩)]] w fun e w' => e = .returned (.int .i64 (firstIdx (fun i => wrongB last (nthS l i)) l.length)) ∧ Below w.heap.size w w' := by
  go_enter Try.func115, Try.ntmps115
  go_wp2
  go_loopg [5, 8] l.length (fun gg _ s8 wr => ∃ t : Nat, t ≤ l.length ∧ l.length - t ≤ gg ∧ s8 = .int .i64 t ∧ Aside (Below w.heap.size w wr) ∧ Aside (∀ j, j < t → wrongB last (nthS l j) = false))
  case atStart => exact ⟨0, Nat.zero_le _, by omega, rfl, Below.refl _ w, fun j hj => absurd hj (Nat.not_lt_zero _)⟩
  case round =>
    obtain ⟨t, ht, hg, rfl, hb, hA⟩ := hrel
    by_cases hlt : t < l.length
    · have hltz : (t : Int) < (l.length : Int) := by omega
      obtain ⟨b, off, rfl, lb, hcs⟩ := h (by omega)
      obtain ⟨k1, k2, k3⟩ := hcs t hlt
      obtain ⟨rc, rf⟩ := bcell hb.out
      replace k1 := (rc _ _ lb).trans k1
      replace k2 := (rc _ _ lb).trans k2
      replace k3 := (rc _ _ lb).trans k3
      have hcall := wrong_any last (nthS l t) B wr ((rc _ _ hB).trans hc) (Nat.lt_of_lt_of_le hB hb.out.size)
      unfold Sv.cells at hcall
      clear hcs h hc rc rf
      generalize hsv : nthS l t = s at *
      obtain ⟨p, lo, hi⟩ := s
      dsimp only at k1 k2 k3 hcall
      cases hq : wrongB last ⟨p, lo, hi⟩ with
      | true =>
        rw [hq] at hcall
        have HQ := Lib.hid (And.intro hq hsv)
        clear hq hsv
        go_wp2_with (go_at_call 68; refine hcall.mono ?_; rintro e w' ⟨rfl, hb'⟩)
        go_ret
        exact ⟨ret_int (firstIdx_hit hlt (by rw [HQ.out.2]; exact HQ.out.1) hA.out).symm, hb.out.trans (hb'.mono hb.out.size)⟩
      | false =>
        rw [hq] at hcall
        have HQ := Lib.hid (And.intro hq hsv)
        clear hq hsv
        go_wp2_with (go_at_call 68; refine hcall.mono ?_; rintro e w' ⟨rfl, hb'⟩)
        go_roundg (l.length - (t + 1))
        case measure => omega
        case rel =>
          refine ⟨t + 1, by omega, by omega, by go_num, hb.out.trans (hb'.mono hb.out.size), (show Aside _ from fun j hj => ?_)⟩
          by_cases e : j = t
          · subst e; rw [HQ.out.2]; exact HQ.out.1
          · exact hA.out j (by omega)
    · have hltz : ¬ (t : Int) < (l.length : Int) := by omega
      obtain rfl : t = l.length := by omega
      go_wp2
      go_ret
      exact ⟨ret_int (firstIdx_miss hA.out).symm, hb.out⟩

def anyWrong (last : Int) (l : List Sv) : Bool := decide (0 ≤ firstIdx (fun i => wrongB last (nthS l i)) l.length)
theorem containsFuncS_any (A : Option Addr) (c : Nat) (l : List Sv) (last : Int) (B : Nat) (w : World)
    (h : RdS w w.heap.size A l) (hm : l.length ≤ 1000) (hc : w.cell? ⟨B, 0, none⟩ = some (.int .i64 last)) (hB : B < w.heap.size) :
    Calls Try.prog 70 #[.slice A l.length c, .func (.func 68) #[] #[.pointer (some ⟨B, 0, none⟩)]] w fun e w' => e = .returned (.bool (anyWrong last l)) ∧ Below w.heap.size w w' := by
  have hcall := indexFuncS_any A c l last B w h hm hc hB
  unfold anyWrong
  generalize firstIdx (fun i => wrongB last (nthS l i)) l.length = r at *
  clear h hc
  go_enter Try.func70, Try.ntmps70
  go_wp2_with (go_at_call 115; refine hcall.mono ?_; rintro e w' ⟨rfl, hb'⟩)
  go_ret
  exact ⟨rfl, hb'⟩

/-- The least that had passed at step t, by k readings; the most. -/
def loTo (l : List Sv) (t : Int) : Nat → Int
  | 0 => 0
  | k + 1 => if (nthS l k).step ≤ t then max (loTo l t k) (nthS l k).lo else loTo l t k
def hiTo (l : List Sv) (t : Int) : Nat → Int
  | 0 => 1073741824
  | k + 1 => if t ≤ (nthS l k).step then min (hiTo l t k) (nthS l k).hi else hiTo l t k

set_option maxHeartbeats 800000 in
theorem between2_any (t : Int) (A : Option Addr) (c B : Nat) (l : List Sv) (w : World) (h : RdS w w.heap.size A l) (hm : l.length ≤ 1000) (hc : w.cell? ⟨B, 0, none⟩ = some (.slice A l.length c)) :
    Calls Try.prog 72 #[.int .i64 t, .pointer (some ⟨B, 0, none⟩)] w fun e w' => e = .returned (.int .i64 (loTo l t l.length)) ∧ Below w.heap.size w w' := by
  go_enter Try.func72, Try.ntmps72
  go_wp2
  go_loopg [4, 6, 9] l.length (fun gg s4 _ s9 wr => ∃ k : Nat, k ≤ l.length ∧ l.length - k ≤ gg ∧ s9 = .int .i64 k ∧ s4 = .int .i64 (loTo l t k) ∧ Aside (Below w.heap.size w wr))
  case atStart => exact ⟨0, Nat.zero_le _, by omega, rfl, rfl, Below.refl _ w⟩
  case round =>
    obtain ⟨k, hk, hg, rfl, rfl, hb⟩ := hrel
    by_cases hlt : k < l.length
    · have hltz : (k : Int) < (l.length : Int) := by omega
      obtain ⟨b, off, rfl, lb, hcs⟩ := h (by omega)
      obtain ⟨k1, k2, k3⟩ := hcs k hlt
      obtain ⟨rc, rf⟩ := bcell hb.out
      replace k1 := (rc _ _ lb).trans k1
      replace k2 := (rc _ _ lb).trans k2
      replace k3 := (rc _ _ lb).trans k3
      clear hcs h hc rc rf
      have hs : loTo l t (k + 1) = if (nthS l k).step ≤ t then max (loTo l t k) (nthS l k).lo else loTo l t k := rfl
      generalize hsv : nthS l k = s at *
      obtain ⟨p, lo, hi⟩ := s
      dsimp only at k1 k2 k3 hs
      by_cases hq : p ≤ t
      · rw [if_pos hq] at hs
        have HS := Lib.hid hs
        clear hs hsv
        generalize loTo l t k = M at *
        go_wp2
        all_goals
          go_roundg (l.length - (k + 1))
          case measure => omega
          case rel => exact ⟨k + 1, by omega, by omega, by go_num, by rw [HS.out]; exact int_eq (by omega), (hb.out.alloc hb.out.size _)⟩
      · rw [if_neg hq] at hs
        have HS := Lib.hid hs
        clear hs hsv
        generalize loTo l t k = M at *
        go_wp2
        go_roundg (l.length - (k + 1))
        case measure => omega
        case rel => exact ⟨k + 1, by omega, by omega, by go_num, by rw [HS.out], (hb.out.alloc hb.out.size _)⟩
    · have hltz : ¬ (k : Int) < (l.length : Int) := by omega
      obtain rfl : k = l.length := by omega
      go_wp2
      go_ret
      exact ⟨rfl, hb.out⟩

set_option maxHeartbeats 800000 in
theorem between3_any (t : Int) (A : Option Addr) (c B : Nat) (l : List Sv) (w : World) (h : RdS w w.heap.size A l) (hm : l.length ≤ 1000) (hc : w.cell? ⟨B, 0, none⟩ = some (.slice A l.length c)) :
    Calls Try.prog 73 #[.int .i64 t, .pointer (some ⟨B, 0, none⟩)] w fun e w' => e = .returned (.int .i64 (hiTo l t l.length)) ∧ Below w.heap.size w w' := by
  go_enter Try.func73, Try.ntmps73
  go_wp2
  go_loopg [4, 6, 9] l.length (fun gg s4 _ s9 wr => ∃ k : Nat, k ≤ l.length ∧ l.length - k ≤ gg ∧ s9 = .int .i64 k ∧ s4 = .int .i64 (hiTo l t k) ∧ Aside (Below w.heap.size w wr))
  case atStart => exact ⟨0, Nat.zero_le _, by omega, rfl, rfl, Below.refl _ w⟩
  case round =>
    obtain ⟨k, hk, hg, rfl, rfl, hb⟩ := hrel
    by_cases hlt : k < l.length
    · have hltz : (k : Int) < (l.length : Int) := by omega
      obtain ⟨b, off, rfl, lb, hcs⟩ := h (by omega)
      obtain ⟨k1, k2, k3⟩ := hcs k hlt
      obtain ⟨rc, rf⟩ := bcell hb.out
      replace k1 := (rc _ _ lb).trans k1
      replace k2 := (rc _ _ lb).trans k2
      replace k3 := (rc _ _ lb).trans k3
      clear hcs h hc rc rf
      have hs : hiTo l t (k + 1) = if t ≤ (nthS l k).step then min (hiTo l t k) (nthS l k).hi else hiTo l t k := rfl
      generalize hsv : nthS l k = s at *
      obtain ⟨p, lo, hi⟩ := s
      dsimp only at k1 k2 k3 hs
      by_cases hq : t ≤ p
      · rw [if_pos hq] at hs
        have HS := Lib.hid hs
        clear hs hsv
        generalize hiTo l t k = M at *
        go_wp2
        all_goals
          go_roundg (l.length - (k + 1))
          case measure => omega
          case rel => exact ⟨k + 1, by omega, by omega, by go_num, by rw [HS.out]; exact int_eq (by omega), (hb.out.alloc hb.out.size _)⟩
      · rw [if_neg hq] at hs
        have HS := Lib.hid hs
        clear hs hsv
        generalize hiTo l t k = M at *
        go_wp2
        go_roundg (l.length - (k + 1))
        case measure => omega
        case rel => exact ⟨k + 1, by omega, by omega, by go_num, by rw [HS.out], (hb.out.alloc hb.out.size _)⟩
    · have hltz : ¬ (k : Int) < (l.length : Int) := by omega
      obtain rfl : k = l.length := by omega
      go_wp2
      go_ret
      exact ⟨rfl, hb.out⟩
end Go.Proofs.Ytknkneccnhgjmaa
