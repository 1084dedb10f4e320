/- Walks: the reference's below, ranged, later. -/
import Derived.Test.YtknkneccnhgjmaaP3
namespace Go.Proofs.Ytknkneccnhgjmaa
open Go.RowKit Go.Shelf

set_option maxRecDepth 100000 in
set_option maxHeartbeats 1600000 in
theorem rbelow_any (A1 A2 : Option Addr) (c1 c2 : Nat) (xs ys : List Int) (w : World) (r1 : Rd w w.heap.size A1 xs) (r2 : Rd w w.heap.size A2 ys) (m1 : xs.length ≤ 1000) (h3 : ys.length = xs.length) :
    Calls Try.prog 108 #[.agg #[.slice A1 xs.length c1], .agg #[.slice A2 ys.length c2]] w fun e w' => e = .returned (.bool (!clashB ys xs)) ∧ Below w.heap.size w w' := by
  obtain ⟨p1, p2, HI⟩ := w2b_at (c1 := c1) (c2 := c2) r1 r2
  have l1 : w.heap.size < _ := Nat.lt_of_succ_lt HI.size
  have l2 := HI.size
  have hr1 := HI.r1
  have hr2 := HI.r2
  have hb0 := HI.below
  have H3 := Lib.hid h3
  clear r1 r2 HI h3
  go_enter Try.func108, Try.ntmps108
  go_upto_region 1 with fail
  generalize (w.alloc (.cells #[.slice A1 xs.length c1] 26)).alloc (.cells #[.slice A2 ys.length c2] 26) = w1 at *
  go_wp2
  go_loopg [5] xs.length (fun gg s wr => ∃ t : Nat, t ≤ xs.length ∧ xs.length - t ≤ gg ∧ s = .int .i64 t ∧ Aside (Below w1.heap.size w1 wr) ∧ Aside (∀ j, j < t → nth xs j ≤ nth ys j))
  case atStart => exact ⟨0, Nat.zero_le _, by omega, rfl, Below.refl _ _, fun j hj => absurd hj (Nat.not_lt_zero _)⟩
  case round =>
    obtain ⟨t, ht, hg, rfl, hb, hA⟩ := hrel
    obtain ⟨rc, rf⟩ := bcell hb.out
    have hsz := hb.out.size
    have l1' : w.heap.size < wr.heap.size := by omega
    have l2' : w.heap.size + 1 < wr.heap.size := by omega
    by_cases hlt : t < xs.length
    · have hltz : (t : Int) < (xs.length : Int) := by omega
      have hltz2 : (t : Int) < (ys.length : Int) := by have := H3.out; omega
      obtain ⟨b1, o1, rfl, lb1, hc1⟩ := hr1 (by omega)
      obtain ⟨b2, o2, rfl, lb2, hc2⟩ := hr2 (by omega)
      have k1 := hc1 t hlt
      have k2 := hc2 t (by omega)
      have lb1' : b1 < wr.heap.size := by omega
      have lb2' : b2 < wr.heap.size := by omega
      clear hc1 hc2 hr1 hr2
      by_cases hq : nth ys t < nth xs t
      · have HF := Lib.hid (show (!clashB ys xs) = false by rw [clashB_iff.2 ⟨t, by omega, hq⟩]; rfl)
        go_wp2
        refine wp_region_ext (by kernel_rfl) (by kernel_rfl) ?_
        intro ι _ X hX hC
        have rX := fun k => (bcell (hX k)).1
        repeat (first | go_big_quiet_skip | (go_big_quiet_want; go_big_quiet_op; first | go_big_quiet_on | (apply Exists.intro; refine ⟨fun _ => ?_, ?_⟩; (focus (fail)); go_big_quiet_on)))
        refine wpQuiet_nil ?_
        intro w1 hb1
        clear rX hX hC
        have HB := Lib.hid (hb.out.trans (hb1.mono hsz))
        go_wp2
        go_ret
        exact ⟨ret_bool HF.out.symm, hb0.trans (HB.out.mono (by omega))⟩
      · have HQ := Lib.hid (Int.not_lt.1 hq)
        go_wp2
        refine wp_region_ext (by kernel_rfl) (by kernel_rfl) ?_
        intro ι _ X hX hC
        have rX := fun k => (bcell (hX k)).1
        repeat (first | go_big_quiet_skip | (go_big_quiet_want; go_big_quiet_op; first | go_big_quiet_on | (apply Exists.intro; refine ⟨fun _ => ?_, ?_⟩; (focus (fail)); go_big_quiet_on)))
        refine wpQuiet_nil ?_
        intro w1 hb1
        clear rX hX hC
        have HB := Lib.hid (hb.out.trans (hb1.mono hsz))
        go_wp2
        go_roundg (xs.length - (t + 1))
        case measure => omega
        case rel => exact ⟨t + 1, by omega, by omega, by go_num, HB.out, (show Aside _ from fun j hj => by
          by_cases e : j = t
          · subst e; exact HQ.out
          · exact hA.out j (by omega))⟩
    · have hltz : ¬ (t : Int) < (xs.length : Int) := by omega
      obtain rfl : t = xs.length := by omega
      have HF := Lib.hid (show (!clashB ys xs) = true by
        cases hc : clashB ys xs
        · rfl
        · obtain ⟨t, ht, hlt⟩ := clashB_iff.1 hc
          have := hA.out t (by have := H3.out; omega)
          omega)
      go_wp2
      go_ret
      exact ⟨ret_bool HF.out.symm, hb0.trans (hb.out.mono (by omega))⟩

/-- All numbers are at most the greatest volume. -/
def rangedB (xs : List Int) : Bool := (List.range xs.length).all fun i => decide (nth xs i ≤ 1073741824)
theorem rangedB_miss {xs : List Int} {i : Nat} (hi : i < xs.length) (h : 1073741824 < nth xs i) : rangedB xs = false := by
  cases hq : rangedB xs
  · rfl
  · unfold rangedB at hq
    rw [List.all_eq_true] at hq
    have := hq i (List.mem_range.2 hi)
    rw [decide_eq_true_eq] at this
    omega
theorem rangedB_hit {xs : List Int} (h : ∀ i, i < xs.length → nth xs i ≤ 1073741824) : rangedB xs = true := by
  unfold rangedB
  rw [List.all_eq_true]
  exact fun i hi => decide_eq_true (h i (List.mem_range.1 hi))
theorem rangedB_mono {xs : List Int} (h : Mono xs) (h1 : 1 ≤ xs.length) : rangedB xs = fitB xs := by
  cases hf : fitB xs
  · have : ¬ nth xs (xs.length - 1) ≤ 1073741824 := fun h => by rw [fitB_iff.2 h] at hf; cases hf
    exact rangedB_miss (i := xs.length - 1) (by omega) (by omega)
  · exact rangedB_hit fun i hi => by have := fitB_iff.1 hf; have := h.le (show i ≤ xs.length - 1 by omega) (by omega); omega

/-- A result of two cells, as it was laid. -/
structure Row (W : World) (g : Nat) (cs : Array Value) (ty : TypeId) : Prop where
  row : W.heap[g]? = some (.cells cs ty (0, 0))
theorem Row.lt {W : World} {g : Nat} {cs : Array Value} {ty : TypeId} (h : Row W g cs ty) : g < W.heap.size := (Array.getElem?_eq_some_iff.1 h.row).1
theorem Row.ext {W W' : World} {g n : Nat} {cs : Array Value} {ty : TypeId} (h : Row W g cs ty) (hb : Below n W W') (hn : g < n) : Row W' g cs ty := ⟨(hb.block g hn).trans h.row⟩
theorem Row.cell {W : World} {g i : Nat} {cs : Array Value} {ty : TypeId} (h : Row W g cs ty) : W.cell? ⟨g, i, none⟩ = cs[i]? := cell_of_row W g i cs ty (0, 0) h.row
theorem Row.free {W : World} {g i : Nat} {cs : Array Value} {ty : TypeId} (h : Row W g cs ty) : W.frozen? ⟨g, i, none⟩ = false := frozen_of_row W g i cs ty h.row

def RMade (w : World) (xs : List Int) (E : Int) (e : Ending) (w' : World) : Prop :=
  ∃ A c, e = .returned (.agg #[.slice A xs.length c, .int .i64 E]) ∧ Rd w' w'.heap.size A xs ∧ Fresh w.heap.size A ∧ Below w.heap.size w w'
/-- The two cells of such a result, stored. -/
theorem made_set {W : World} {g : Nat} (h : Row W g #[.slice none 0 0, .int .i64 0] 61) (u v : Value) :
    (((W.setCell ⟨g, 0, none⟩ u).setCell ⟨g, 1, none⟩ v).cell? ⟨g, 0, none⟩ = some u ∧ ((W.setCell ⟨g, 0, none⟩ u).setCell ⟨g, 1, none⟩ v).cell? ⟨g, 1, none⟩ = some v) ∧
    W.frozen? ⟨g, 0, none⟩ = false ∧ W.frozen? ⟨g, 1, none⟩ = false := by
  obtain ⟨z0, z1, _⟩ := two_cells h.row
  exact ⟨two_set z0 z1 u v, h.free, h.free⟩
theorem made_fin {w W : World} {g : Nat} {A : Option Addr} {c : Nat} {xs : List Int} {E : Int} (hb : Below w.heap.size w W) (hg : w.heap.size ≤ g) (hr : Rd W W.heap.size A xs) (hf : Fresh w.heap.size A) (hne : ∀ ad, A = some ad → ad.block ≠ g) :
    RMade w xs E (.returned (.agg #[.slice A xs.length c, .int .i64 E])) ((W.setCell ⟨g, 0, none⟩ (.slice A xs.length c)).setCell ⟨g, 1, none⟩ (.int .i64 E)) :=
  ⟨A, c, rfl, by simp only [World.size_setCell]; exact (hr.setCell hne _).setCell hne _, hf, (hb.setCell hg _).setCell hg _⟩

/-- What ranged hands back: the curve itself, or an error. -/
def RRanged (w : World) (A : Option Addr) (c : Nat) (xs : List Int) (e : Ending) (w' : World) : Prop :=
  ((rangedB xs = true ∧ e = .returned (.agg #[.slice A xs.length c, .int .i64 0])) ∨ (rangedB xs = false ∧ e = .returned (.agg #[.slice none 0 0, .int .i64 3]))) ∧ Below w.heap.size w w'

set_option maxRecDepth 100000 in
set_option maxHeartbeats 1600000 in
theorem ranged_any (A1 : Option Addr) (c1 : Nat) (xs : List Int) (w : World) (r1 : Rd w w.heap.size A1 xs) (m1 : xs.length ≤ 1000) :
    Calls Try.prog 109 #[.agg #[.slice A1 xs.length c1]] w fun e w' => RRanged w A1 c1 xs e w' := by
  have hb0 : Below w.heap.size w ((w.alloc (.cells #[.slice A1 xs.length c1] 26)).alloc (.cells #[.slice none 0 0, .int .i64 0] 61)) := ((Below.refl _ w).alloc (Nat.le_refl _) _).alloc (by simp) _
  have hr1 := r1.ext hb0
  have hrow : Row ((w.alloc (.cells #[.slice A1 xs.length c1] 26)).alloc (.cells #[.slice none 0 0, .int .i64 0] 61)) (w.heap.size + 1) #[.slice none 0 0, .int .i64 0] 61 := ⟨by
    have := heap_alloc_new (w.alloc (.cells #[.slice A1 xs.length c1] 26)) (.cells #[.slice none 0 0, .int .i64 0] 61)
    rwa [World.size_alloc] at this⟩
  have p1 : ((w.alloc (.cells #[.slice A1 xs.length c1] 26)).alloc (.cells #[.slice none 0 0, .int .i64 0] 61)).cell? ⟨w.heap.size, 0, none⟩ = some (.slice A1 xs.length c1) := by simp [go_sem]
  have l2 := hrow.lt
  go_enter Try.func109, Try.ntmps109
  go_upto_region 1 with fail
  generalize (w.alloc (.cells #[.slice A1 xs.length c1] 26)).alloc (.cells #[.slice none 0 0, .int .i64 0] 61) = w1 at *
  clear r1
  have HRow := Lib.hid hrow
  clear hrow
  go_wp2
  go_loopg [3] xs.length (fun gg s wr => ∃ t : Nat, t ≤ xs.length ∧ xs.length - t ≤ gg ∧ s = .int .i64 t ∧ Aside (Below w1.heap.size w1 wr) ∧ Aside (∀ j, j < t → nth xs j ≤ 1073741824))
  case atStart => exact ⟨0, Nat.zero_le _, by omega, rfl, Below.refl _ _, fun j hj => absurd hj (Nat.not_lt_zero _)⟩
  case round =>
    obtain ⟨t, ht, hg, rfl, hb, hA⟩ := hrel
    have hsz := hb.out.size
    replace p1 := (hb.out.cell (p := ⟨w.heap.size, 0, none⟩) (show w.heap.size < _ by omega)).trans p1
    have hrw := HRow.out.ext hb.out l2
    obtain ⟨z0, z1, f0, f1⟩ := two_cells hrw.row
    by_cases hlt : t < xs.length
    · have hltz : (t : Int) < (xs.length : Int) := by omega
      obtain ⟨b1, o1, rfl, lb1, hc1⟩ := hr1 (by omega)
      have k1 := (hb.out.cell (p := ⟨b1, o1 + t, none⟩) lb1).trans (hc1 t hlt)
      have HW := Lib.hid hrw
      clear hc1 hr1 hrw
      by_cases hq : 1073741824 < nth xs t
      · have HF := Lib.hid (rangedB_miss hlt hq)
        have HS := Lib.hid (made_set HW.out (.slice none 0 0) (.int .i64 3))
        have HB := Lib.hid (((hb0.trans (hb.out.mono (by omega))).setCell (p := ⟨w.heap.size + 1, 0, none⟩) (by exact Nat.le_succ _) (.slice none 0 0)).setCell (p := ⟨w.heap.size + 1, 1, none⟩) (by exact Nat.le_succ _) (.int .i64 3))
        go_wp2
        obtain ⟨⟨q0, q1⟩, _⟩ := HS.out
        exact bodyPost_ret (v := .agg #[.slice none 0 0, .int .i64 3]) (by simp [results, Try.results109, go_sem, q0, q1]) rfl ⟨.inr ⟨HF.out, rfl⟩, HB.out⟩
      · have hq' : nth xs t ≤ 1073741824 := Int.not_lt.1 hq
        have HQ := Lib.hid hq'
        go_wp2
        go_roundg (xs.length - (t + 1))
        case measure => omega
        case rel => exact ⟨t + 1, by omega, by omega, by go_num, hb.out, (show Aside _ from fun j hj => by
          by_cases e : j = t
          · subst e; exact HQ.out
          · exact hA.out j (by omega))⟩
    · have hltz : ¬ (t : Int) < (xs.length : Int) := by omega
      obtain rfl : t = xs.length := by omega
      have HF := Lib.hid (rangedB_hit hA.out)
      have HS := Lib.hid (made_set hrw (.slice A1 xs.length c1) (.int .i64 0))
      have HB := Lib.hid (((hb0.trans (hb.out.mono (by omega))).setCell (p := ⟨w.heap.size + 1, 0, none⟩) (by exact Nat.le_succ _) (.slice A1 xs.length c1)).setCell (p := ⟨w.heap.size + 1, 1, none⟩) (by exact Nat.le_succ _) (.int .i64 0))
      clear hrw
      go_wp2
      obtain ⟨⟨q0, q1⟩, _⟩ := HS.out
      exact bodyPost_ret (v := .agg #[.slice A1 xs.length c1, .int .i64 0]) (by simp [results, Try.results109, go_sem, q0, q1]) rfl ⟨.inl ⟨HF.out, rfl⟩, HB.out⟩
end Go.Proofs.Ytknkneccnhgjmaa
