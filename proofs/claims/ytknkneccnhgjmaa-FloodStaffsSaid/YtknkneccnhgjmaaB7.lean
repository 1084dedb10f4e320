/- Walk: breaks. -/
import Derived.Test.YtknkneccnhgjmaaB6
namespace Go.Proofs.Ytknkneccnhgjmaa
open Go.RowKit Go.Shelf

def brkAt (a L : List Int) (t s : Nat) : Bool := decide (nth L (t - s) < nth a t - nth a s)
/-- The first span in which a course is above a limit. -/
def brk (a L : List Int) : Option (Nat × Nat) :=
  match (List.range a.length).find? (fun t => (List.range t).any (brkAt a L t)) with
  | none => none
  | some t => match (List.range t).find? (brkAt a L t) with
    | none => none
    | some s => some (s, t)
theorem find_range {p : Nat → Bool} {n t : Nat} (h : t < n) (ht : p t = true) (hb : ∀ j, j < t → p j = false) : (List.range n).find? p = some t := by
  rw [List.find?_eq_some_iff_getElem]
  exact ⟨ht, t, by simpa using h, by simp, fun j hj => by simpa using hb j hj⟩
theorem find_range_none {p : Nat → Bool} {n : Nat} (hb : ∀ j, j < n → p j = false) : (List.range n).find? p = none := by
  rw [List.find?_eq_none]
  intro j hj
  rw [List.mem_range] at hj
  simp [hb j hj]
theorem any_range_false {p : Nat → Bool} {n : Nat} (hb : ∀ j, j < n → p j = false) : (List.range n).any p = false := by
  rw [List.any_eq_false]
  intro j hj
  rw [List.mem_range] at hj
  simp [hb j hj]
theorem brk_none {a L : List Int} (h : ∀ t, t < a.length → ∀ s, s < t → brkAt a L t s = false) : brk a L = none := by
  unfold brk
  rw [find_range_none (fun t ht => any_range_false (h t ht))]
theorem brk_some {a L : List Int} {t s : Nat} (ht : t < a.length) (hs : s < t) (hb : brkAt a L t s = true) (h1 : ∀ t', t' < t → ∀ s', s' < t' → brkAt a L t' s' = false) (h2 : ∀ s', s' < s → brkAt a L t s' = false) : brk a L = some (s, t) := by
  unfold brk
  rw [find_range ht (List.any_eq_true.2 ⟨s, List.mem_range.2 hs, hb⟩) (fun t' ht' => any_range_false (h1 t' ht'))]
  dsimp only
  rw [find_range hs hb h2]
def brkLo (o : Option (Nat × Nat)) : Int := match o with | none => 0 | some p => p.1
def brkHi (o : Option (Nat × Nat)) : Int := match o with | none => 0 | some p => p.2

set_option maxRecDepth 100000 in
set_option maxHeartbeats 1600000 in
theorem breaks_any (A1 A2 : Option Addr) (c1 c2 : Nat) (xs ys : List Int) (w : World) (r1 : Rd w w.heap.size A1 xs) (r2 : Rd w w.heap.size A2 ys) (h1 : 1 ≤ xs.length) (h2 : xs.length ≤ 1000) (h3 : ys.length = xs.length) (sx : Small xs) :
    Calls Try.prog 100 #[.agg #[.slice A1 xs.length c1], .agg #[.slice A2 ys.length c2]] w fun e w' => e = .returned (.tuple #[.agg #[.int .i64 (brkLo (brk xs ys)), .int .i64 (brkHi (brk xs ys))], .bool (brk xs ys).isSome]) ∧ Below w.heap.size w w' := by
  obtain ⟨b1, o1, rfl, lb1, g1⟩ := r1 (by omega)
  obtain ⟨b2, o2, rfl, lb2, g2⟩ := r2 (by omega)
  have H3 := Lib.hid h3
  clear r1 r2 h3
  have hw0 : Below w.heap.size w (((w.alloc (.cells #[.slice (some ⟨b1, o1, none⟩) xs.length c1] 26)).alloc (.cells #[.slice (some ⟨b2, o2, none⟩) ys.length c2] 26)).alloc (.cells #[.int .i64 0, .int .i64 0] 73)) := (((Below.refl _ w).alloc (Nat.le_refl _) _).alloc (by simp) _).alloc (by simp; omega) _
  have p1 : (((w.alloc (.cells #[.slice (some ⟨b1, o1, none⟩) xs.length c1] 26)).alloc (.cells #[.slice (some ⟨b2, o2, none⟩) ys.length c2] 26)).alloc (.cells #[.int .i64 0, .int .i64 0] 73)).cell? ⟨w.heap.size, 0, none⟩ = some (.slice (some ⟨b1, o1, none⟩) xs.length c1) := by simp [go_sem]
  have p2 : (((w.alloc (.cells #[.slice (some ⟨b1, o1, none⟩) xs.length c1] 26)).alloc (.cells #[.slice (some ⟨b2, o2, none⟩) ys.length c2] 26)).alloc (.cells #[.int .i64 0, .int .i64 0] 73)).cell? ⟨w.heap.size + 1, 0, none⟩ = some (.slice (some ⟨b2, o2, none⟩) ys.length c2) := by simp [go_sem]
  have q1 : (((w.alloc (.cells #[.slice (some ⟨b1, o1, none⟩) xs.length c1] 26)).alloc (.cells #[.slice (some ⟨b2, o2, none⟩) ys.length c2] 26)).alloc (.cells #[.int .i64 0, .int .i64 0] 73)).heap[w.heap.size + 1 + 1]? = some (.cells #[.int .i64 0, .int .i64 0] 73 (0, 0)) := by
    have := heap_alloc_new ((w.alloc (.cells #[.slice (some ⟨b1, o1, none⟩) xs.length c1] 26)).alloc (.cells #[.slice (some ⟨b2, o2, none⟩) ys.length c2] 26)) (.cells #[.int .i64 0, .int .i64 0] 73)
    simpa using this
  have hs0 : (((w.alloc (.cells #[.slice (some ⟨b1, o1, none⟩) xs.length c1] 26)).alloc (.cells #[.slice (some ⟨b2, o2, none⟩) ys.length c2] 26)).alloc (.cells #[.int .i64 0, .int .i64 0] 73)).heap.size = w.heap.size + 1 + 1 + 1 := by simp
  go_enter Try.func100, Try.ntmps100
  go_wp2
  generalize hwo : ((w.alloc (.cells #[.slice (some ⟨b1, o1, none⟩) xs.length c1] 26)).alloc (.cells #[.slice (some ⟨b2, o2, none⟩) ys.length c2] 26)).alloc (.cells #[.int .i64 0, .int .i64 0] 73) = wo at *
  have HO := Lib.hid (And.intro p1 (And.intro p2 (And.intro q1 (And.intro hs0 hw0))))
  clear hwo p1 p2 q1 hs0 hw0
  go_loopg [11] xs.length (fun gk i wr => ∃ t : Nat, t ≤ xs.length ∧ xs.length - t ≤ gk ∧ i = .int .i64 t ∧ Aside (Below (w.heap.size + 1 + 1 + 1) wo wr) ∧ Aside (∀ t', t' < t → ∀ s', s' < t' → brkAt xs ys t' s' = false))
  case atStart => exact ⟨0, Nat.zero_le _, by omega, rfl, Below.refl _ _, fun j hj => absurd hj (Nat.not_lt_zero _)⟩
  case round =>
    obtain ⟨t, ht, hgt, rfl, hb, hA⟩ := hrel
    have HB := Lib.hid hb.out
    have HA := Lib.hid hA.out
    clear hb hA
    by_cases hlt : t < xs.length
    · have hltz : (t : Int) < (xs.length : Int) := by omega
      go_wp2
      obtain ⟨wp, hwp⟩ : ∃ wp : World, wp = wr := ⟨_, rfl⟩
      rw [← hwp] at HB ⊢
      clear hwp
      go_loopg [15] t (fun gk2 i wi => ∃ s : Nat, s ≤ t ∧ t - s ≤ gk2 ∧ i = .int .i64 s ∧ Aside (Below (w.heap.size + 1 + 1 + 1) wo wi) ∧ Aside (∀ s', s' < s → brkAt xs ys t s' = false))
      case atStart => exact ⟨0, Nat.zero_le _, by omega, rfl, HB.out, fun j hj => absurd hj (Nat.not_lt_zero _)⟩
      case round =>
        obtain ⟨s, hs, hgs, rfl, hb, hC⟩ := hrel
        have hbw := hb.out
        have HC := Lib.hid hC.out
        by_cases hst : s < t
        · have hstz : (s : Int) < (t : Int) := by omega
          have p1 := (hbw.cell (p := ⟨w.heap.size, 0, none⟩) (show w.heap.size < _ by omega)).trans HO.out.1
          have p2 := (hbw.cell (p := ⟨w.heap.size + 1, 0, none⟩) (show w.heap.size + 1 < _ by omega)).trans HO.out.2.1
          have hsz := hbw.size
          have hso := HO.out.2.2.2.1
          have l1 : w.heap.size < wr.heap.size := by omega
          have l2 : w.heap.size + 1 < wr.heap.size := by omega
          have l3 : b1 < wr.heap.size := by omega
          have l4 : b2 < wr.heap.size := by omega
          have l5 : w.heap.size + 1 + 1 < wr.heap.size := by omega
          have gx : ∀ i, i < xs.length → wr.cell? ⟨b1, o1 + i, none⟩ = some (.int .i64 (nth xs i)) := fun i hi => (hbw.cell (p := ⟨b1, o1 + i, none⟩) (show b1 < _ by omega)).trans ((HO.out.2.2.2.2.cell (p := ⟨b1, o1 + i, none⟩) lb1).trans (g1 i hi))
          have k1 := gx t hlt
          have k2 := gx s (by omega)
          have k3 := (hbw.cell (p := ⟨b2, o2 + (t - s), none⟩) (show b2 < _ by omega)).trans ((HO.out.2.2.2.2.cell (p := ⟨b2, o2 + (t - s), none⟩) lb2).trans (g2 (t - s) (by rw [H3.out]; omega)))
          have hyl : t - s < ys.length := by rw [H3.out]; omega
          have hsub : IntKind.i64.wrap ((t : Int) - (s : Int)) = ((t - s : Nat) : Int) := by rw [IntWalk.i64_in _ (by omega)]; omega
          obtain ⟨m1, m2⟩ := sx t
          obtain ⟨m3, m4⟩ := sx s
          have hbr : (wr.heap[w.heap.size + 1 + 1]? = some (.cells #[.int .i64 0, .int .i64 0] 73 (0, 0))) := (hbw.block _ (by omega)).trans HO.out.2.2.1
          have HBR := Lib.hid (And.intro hbr hbw)
          clear gx hso hbw hb hC hbr
          by_cases hcm : nth ys (t - s) < nth xs t - nth xs s
          · have hfin : brk xs ys = some (s, t) := brk_some hlt hst (by simp [brkAt, hcm]) HA.out HC.out
            have HF := Lib.hid hfin
            clear hfin
            go_wp2
            refine wp_region_ext (by kernel_rfl) (by kernel_rfl) ?_
            intro ι _ X hX hC
            have rX := fun k => (bcell (hX k)).1
            repeat (first | go_big_quiet_skip | (go_big_quiet_want; go_big_quiet_op; first | go_big_quiet_on | (apply Exists.intro; refine ⟨fun _ => ?_, ?_⟩; (focus (fail)); go_big_quiet_on)))
            refine wpQuiet_nil ?_
            intro w1 hb1
            clear rX hX hC
            have hbr1 := (hb1.block _ l5).trans HBR.out.1
            have c5 : w1.cell? ⟨w.heap.size + 1 + 1, 0, none⟩ = some (.int .i64 0) := by rw [cell_of_row w1 _ 0 _ _ _ hbr1]; rfl
            have c6 : w1.cell? ⟨w.heap.size + 1 + 1, 1, none⟩ = some (.int .i64 0) := by rw [cell_of_row w1 _ 1 _ _ _ hbr1]; rfl
            have f5 : w1.frozen? ⟨w.heap.size + 1 + 1, 0, none⟩ = false := frozen_of_row w1 _ 0 _ _ hbr1
            have f6 : w1.frozen? ⟨w.heap.size + 1 + 1, 1, none⟩ = false := frozen_of_row w1 _ 1 _ _ hbr1
            have HB1 := Lib.hid (HBR.out.2.trans (hb1.mono (by omega)))
            clear hbr1 hb1
            go_wp2
            refine bodyPost_ret (v := .tuple #[.agg #[.int .i64 s, .int .i64 t], .bool true]) (by simp [results, Try.results100, go_sem, c5, c6]) rfl ⟨by rw [HF.out]; rfl, ?_⟩
            exact (HO.out.2.2.2.2.trans (HB1.out.mono (by omega))).setCell (by show w.heap.size ≤ w.heap.size + 1 + 1; omega) _ |>.setCell (by show w.heap.size ≤ w.heap.size + 1 + 1; omega) _
          · have hcf : brkAt xs ys t s = false := by simp [brkAt]; omega
            have HF := Lib.hid hcf
            clear hcf
            go_wp2
            refine wp_region_ext (by kernel_rfl) (by kernel_rfl) ?_
            intro ι _ X hX hC
            have rX := fun k => (bcell (hX k)).1
            repeat (first | go_big_quiet_skip | (go_big_quiet_want; go_big_quiet_op; first | go_big_quiet_on | (apply Exists.intro; refine ⟨fun _ => ?_, ?_⟩; (focus (fail)); go_big_quiet_on)))
            refine wpQuiet_nil ?_
            intro w1 hb1
            clear rX hX hC
            have HB1 := Lib.hid (HBR.out.2.trans (hb1.mono (by omega)))
            clear hb1
            go_wp2
            go_roundg (t - (s + 1))
            case measure => omega
            case rel =>
              refine ⟨s + 1, by omega, by omega, by go_num, HB1.out, (show Aside _ from fun j hj => ?_)⟩
              rcases Nat.lt_or_ge j s with e | e
              · exact HC.out j e
              · obtain rfl : j = s := by omega
                exact HF.out
        · have hstz : ¬ (s : Int) < (t : Int) := by omega
          obtain rfl : s = t := by omega
          have HB1 := Lib.hid hbw
          clear hbw hb hC
          go_wp2
          go_roundg (xs.length - (s + 1))
          case measure => omega
          case rel =>
            refine ⟨s + 1, by omega, by omega, by go_num, HB1.out, (show Aside _ from fun j hj => ?_)⟩
            rcases Nat.lt_or_ge j s with e | e
            · exact HA.out j e
            · obtain rfl : j = s := by omega
              exact HC.out
    · have hltz : ¬ (t : Int) < (xs.length : Int) := by omega
      obtain rfl : t = xs.length := by omega
      have hfin : brk xs ys = none := brk_none HA.out
      have hso := HO.out.2.2.2.1
      have hbr1 := (HB.out.block (w.heap.size + 1 + 1) (by omega)).trans HO.out.2.2.1
      have c5 : wr.cell? ⟨w.heap.size + 1 + 1, 0, none⟩ = some (.int .i64 0) := by rw [cell_of_row wr _ 0 _ _ _ hbr1]; rfl
      have c6 : wr.cell? ⟨w.heap.size + 1 + 1, 1, none⟩ = some (.int .i64 0) := by rw [cell_of_row wr _ 1 _ _ _ hbr1]; rfl
      have f5 : wr.frozen? ⟨w.heap.size + 1 + 1, 0, none⟩ = false := frozen_of_row wr _ 0 _ _ hbr1
      have f6 : wr.frozen? ⟨w.heap.size + 1 + 1, 1, none⟩ = false := frozen_of_row wr _ 1 _ _ hbr1
      have HF := Lib.hid hfin
      clear hfin hbr1 hso
      go_wp2
      refine bodyPost_ret (v := .tuple #[.agg #[.int .i64 0, .int .i64 0], .bool false]) (by simp [results, Try.results100, go_sem, c5, c6]) rfl ⟨by rw [HF.out]; rfl, ?_⟩
      exact (HO.out.2.2.2.2.trans (HB.out.mono (by omega))).setCell (by show w.heap.size ≤ w.heap.size + 1 + 1; omega) _ |>.setCell (by show w.heap.size ≤ w.heap.size + 1 + 1; omega) _
end Go.Proofs.Ytknkneccnhgjmaa
