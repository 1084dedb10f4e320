/- Walks: the reference's in, Valid, Both, three, Same. -/
import Derived.Test.YtknkneccnhgjmaaC9
namespace Go.Proofs.Ytknkneccnhgjmaa
open Go.RowKit Go.Shelf

theorem in_any (n lo hi : Int) (w : World) : Calls Try.prog 77 #[.int .i64 n, .int .i64 lo, .int .i64 hi] w fun e w' => e = .returned (.bool (withinB n lo hi)) ∧ w = w' := by
  by_cases h1 : lo ≤ n
  · by_cases h2 : n ≤ hi
    all_goals
      go_enter Try.func77, Try.ntmps77
      go_wp2
      go_ret
      exact ⟨by simp [withinB, h1, h2], rfl⟩
  · go_enter Try.func77, Try.ntmps77
    go_wp2
    go_ret
    exact ⟨ret_bool (by unfold withinB; rw [eq_comm, decide_eq_false_iff_not]; omega), rfl⟩

theorem nth_ext {xs ys : List Int} (h : xs.length = ys.length) (he : ∀ i, i < xs.length → nth xs i = nth ys i) : xs = ys := by
  refine List.ext_getElem h fun i h1 h2 => ?_
  have := he i h1
  simpa [nth, List.getD, List.getElem?_eq_getElem h1, List.getElem?_eq_getElem h2] using this

theorem w1b_at {w : World} {A : Option Addr} {c : Nat} {xs : List Int} (r : Rd w w.heap.size A xs) :
    (w.alloc (.cells #[.slice A xs.length c] 26)).cell? ⟨w.heap.size, 0, none⟩ = some (.slice A xs.length c) ∧ Rd (w.alloc (.cells #[.slice A xs.length c] 26)) (w.alloc (.cells #[.slice A xs.length c] 26)).heap.size A xs ∧
    Below w.heap.size w (w.alloc (.cells #[.slice A xs.length c] 26)) ∧ w.heap.size < (w.alloc (.cells #[.slice A xs.length c] 26)).heap.size :=
  have hb := (Below.refl w.heap.size w).alloc (Nat.le_refl _) (.cells #[.slice A xs.length c] 26)
  ⟨by simp [go_sem], r.ext hb, hb, by simp⟩
theorem w2b_at {w : World} {A1 A2 : Option Addr} {c1 c2 : Nat} {xs ys : List Int} (r1 : Rd w w.heap.size A1 xs) (r2 : Rd w w.heap.size A2 ys) :
    ((w.alloc (.cells #[.slice A1 xs.length c1] 26)).alloc (.cells #[.slice A2 ys.length c2] 26)).cell? ⟨w.heap.size, 0, none⟩ = some (.slice A1 xs.length c1) ∧ ((w.alloc (.cells #[.slice A1 xs.length c1] 26)).alloc (.cells #[.slice A2 ys.length c2] 26)).cell? ⟨w.heap.size + 1, 0, none⟩ = some (.slice A2 ys.length c2) ∧
      In2 w ((w.alloc (.cells #[.slice A1 xs.length c1] 26)).alloc (.cells #[.slice A2 ys.length c2] 26)) A1 A2 xs ys :=
  w2b_after r1 r2 (Below.refl _ _)

/-- What Valid asks of a place. -/
def okAt (xs : List Int) (i : Nat) : Prop := 0 ≤ nth xs i ∧ nth xs i ≤ 1073741824 ∧ (0 < i → nth xs (i - 1) ≤ nth xs i)
theorem valid_of {xs : List Int} (h1 : 1 ≤ xs.length ∧ xs.length ≤ 121) (h : ∀ i, i < xs.length → okAt xs i) : validB xs = true := by
  rw [validB_iff]
  exact ⟨h1.1, h1.2, fun i hi => by simpa using (h (i + 1) hi).2.2 (by omega), (h 0 (by omega)).1, (h (xs.length - 1) (by omega)).2.1⟩
theorem not_valid_of {xs : List Int} {i : Nat} (hi : i < xs.length) (h : ¬ okAt xs i) : validB xs = false := by
  cases hv : validB xs with
  | false => rfl
  | true =>
    have hv := (validB_iff xs).1 hv
    have := hv.bd i
    refine absurd ⟨this.1, this.2, fun h0 => ?_⟩ h
    have := hv.2.2.1 (i - 1) (by omega)
    rwa [show i - 1 + 1 = i by omega] at this

set_option maxRecDepth 100000 in
set_option maxHeartbeats 800000 in
theorem Valid_any (A : Option Addr) (c : Nat) (xs : List Int) (w : World) (h : Rd w w.heap.size A xs) (hm : xs.length ≤ maxLen) :
    Calls Try.prog 113 #[.agg #[.slice A xs.length c]] w fun e w' => e = .returned (.bool (validB xs)) ∧ Below w.heap.size w w' := by
  unfold maxLen at hm
  obtain ⟨p1, r, hb0, l0⟩ := w1b_at (c := c) h
  by_cases h1 : 1 ≤ xs.length ∧ xs.length ≤ 121
  · have hw : withinB xs.length 1 121 = true := by unfold withinB; rw [decide_eq_true_eq]; omega
    clear h
    go_enter Try.func113, Try.ntmps113
    go_upto_region 3 with (go_at_call 77; refine (in_any _ _ _ _).mono ?_; rintro e w' ⟨rfl, rfl⟩)
    obtain ⟨b, off, rfl, lb, hc⟩ := r (by omega)
    generalize w.alloc (.cells #[.slice (some ⟨b, off, none⟩) xs.length c] 26) = w1 at *
    generalize hB : w.heap.size = B at *
    go_wp2
    go_loopg [3] xs.length (fun gg s wr => ∃ t : Nat, t ≤ xs.length ∧ xs.length - t ≤ gg ∧ s = .int .i64 t ∧ Aside (Below w1.heap.size w1 wr) ∧ Aside (∀ j, j < t → okAt xs j))
    case atStart => exact ⟨0, Nat.zero_le _, by omega, rfl, Below.refl _ _, fun j hj => absurd hj (Nat.not_lt_zero _)⟩
    case round =>
      obtain ⟨t, ht, hg, rfl, hb, hA⟩ := hrel
      obtain ⟨rc, rf⟩ := bcell hb.out
      by_cases hlt : t < xs.length
      · have hltz : (t : Int) < (xs.length : Int) := by omega
        have k0 := hc t hlt
        have k1 := hc (t - 1) (by omega)
        have hsz := hb.out.size
        have lb' : b < wr.heap.size := by omega
        have l0' : B < wr.heap.size := by omega
        have hc1 := hc
        clear hc
        cases hr : withinB (nth xs t) 0 1073741824 with
        | false =>
          have hfin := not_valid_of hlt (fun ho : okAt xs t => by unfold withinB at hr; rw [decide_eq_false_iff_not] at hr; exact hr ⟨ho.1, ho.2.1⟩)
          have HF := Lib.hid hfin
          clear hfin
          go_wp2
          refine wp_region_ext (by kernel_rfl) (by kernel_rfl) ?_
          intro ι _ X hX hC
          have rX := fun k => (bcell (hX k)).1
          repeat (first | go_big_quiet_skip | (go_big_quiet_want; go_big_quiet_op; first | go_big_quiet_on | (apply Exists.intro; refine ⟨fun _ => ?_, ?_⟩; (focus (go_at_call 77; exact Calls.ext_same (in_any _ _ _ _))); go_big_quiet_on)))
          refine wpQuiet_nil ?_
          intro w1 hb1
          clear rX hX hC
          have HB := Lib.hid (hb.out.trans (hb1.mono hsz))
          go_wp2
          go_ret
          exact ⟨by rw [HF.out]; rfl, hB ▸ hb0.trans (HB.out.mono (by omega))⟩
        | true =>
          have hr2 : 0 ≤ nth xs t ∧ nth xs t ≤ 1073741824 := by unfold withinB at hr; rwa [decide_eq_true_eq] at hr
          have HR := Lib.hid hr2
          clear hr2
          cases t with
          | zero =>
            have HO := Lib.hid (show okAt xs 0 from ⟨HR.out.1, HR.out.2, fun h => absurd h (by omega)⟩)
            rw [Nat.add_zero] at k0
            clear k1
            go_wp2
            refine wp_region_ext (by kernel_rfl) (by kernel_rfl) ?_
            intro ι _ X hX hC
            have rX := fun k => (bcell (hX k)).1
            repeat (first | go_big_quiet_skip | (go_big_quiet_want; go_big_quiet_op; first | go_big_quiet_on | (apply Exists.intro; refine ⟨fun _ => ?_, ?_⟩; (focus (go_at_call 77; exact Calls.ext_same (in_any _ _ _ _))); go_big_quiet_on)))
            refine wpQuiet_nil ?_
            intro w1 hb1
            clear rX hX hC
            have HB := Lib.hid (hb.out.trans (hb1.mono hsz))
            go_wp2
            go_roundg (xs.length - 1)
            case measure => omega
            case rel => exact ⟨1, by omega, by omega, by go_num, HB.out, (show Aside _ from fun j hj => by
              obtain rfl : j = 0 := by omega
              exact HO.out)⟩
          | succ s =>
            rw [show s + 1 - 1 = s by omega] at k1
            have hpz : (0 : Int) < (s : Int) + 1 := by omega
            have hsz1 : (s : Int) < (xs.length : Int) := by omega
            have hmax : (if 0 < s then (s : Int) else 0) = (s : Int) := by split <;> omega
            by_cases hq : nth xs (s + 1) < nth xs s
            · have hfin := not_valid_of hlt (fun ho : okAt xs (s + 1) => by have := ho.2.2 (by omega); rw [show s + 1 - 1 = s by omega] at this; omega)
              have HF := Lib.hid hfin
              clear hfin
              go_wp2
              refine wp_region_ext (by kernel_rfl) (by kernel_rfl) ?_
              intro ι _ X hX hC
              have rX := fun k => (bcell (hX k)).1
              repeat (first | go_big_quiet_skip | (go_big_quiet_want; go_big_quiet_op; first | go_big_quiet_on | (apply Exists.intro; refine ⟨fun _ => ?_, ?_⟩; (focus (go_at_call 77; exact Calls.ext_same (in_any _ _ _ _))); go_big_quiet_on)))
              refine wpQuiet_nil ?_
              intro w1 hb1
              clear rX hX hC
              have HB := Lib.hid (hb.out.trans (hb1.mono hsz))
              go_wp2
              go_ret
              exact ⟨by rw [HF.out]; rfl, hB ▸ hb0.trans (HB.out.mono (by omega))⟩
            · have HO := Lib.hid (show okAt xs (s + 1) from ⟨HR.out.1, HR.out.2, fun _ => by rw [show s + 1 - 1 = s by omega]; omega⟩)
              go_wp2
              refine wp_region_ext (by kernel_rfl) (by kernel_rfl) ?_
              intro ι _ X hX hC
              have rX := fun k => (bcell (hX k)).1
              repeat (first | go_big_quiet_skip | (go_big_quiet_want; go_big_quiet_op; first | go_big_quiet_on | (apply Exists.intro; refine ⟨fun _ => ?_, ?_⟩; (focus (go_at_call 77; exact Calls.ext_same (in_any _ _ _ _))); go_big_quiet_on)))
              refine wpQuiet_nil ?_
              intro w1 hb1
              clear rX hX hC
              have HB := Lib.hid (hb.out.trans (hb1.mono hsz))
              go_wp2
              go_roundg (xs.length - (s + 2))
              case measure => omega
              case rel => exact ⟨s + 2, by omega, by omega, by go_num, HB.out, (show Aside _ from fun j hj => by
                by_cases e : j = s + 1
                · subst e; exact HO.out
                · exact hA.out j (by omega))⟩
      · have hltz : ¬ (t : Int) < (xs.length : Int) := by omega
        obtain rfl : t = xs.length := by omega
        go_wp2
        go_ret
        exact ⟨by rw [valid_of h1 hA.out]; rfl, hb0.trans (hb.out.mono (by omega))⟩
  · have hw : withinB xs.length 1 121 = false := by unfold withinB; rw [decide_eq_false_iff_not]; omega
    have hfin : validB xs = false := by
      cases hv : validB xs with
      | false => rfl
      | true => have hv := (validB_iff xs).1 hv; exact absurd ⟨hv.1, hv.2.1⟩ h1
    clear h
    go_enter Try.func113, Try.ntmps113
    go_wp2_with (go_at_call 77; refine (in_any _ _ _ _).mono ?_; rintro e w' ⟨rfl, rfl⟩)
    go_ret
    exact ⟨by rw [hfin]; rfl, hb0⟩
end Go.Proofs.Ytknkneccnhgjmaa
