/- Walks: fails's closure, Left's closure, steps, IndexFunc, ContainsFunc at ints. -/
import Derived.Test.YtknkneccnhgjmaaA4
namespace Go.Proofs.Ytknkneccnhgjmaa
open Go.RowKit

theorem Held.rd {w : World} {B o : Nat} {xs : List Int} (h : Held w B o xs) : ∃ A c, w.cell? ⟨B, o, none⟩ = some (.slice A xs.length c) ∧ Rd w w.heap.size A xs := h.2
theorem Rd.ext {w w' : World} {A : Option Addr} {xs : List Int} (h : Rd w w.heap.size A xs) (hb : Below w.heap.size w w') : Rd w' w'.heap.size A xs := (h.below hb (Nat.le_refl _)).mono hb.size

set_option maxHeartbeats 400000 in
theorem fails1_any (t : Nat) (B1 B2 B3 : Nat) (xs ys zs : List Int) (w : World) (hx : Held w B1 0 xs) (hy : Held w B2 0 ys) (hz : Held w B3 0 zs) (h1 : t < xs.length) (h2 : t < ys.length) (h3 : t < zs.length) :
    Calls Try.prog 122 #[.int .i64 t, .pointer (some ⟨B1, 0, none⟩), .pointer (some ⟨B2, 0, none⟩), .pointer (some ⟨B3, 0, none⟩)] w
      fun e w' => e = .returned (.bool (decide (nth xs t < nth ys t) || decide (nth ys t < nth zs t))) ∧ Below w.heap.size w w' := by
  have l1 := hx.1
  obtain ⟨A1, d1, f1, r1⟩ := hx.rd
  obtain ⟨l2, b2, o2, c2, lb2, f2, g2⟩ := hy.at h2
  obtain ⟨l3, b3, o3, c3, lb3, f3, g3⟩ := hz.at h3
  obtain ⟨A2, d2, f2', r2⟩ := hy.rd
  have k2 := g2 t h2
  have k3 := g3 t h3
  obtain ⟨rfl, rfl⟩ : A2 = some ⟨b2, o2, none⟩ ∧ d2 = c2 := by
    rw [f2] at f2'; simp only [Option.some.injEq, Value.slice.injEq] at f2'; exact ⟨f2'.1.symm, f2'.2.2.symm⟩
  clear g2 g3 hx hy hz f2'
  have R1 := Lib.hid r1
  have R2 := Lib.hid r2
  clear r1 r2
  cases hq : decide (nth xs t < nth ys t)
  all_goals
    have HQ := Lib.hid hq
    clear hq
    go_enter Try.func122, Try.ntmps122
    go_wp2
    refine wp_region_ext (by kernel_rfl) (by kernel_rfl) ?_
    intro ι _ X hX hC
    have rX := fun k => (bcell (hX k)).1
    have E : ∀ k, Calls Try.prog 76 #[.agg #[.slice A1 xs.length d1, .slice (some ⟨b2, o2, none⟩) ys.length d2], .int .i64 t] (X k) fun e w' => e = .returned (.bool (decide (nth xs t < nth ys t))) ∧ Below (X k).heap.size (X k) w' := fun k => early_any t _ _ d1 d2 xs ys (X k) (R1.out.ext (hX k)) (R2.out.ext (hX k)) h1 h2
    rw [HQ.out] at E
    have HE := Lib.hid E
    clear E
    repeat (first | go_big_quiet_skip | (go_big_quiet_want; go_big_quiet_op; first | go_big_quiet_on | (apply Exists.intro; refine ⟨fun _ => ?_, ?_⟩; (focus (go_at_call 76; exact Calls.ext_of hX hC (HE.out _))); go_big_quiet_on)))
    refine wpQuiet_nil ?_
    intro w1 hb1
    clear rX hX hC
    go_wp2
    go_ret
    exact ⟨ret_bool (by simp), hb1⟩

/-- The first number below n of which p holds; -1 if there is none. -/
def firstIdx (p : Nat → Bool) (n : Nat) : Int := match (List.range n).find? p with | some i => i | none => -1
theorem firstIdx_hit {p : Nat → Bool} {n t : Nat} (h : t < n) (ht : p t = true) (hb : ∀ j, j < t → p j = false) : firstIdx p n = t := by
  unfold firstIdx
  have : (List.range n).find? p = some t := by
    rw [List.find?_eq_some_iff_getElem]
    exact ⟨ht, t, by simpa using h, by simp, fun j hj => by simpa using hb j hj⟩
  rw [this]
theorem firstIdx_miss {p : Nat → Bool} {n : Nat} (hb : ∀ j, j < n → p j = false) : firstIdx p n = -1 := by
  unfold firstIdx
  have : (List.range n).find? p = none := by
    rw [List.find?_eq_none]
    intro j hj
    rw [List.mem_range] at hj
    simp [hb j hj]
  rw [this]
theorem firstIdx_cases (p : Nat → Bool) (n : Nat) : (firstIdx p n = -1 ∧ ∀ j, j < n → p j = false) ∨ ∃ t, t < n ∧ firstIdx p n = t ∧ p t = true ∧ ∀ j, j < t → p j = false := by
  by_cases h : ∃ t, t < n ∧ p t = true
  · obtain ⟨t, ht⟩ := h
    obtain ⟨m, ⟨h1, h2⟩, h3⟩ := exists_least (p := fun t => t < n ∧ p t = true) ⟨t, ht⟩
    have h4 : ∀ j, j < m → p j = false := fun j hj => by
      cases hp : p j
      · rfl
      · have := h3 j ⟨by omega, hp⟩; omega
    exact .inr ⟨m, h1, firstIdx_hit h1 h2 h4, h2, h4⟩
  · have h4 : ∀ j, j < n → p j = false := fun j hj => by
      cases hp : p j
      · rfl
      · exact absurd ⟨j, hj, hp⟩ h
    exact .inl ⟨firstIdx_miss h4, h4⟩

/-- What a function value answers that is asked of the i-th number of xs, in every world that has kept what lay in w. -/
def Answers (g : Nat) (pre caps : Array Value) (xs : List Int) (p : Nat → Bool) (w : World) : Prop :=
  ∀ (i : Nat) (W : World), i < xs.length → Below w.heap.size w W → Calls Try.prog g (pre ++ #[.int .i64 (nth xs i)] ++ caps) W fun e W' => e = .returned (.bool (p i)) ∧ Below W.heap.size W W'

set_option maxHeartbeats 400000 in
theorem indexFunc_any (g : Nat) (pre caps : Array Value) (eg : ∀ args w, (callFunc g args).run Try.prog w = .ok (.enter g args) w) (A : Option Addr) (c : Nat) (xs : List Int) (p : Nat → Bool) (w : World)
    (h : Rd w w.heap.size A xs) (hm : xs.length ≤ 1000) (hp : Answers g pre caps xs p w) :
    Calls Try.prog 116 #[.slice A xs.length c, .func (.func g) pre caps] w fun e w' => e = .returned (.int .i64 (firstIdx p xs.length)) ∧ Below w.heap.size w w' := by
  go_enter Try.func116, Try.ntmps116
  go_wp2
  go_loopg [5, 8] xs.length (fun gg _ s8 wr => ∃ t : Nat, t ≤ xs.length ∧ xs.length - t ≤ gg ∧ s8 = .int .i64 t ∧ Aside (Below w.heap.size w wr) ∧ Aside (∀ j, j < t → p j = false))
  case atStart => exact ⟨0, Nat.zero_le _, by omega, rfl, Below.refl _ w, fun j hj => absurd hj (Nat.not_lt_zero _)⟩
  case round =>
    obtain ⟨t, ht, hg, rfl, hb, hA⟩ := hrel
    by_cases hlt : t < xs.length
    · have hltz : (t : Int) < (xs.length : Int) := by omega
      obtain ⟨b, off, rfl, lb, hc⟩ := h (by omega)
      have k1 := (hb.out.cell (p := ⟨b, off + t, none⟩) lb).trans (hc t hlt)
      have hcall := hp t wr hlt hb.out
      clear hc h hp
      cases hq : p t with
      | true =>
        rw [hq] at hcall
        have HQ := Lib.hid hq
        clear hq
        go_wp2_with (go_at_fn g; refine hcall.mono ?_; rintro e w' ⟨rfl, hb'⟩)
        go_ret
        exact ⟨ret_int (firstIdx_hit hlt HQ.out hA.out).symm, hb.out.trans (hb'.mono hb.out.size)⟩
      | false =>
        rw [hq] at hcall
        have HQ := Lib.hid hq
        clear hq
        go_wp2_with (go_at_fn g; refine hcall.mono ?_; rintro e w' ⟨rfl, hb'⟩)
        go_roundg (xs.length - (t + 1))
        case measure => omega
        case rel =>
          refine ⟨t + 1, by omega, by omega, by go_num, hb.out.trans (hb'.mono hb.out.size), (show Aside _ from fun j hj => ?_)⟩
          by_cases e : j = t
          · subst e; exact HQ.out
          · exact hA.out j (by omega)
    · have hltz : ¬ (t : Int) < (xs.length : Int) := by omega
      obtain rfl : t = xs.length := by omega
      go_wp2
      go_ret
      exact ⟨ret_int (firstIdx_miss hA.out).symm, hb.out⟩

set_option maxHeartbeats 400000 in
theorem containsFunc_any (g : Nat) (pre caps : Array Value) (eg : ∀ args w, (callFunc g args).run Try.prog w = .ok (.enter g args) w) (A : Option Addr) (c : Nat) (xs : List Int) (p : Nat → Bool) (w : World)
    (h : Rd w w.heap.size A xs) (hm : xs.length ≤ 1000) (hp : Answers g pre caps xs p w) :
    Calls Try.prog 74 #[.slice A xs.length c, .func (.func g) pre caps] w fun e w' => e = .returned (.bool (decide (0 ≤ firstIdx p xs.length))) ∧ Below w.heap.size w w' := by
  have hcall := indexFunc_any g pre caps eg A c xs p w h hm hp
  generalize firstIdx p xs.length = r at *
  clear h hp
  go_enter Try.func74, Try.ntmps74
  go_wp2_with (go_at_call 116; refine hcall.mono ?_; rintro e w' ⟨rfl, hb'⟩)
  go_ret
  exact ⟨rfl, hb'⟩

/-- 0, 1, .. n - 1. -/
def upto (n : Nat) : List Int := (List.range n).map Int.ofNat
theorem upto_length (n : Nat) : (upto n).length = n := by simp [upto]
theorem nth_upto {n i : Nat} (h : i < n) : nth (upto n) i = i := by simp [nth, upto, List.getD, h]

set_option maxHeartbeats 400000 in
theorem steps_any (A : Option Addr) (c : Nat) (xs : List Int) (w : World) (hm : xs.length ≤ 1000) :
    Calls Try.prog 75 #[.agg #[.slice A xs.length c]] w fun e w' => RSlice w (upto xs.length) e w' := by
  obtain ⟨i0, hi, hz0, hz1, hz2⟩ := info_parts info3
  go_enter Try.func75, Try.ntmps75
  go_wp2_with (at_make; refine wpList_make_full _ rfl _ _ 24 rfl (w.heap.size + 1) 3 i0 (.int .i64 0) 1 Try.underlying24 hi hz0 hz1 .i64 .i64 xs.length xs.length xs.length rfl rfl rfl rfl (by rw [hz2]; omega) (by unfold maxLen; omega) (by simp) ?_; intro w1 hown hgrow)
  obtain ⟨cs0, hcs0, hsz0⟩ : ∃ cs : Array Value, w1.heap[w.heap.size + 1]? = some (.cells cs 3 (0, 0)) ∧ cs.size = xs.length := by
    rcases hown.2 with ⟨e, _⟩ | ⟨g, cap, cur, e, _, hh, _, _, hcs, _⟩
    · cases e
    · simp only [World.size_alloc, Value.slice.injEq, Option.some.injEq, Addr.mk.injEq, true_and, and_true] at e
      obtain ⟨rfl, rfl⟩ := e
      exact ⟨cur, hh, by omega⟩
  have hb0 : Below w.heap.size w w1 := ((Below.refl _ w).alloc (Nat.le_refl _) _).grown hgrow (by simp) (fun k hk => by cases hk)
  have hs1 : w.heap.size + 1 < w1.heap.size := (Array.getElem?_eq_some_iff.1 hcs0).1
  clear hown hgrow
  go_loopg [11] xs.length (fun gg i wr => ∃ t : Nat, t ≤ xs.length ∧ xs.length - t ≤ gg ∧ i = .int .i64 t ∧ Aside (Below w.heap.size w wr) ∧
      Aside (∃ cs : Array Value, wr.heap[w.heap.size + 1]? = some (.cells cs 3 (0, 0)) ∧ cs.size = xs.length ∧ ∀ j : Nat, j < t → cs[j]? = some (.int .i64 (j : Int))))
  case atStart => exact ⟨0, Nat.zero_le _, by omega, rfl, hb0, cs0, hcs0, hsz0, fun j hj => absurd hj (Nat.not_lt_zero _)⟩
  case round =>
    obtain ⟨t, ht, hg, rfl, hb, hA⟩ := hrel
    obtain ⟨cs, hcs, hsz, hF⟩ := hA.out
    have HF := Lib.hid hF
    have Hcs := Lib.hid hcs
    have Hsz := Lib.hid hsz
    clear hA hF hcs hsz hcs0 hsz0 hb0
    by_cases hlt : t < xs.length
    · have hltz : (t : Int) < (xs.length : Int) := by omega
      obtain ⟨h1, ⟨v1, c1⟩, f1⟩ := row_at (H := 0) Hcs.out (Above.refl _ _) (Nat.zero_le _) (show t < cs.size by rw [Hsz.out]; omega)
      clear h1
      go_wp2
      go_roundg (xs.length - (t + 1))
      case measure => omega
      case rel =>
        refine ⟨t + 1, by omega, by omega, by go_num, hb.out.setCell (by simp) _, _, heap_setCell_same _ _ _ _ _ _ Hcs.out, by rw [Array.size_setIfInBounds]; exact Hsz.out, fun j hj => ?_⟩
        rw [Array.getElem?_setIfInBounds]
        split
        · rename_i e; subst e; rw [if_pos (by rw [Hsz.out]; omega)]
        · exact HF.out j (by omega)
    · have hltz : ¬ (t : Int) < (xs.length : Int) := by omega
      obtain rfl : t = xs.length := by omega
      have hlen := upto_length xs.length
      have hfin : RSlice w (upto xs.length) (.returned (.slice (some ⟨w.heap.size + 1, 0, none⟩) xs.length xs.length)) wr :=
        ⟨_, _, by rw [hlen], fun hn => ⟨_, _, rfl, (Array.getElem?_eq_some_iff.1 Hcs.out).1, fun i hi => by
          rw [hlen] at hi
          rw [Nat.zero_add, cell_of_row wr _ i cs _ _ Hcs.out, HF.out i hi, nth_upto hi]⟩, fun ad e => by cases e; simp, hb.out⟩
      have Hfin := Lib.hid hfin
      clear hfin hlen
      go_wp2
      go_ret
      exact Hfin.out
end Go.Proofs.Ytknkneccnhgjmaa
