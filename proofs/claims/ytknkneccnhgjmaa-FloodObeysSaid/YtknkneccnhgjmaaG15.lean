/- Walk: flood's Parts. -/
import Derived.Test.YtknkneccnhgjmaaG14
import Derived.WalkMore
namespace Go.Proofs.Ytknkneccnhgjmaa
open Go.RowKit Go.Shelf

theorem Parts_no (A1 : Option Addr) (c1 : Nat) (xs : List Int) (step : Int) (w : World) (r1 : Rd w w.heap.size A1 xs) (m1 : xs.length ≤ maxLen) (h : (validB xs && withinB step 0 ((xs.length : Int) - 1)) = false) :
    Calls Try.prog 63 #[.agg #[.slice A1 xs.length c1], .int .i64 step] w fun e w' => e = .returned (.tuple #[.slice none 0 0, .int .i64 1]) ∧ Below w.heap.size w w' := by
  have hb0 : Below w.heap.size w (w.alloc (.cells #[.slice A1 xs.length c1] 26)) := (Below.refl _ w).alloc (Nat.le_refl _) _
  have p1 : (w.alloc (.cells #[.slice A1 xs.length c1] 26)).cell? ⟨w.heap.size, 0, none⟩ = some (.slice A1 xs.length c1) := by simp [go_sem]
  have hsz : w.heap.size < (w.alloc (.cells #[.slice A1 xs.length c1] 26)).heap.size := by simp
  have hr := right1 A1 c1 xs _ (r1.ext hb0) m1
  have hW : ∀ W, Below (w.alloc (.cells #[.slice A1 xs.length c1] 26)).heap.size (w.alloc (.cells #[.slice A1 xs.length c1] 26)) W → Hid (W.cell? ⟨w.heap.size, 0, none⟩ = some (.slice A1 xs.length c1) ∧ Rd W W.heap.size A1 xs ∧ Below w.heap.size w W ∧ w.heap.size < W.heap.size) := fun W hb =>
    ⟨(hb.cell (p := ⟨w.heap.size, 0, none⟩) hsz).trans p1, (r1.ext hb0).ext hb, hb0.trans (hb.mono hb0.size), Nat.lt_of_lt_of_le hsz hb.size⟩
  have HW := Lib.hid hW
  clear hW r1 hb0 hsz
  cases hv : validB xs
  · rw [hv, errB_f] at hr
    have HR := Lib.hid hr
    clear hr hv h
    go_enter Try.func63, Try.ntmps63
    go_upto_region 1 with fail
    generalize hgW : w.alloc (.cells #[.slice A1 xs.length c1] 26) = W1 at *
    clear hgW
    go_step3
    go_wp2_with (go_at_call 78; refine HR.out.mono ?_; rintro e w1 ⟨rfl, hb⟩)
    try rw [Exit.noGoto_ret]
    go_ret2
    exact ⟨rfl, (HW.out _ hb).out.2.2.1⟩
  have v1 := (validB_iff xs).1 hv
  have hn1 := v1.1
  have hn2 := v1.2.1
  rw [hv, errB_t] at hr
  rw [hv, Bool.true_and] at h
  have HR := Lib.hid hr
  have HI := Lib.hid h
  clear hr v1 hv h
  go_enter Try.func63, Try.ntmps63
  go_upto_region 1 with fail
  generalize hgW : w.alloc (.cells #[.slice A1 xs.length c1] 26) = W1 at *
  clear hgW
  go_step3
  go_wp2_with (first | (go_at_call 78; refine HR.out.mono ?_; rintro e w1 ⟨rfl, hb⟩; have q1 := (HW.out _ hb).out.1) | (go_at_call 69; refine (within_any _ _ _ _).mono ?_; rw [HI.out]; rintro e w' ⟨rfl, rfl⟩))
  try rw [Exit.noGoto_ret]
  go_ret2
  exact ⟨rfl, (HW.out _ hb).out.2.2.1⟩

/-- The state of the division: what is left, and what is cut off. -/
structure PartS (L : List Int) (step : Nat) (w1 W : World) (A : Option Addr) (c : Nat) (l : List Int) (t : Nat) : Prop where
  bl : Below w1.heap.size w1 W
  own : Own W w1.heap.size (.slice A l.length c) l
  len : l.length + t ≤ step
  sum : ∃ s, chk L step l = some ((t : Int), s) ∧ s + closAt L t = closAt L step
theorem PartS.step {L : List Int} {step : Nat} {w1 W w2 : World} {A A' : Option Addr} {c c' : Nat} {l : List Int} {t : Nat} (h : PartS L step w1 W A c l t) (ht : 0 < t) (hb : Below w1.heap.size w1 w2) (ho : Own w2 w1.heap.size (.slice A' (l.length + 1) c') (l ++ [(lastAt L t : Int)])) :
    PartS L step w1 w2 A' c' (l ++ [(lastAt L t : Int)]) (t - lastAt L t) := by
  have hl := lastAt_bd L ht
  have hlen := h.len
  obtain ⟨s, h1, h2⟩ := h.sum
  refine ⟨hb, by rw [List.length_append]; exact ho, by rw [List.length_append]; show l.length + 1 + _ ≤ _; omega, s + nth L (lastAt L t), chk_part h1 ht, ?_⟩
  have := closAt_last L ht
  omega

set_option maxRecDepth 100000 in
set_option maxHeartbeats 1600000 in
theorem Parts_yes (A1 : Option Addr) (c1 : Nat) (xs : List Int) (step : Nat) (w : World) (r1 : Rd w w.heap.size A1 xs) (m1 : xs.length ≤ maxLen) (v1 : Valid xs) (hs : step < xs.length) :
    Calls Try.prog 63 #[.agg #[.slice A1 xs.length c1], .int .i64 step] w fun e w' => ∃ ps, Divides xs step ps ∧ ∃ A c, e = .returned (.tuple #[.slice A ps.length c, .int .i64 0]) ∧ Rd w' w'.heap.size A ps ∧ Below w.heap.size w w' := by
  obtain ⟨i0, hi0, hz0, hz1, hz2⟩ := info_parts info3
  have hb0 : Below w.heap.size w (w.alloc (.cells #[.slice A1 xs.length c1] 26)) := (Below.refl _ w).alloc (Nat.le_refl _) _
  have p1 : (w.alloc (.cells #[.slice A1 xs.length c1] 26)).cell? ⟨w.heap.size, 0, none⟩ = some (.slice A1 xs.length c1) := by simp [go_sem]
  have hsz : w.heap.size < (w.alloc (.cells #[.slice A1 xs.length c1] 26)).heap.size := by simp
  have hr := right1 A1 c1 xs _ (r1.ext hb0) m1
  have hW : ∀ W, Below (w.alloc (.cells #[.slice A1 xs.length c1] 26)).heap.size (w.alloc (.cells #[.slice A1 xs.length c1] 26)) W → Hid (W.cell? ⟨w.heap.size, 0, none⟩ = some (.slice A1 xs.length c1) ∧ Rd W W.heap.size A1 xs ∧ Below w.heap.size w W ∧ w.heap.size < W.heap.size) := fun W hb =>
    ⟨(hb.cell (p := ⟨w.heap.size, 0, none⟩) hsz).trans p1, (r1.ext hb0).ext hb, hb0.trans (hb.mono hb0.size), Nat.lt_of_lt_of_le hsz hb.size⟩
  have HW := Lib.hid hW
  have hn1 := v1.1
  have hn2 := v1.2.1
  rw [(validB_iff xs).2 v1, errB_t] at hr
  have hI : withinB (step : Int) 0 ((xs.length : Int) - 1) = true := by unfold withinB; rw [decide_eq_true_eq]; omega
  have HR := Lib.hid (And.intro hr v1)
  have HI := Lib.hid hI
  clear hW r1 hb0 hsz hr hI v1
  go_enter Try.func63, Try.ntmps63
  go_upto_region 1 with fail
  generalize hgW : w.alloc (.cells #[.slice A1 xs.length c1] 26) = W1 at *
  clear hgW
  go_step3
  go_upto_region 7 with (first
    | (go_at_call 78; refine HR.out.1.mono ?_; rintro e w1 ⟨rfl, hb⟩; have HB := HW.out _ hb; have q1 := HB.out.1; clear hb)
    | (go_at_call 69; refine (within_any _ _ _ _).mono ?_; rw [HI.out]; rintro e w' ⟨rfl, rfl⟩)
    | (go_at_call 88; refine (closed_any A1 c1 xs w1 HB.out.2.1 HR.out.2).mono ?_; rintro e w2 ⟨A7, c7, A8, c8, rfl, hrd7, hrd8, hfr, hfr', hb⟩))
  have hw3 : Below w2.heap.size w2 (w2.alloc (.cells #[.slice A7 (closedL xs).length c7] 26)) := (Below.refl _ w2).alloc (Nat.le_refl _) _
  have HB3 := Lib.hid (And.intro (HB.out.2.2.1.trans ((hb.trans (hw3.mono hb.size)).mono HB.out.2.2.1.size)) (hrd8.ext hw3))
  generalize hgW : w2.alloc (.cells #[.slice A7 (closedL xs).length c7] 26) = W3 at *
  clear hgW hw3 hrd7 hrd8 hfr hfr' hb q1 p1 HB HW HI
  have hll : (lastsL xs).length = xs.length := lastsL_length xs
  rw [hll]
  go_wp2
  go_step3
  go_wp2
  go_loopg [9, 10] (step + 1) (fun gg s9 s10 wr => ∃ (t : Nat) (l : List Int) (A : Option Addr) (c : Nat), t + 1 ≤ gg ∧ t ≤ step ∧ s10 = .int .i64 t ∧ s9 = .slice A l.length c ∧ Aside (PartS xs step W3 wr A c l t))
  case atStart => exact ⟨step, [], none, 0, Nat.le_refl _, Nat.le_refl _, rfl, rfl, Below.refl _ _, Own.nil _ _, by simp, 0, rfl, by omega⟩
  case round =>
    obtain ⟨t, l, A, c, hg, ht, rfl, rfl, hS⟩ := hrel
    have HS := Lib.hid hS.out
    have hBw := HS.out.bl
    by_cases h0 : t = 0
    · have hz : ((t : Int) == 0) = true := by rw [h0]; rfl
      go_wp2
      try rw [Exit.noGoto_ret]
      go_ret2
      obtain ⟨A', c', e, hrd, _⟩ := HS.out.own.rd
      obtain ⟨sm, h1, h2⟩ := HS.out.sum
      injection e with e1 e2 e3
      subst e1 e3
      refine ⟨l, ⟨by have := HS.out.len; omega, ?_⟩, A, c, rfl, hrd, HB3.out.1.trans (hBw.mono HB3.out.1.size)⟩
      rw [h1, h0]
      rw [h0, closAt_zero] at h2
      rw [show sm = closAt xs step by omega]
      rfl
    · have hz : ((t : Int) == 0) = false := by rw [beq_eq_false_iff_ne]; omega
      have hltz : (t : Int) < (xs.length : Int) := by omega
      obtain ⟨b8, o8, rfl, lb8, hc8⟩ := HB3.out.2 (by omega)
      have k0 := hc8 t (by omega)
      rw [show nth (lastsL xs) t = (lastAt xs t : Int) from nth_tab (by omega)] at k0
      have k1 := (hBw.cell (p := ⟨b8, o8 + t, none⟩) lb8).trans k0
      have hlast := lastAt_bd xs (show 0 < t by omega)
      have hnew := World.news_of_block (cs := #[.int .i64 (lastAt xs t)]) (t := 3) (fr := (0, 0)) (heap_alloc_new wr (.cells #[.int .i64 (lastAt xs t)] 3))
      have hown := HS.out.own
      unfold Own at hown
      have hown2 := hown.alloc (.cells #[.int .i64 (lastAt xs t)] 3)
      have hszW : W3.heap.size ≤ (wr.alloc (.cells #[.int .i64 (lastAt xs t)] 3)).heap.size := by have := hBw.size; simp; omega
      have hBW : Below W3.heap.size W3 (wr.alloc (.cells #[.int .i64 (lastAt xs t)] 3)) := hBw.alloc hBw.size _
      have HO := Lib.hid (And.intro hnew (And.intro hown2 (And.intro hszW (And.intro hBW k0))))
      have hlen := HS.out.len
      clear hnew hown hown2 hszW hBW hc8 hS
      go_wp2_with (at_builtin; refine wpList_append_own_at _ rfl _ _ 24 rfl (W3.heap.size) 3 i0 (.int .i64 0) 1 8 Try.underlying24 hi0 hz0 hz1 hz2 rfl (by decide) (.slice A l.length c) l.length _ rfl HO.out.2.1 ⟨wr.heap.size, 0, none⟩ 1 1 [.int .i64 (lastAt xs t)] rfl (by simp) HO.out.1 (by simp [Value.oneCell']) (by unfold maxLen; omega) (by omega) HO.out.2.2.1 ?_; intro v' w9 hown1 hgrow _ _; have hB2 : Below W3.heap.size W3 w9 := HO.out.2.2.2.1.grown hgrow HO.out.2.2.1 (fun k e => own_block HS.out.own e); have k2 := (hB2.cell (p := ⟨b8, o8 + t, none⟩) lb8).trans HO.out.2.2.2.2; have ho : Own w9 W3.heap.size v' (l ++ [(lastAt xs t : Int)]) := (by unfold Own; rw [List.length_append, List.map_append]; exact hown1); obtain ⟨A9, c9, rfl⟩ : ∃ A9 c9, v' = .slice A9 (l.length + 1) c9 := (by obtain ⟨A9, c9, e9, _, _⟩ := ho.rd; exact ⟨A9, c9, by rw [e9, List.length_append]; rfl⟩); have HP := Lib.hid (HS.out.step (by omega) hB2 ho); clear hown1 hgrow hB2 ho)
      go_roundg t
      case measure => omega
      case rel => exact ⟨t - lastAt xs t, _, A9, c9, by omega, by omega, by go_num, by rw [List.length_append]; rfl, HP.out⟩
end Go.Proofs.Ytknkneccnhgjmaa
