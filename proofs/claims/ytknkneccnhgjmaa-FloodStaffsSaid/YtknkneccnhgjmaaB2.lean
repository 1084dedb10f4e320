/- Walks: Lead, Lower, bounded, Join, Sum. -/
import Derived.Test.YtknkneccnhgjmaaB1
namespace Go.Proofs.Ytknkneccnhgjmaa
open Go.RowKit Go.Shelf

def ok2 (xs ys : List Int) : Bool := validB xs && validB ys && decide (ys.length = xs.length)
theorem ok2_iff {xs ys : List Int} : ok2 xs ys = true ↔ Valid xs ∧ Valid ys ∧ ys.length = xs.length := by
  unfold ok2; simp only [Bool.and_eq_true, decide_eq_true_eq, validB_iff]
  exact ⟨fun ⟨⟨a, b⟩, c⟩ => ⟨a, b, c⟩, fun ⟨a, b, c⟩ => ⟨⟨a, b⟩, c⟩⟩

theorem Mono.le {xs : List Int} (h : Mono xs) {i j : Nat} (hij : i ≤ j) (hj : j < xs.length) : nth xs i ≤ nth xs j := by
  induction j with
  | zero => obtain rfl : i = 0 := by omega
            exact Int.le_refl _
  | succ j ih =>
    rcases Nat.lt_or_ge i (j + 1) with e | e
    · exact Int.le_trans (ih (by omega) (by omega)) (h j hj)
    · obtain rfl : i = j + 1 := by omega
      exact Int.le_refl _
theorem nth_out {xs : List Int} {i : Nat} (h : xs.length ≤ i) : nth xs i = 0 := by simp [nth, List.getD, h]
theorem Valid.bd {xs : List Int} (h : Valid xs) (i : Nat) : 0 ≤ nth xs i ∧ nth xs i ≤ 1073741824 := by
  obtain ⟨h1, h2, h3, h4, h5⟩ := h
  rcases Nat.lt_or_ge i xs.length with e | e
  · have a := h3.le (Nat.zero_le i) e
    have b := h3.le (show i ≤ xs.length - 1 by omega) (by omega)
    omega
  · rw [nth_out e]; omega
theorem Valid.small {xs : List Int} (h : Valid xs) : Small xs := fun i => by have := h.bd i; omega

theorem rightB_two (A1 A2 : Option Addr) (c1 c2 : Nat) (xs ys : List Int) : rightB [⟨A1, c1, xs⟩, ⟨A2, c2, ys⟩] = ok2 xs ys := by
  simp [rightB, rightAt, ok2, List.range_succ, Bool.and_assoc]
theorem rightB_one (A1 : Option Addr) (c1 : Nat) (xs : List Int) : rightB [⟨A1, c1, xs⟩] = validB xs := by
  simp [rightB, rightAt]

theorem right2 (A1 A2 : Option Addr) (c1 c2 : Nat) (xs ys : List Int) (w : World) (r1 : Rd w w.heap.size A1 xs) (r2 : Rd w w.heap.size A2 ys) (m1 : xs.length ≤ maxLen) (m2 : ys.length ≤ maxLen) :
    Calls Try.prog 78 #[.slice (some ⟨w.heap.size, 0, none⟩) 2 2] (w.alloc (.cells #[.slice A1 xs.length c1, .slice A2 ys.length c2] 26)) fun e w' => e = .returned (.int .i64 (errB (ok2 xs ys))) ∧ Below w.heap.size w w' := by
  have hb : Below w.heap.size w (w.alloc (.cells #[.slice A1 xs.length c1, .slice A2 ys.length c2] 26)) := (Below.refl _ w).alloc (Nat.le_refl _) _
  have h : RdC (w.alloc (.cells #[.slice A1 xs.length c1, .slice A2 ys.length c2] 26)) (w.alloc (.cells #[.slice A1 xs.length c1, .slice A2 ys.length c2] 26)).heap.size (some ⟨w.heap.size, 0, none⟩) [⟨A1, c1, xs⟩, ⟨A2, c2, ys⟩] := by
    refine ⟨fun _ => ⟨_, _, rfl, by simp, fun i hi => ?_⟩, fun i hi => ?_⟩
    · match i, hi with
      | 0, _ => simp [go_sem, Cv.v]
      | 1, _ => simp [go_sem, Cv.v]
    · match i, hi with
      | 0, _ => exact r1.ext hb
      | 1, _ => exact r2.ext hb
  have hc := right_any (some ⟨w.heap.size, 0, none⟩) 2 [⟨A1, c1, xs⟩, ⟨A2, c2, ys⟩] _ h (by simp) (fun i hi => by
    match i, hi with
    | 0, _ => exact m1
    | 1, _ => exact m2)
  rw [rightB_two] at hc
  exact hc.mono fun e w' ⟨he, hb'⟩ => ⟨he, hb.trans (hb'.mono (by simp))⟩

/-- What a call hands back that returns a curve and an error. -/
def RCE (w : World) (xs : List Int) (E : Int) (e : Ending) (w' : World) : Prop := ∃ A c, e = .returned (.tuple #[.agg #[.slice A xs.length c], .int .i64 E]) ∧ Rd w' w'.heap.size A xs ∧ Fresh w.heap.size A ∧ Below w.heap.size w w'

def pick (b : Bool) (xs : List Int) : List Int := if b then xs else []
theorem errB_f : errB false = 1 := rfl
theorem errB_t : errB true = 0 := rfl
theorem pick_f (xs : List Int) : pick false xs = [] := rfl
theorem pick_t (xs : List Int) : pick true xs = xs := rfl

theorem w2c_size' (w : World) (A1 A2 : Option Addr) (n1 c1 n2 c2 : Nat) : (w2c w A1 A2 n1 c1 n2 c2).heap.size = w.heap.size + 1 + 1 + 1 := by simp [w2c]
theorem w2c_after {w w1 : World} {A1 A2 : Option Addr} {c1 c2 : Nat} {xs ys : List Int} (r1 : Rd w w.heap.size A1 xs) (r2 : Rd w w.heap.size A2 ys) (hb : Below (w.heap.size + 1 + 1 + 1) (w2c w A1 A2 xs.length c1 ys.length c2) w1) :
    w1.cell? ⟨w.heap.size, 0, none⟩ = some (.slice A1 xs.length c1) ∧ w1.cell? ⟨w.heap.size + 1, 0, none⟩ = some (.slice A2 ys.length c2) ∧ w1.cell? ⟨w.heap.size + 1 + 1, 0, none⟩ = some (.slice none 0 0) ∧ w1.frozen? ⟨w.heap.size + 1 + 1, 0, none⟩ = false ∧
    Hid (Rd w1 w1.heap.size A1 xs ∧ Rd w1 w1.heap.size A2 ys ∧ Below w.heap.size w w1 ∧ w.heap.size + 1 + 1 < w1.heap.size) := by
  obtain ⟨rc, rf⟩ := bcell hb
  have h0 := w2c_below w A1 A2 xs.length c1 ys.length c2
  have hs := w2c_size' w A1 A2 xs.length c1 ys.length c2
  have h1 : Below w.heap.size w w1 := h0.trans (hb.mono (by omega))
  refine ⟨by rw [rc _ _ (by omega)]; simp [w2c, go_sem], by rw [rc _ _ (by omega)]; simp [w2c, go_sem], by rw [rc _ _ (by omega)]; simp [w2c, go_sem], by rw [rf _ _ (by omega)]; simp [w2c, go_sem], ⟨r1.ext h1, r2.ext h1, h1, ?_⟩⟩
  have := hb.size; omega

theorem fin_nil {w w1 : World} {g : Nat} {E : Int} {v : Value} (h0 : Below w.heap.size w w1) (hg : w.heap.size ≤ g) : RCE w [] E (.returned (.tuple #[.agg #[.slice none 0 0], .int .i64 E])) (w1.setCell ⟨g, 0, none⟩ v) :=
  ⟨none, 0, rfl, fun h => absurd h (by simp), fun _ e => (by cases e), h0.setCell (by exact hg) _⟩
theorem fin_ce {w w1 w2 : World} {g : Nat} {E : Int} {zs : List Int} {A : Option Addr} {c : Nat} (h0 : Below w.heap.size w w1) (h1 : Below w1.heap.size w1 w2) (hrd : Rd w2 w2.heap.size A zs) (hfr : Fresh w1.heap.size A) (hg : w.heap.size ≤ g) (hg2 : g < w1.heap.size) :
    RCE w zs E (.returned (.tuple #[.agg #[.slice A zs.length c], .int .i64 E])) (w2.setCell ⟨g, 0, none⟩ (.slice A zs.length c)) :=
  ⟨A, c, rfl, by rw [World.size_setCell]; exact hrd.setCell (fun ad e => by have := hfr ad e; show ad.block ≠ g; omega) _, hfr.mono h0.size, (h0.trans (h1.mono h0.size)).setCell (by exact hg) _⟩

set_option maxHeartbeats 400000 in
theorem Lead_any (A1 A2 : Option Addr) (c1 c2 : Nat) (xs ys : List Int) (w : World) (r1 : Rd w w.heap.size A1 xs) (r2 : Rd w w.heap.size A2 ys) (m1 : xs.length ≤ maxLen) (m2 : ys.length ≤ maxLen) :
    Calls Try.prog 21 #[.agg #[.slice A1 xs.length c1], .agg #[.slice A2 ys.length c2]] w fun e w' => RCE w (pick (ok2 xs ys) (leadL xs ys)) (errB (ok2 xs ys)) e w' := by
  have hb0 := w2c_below w A1 A2 xs.length c1 ys.length c2
  have hr := right2 A1 A2 c1 c2 xs ys (w2c w A1 A2 xs.length c1 ys.length c2) (r1.ext hb0) (r2.ext hb0) m1 m2
  rw [w2c_size'] at hr
  cases hv : ok2 xs ys
  · rw [hv] at hr
    simp only [errB_f, pick_f] at hr ⊢
    have HR := Lib.hid (And.intro hr (And.intro r1 r2))
    clear hr r1 r2 hb0 hv
    go_enter Try.func21, Try.ntmps21
    go_wp2_with (go_at_call 78; refine HR.out.1.mono ?_; rintro e w1 ⟨rfl, hb⟩; obtain ⟨p1, p2, q1, q2, HH⟩ := w2c_after HR.out.2.1 HR.out.2.2 hb)
    exact bodyPost_ret (v := .tuple #[.agg #[.slice none 0 0], .int .i64 1]) (by simp [results, Try.results21, go_sem, q1]) rfl (fin_nil HH.out.2.2.1 (by omega))
  · have ⟨v1, v2, h3⟩ := ok2_iff.1 hv
    rw [hv] at hr
    simp only [errB_t, pick_t] at hr ⊢
    have HR := Lib.hid (And.intro hr (And.intro r1 (And.intro r2 (And.intro v1 (And.intro v2 h3)))))
    clear hr r1 r2 hb0 hv v1 v2 h3
    go_enter Try.func21, Try.ntmps21
    go_wp2_with (first | (go_at_call 78; refine HR.out.1.mono ?_; rintro e w1 ⟨rfl, hb⟩; obtain ⟨p1, p2, q1, q2, HH⟩ := w2c_after HR.out.2.1 HR.out.2.2.1 hb) | (go_at_call 79; refine (lead_any A1 A2 c1 c2 xs ys _ HH.out.1 HH.out.2.1 HR.out.2.2.2.1.1 HR.out.2.2.2.1.2.1 HR.out.2.2.2.2.2 HR.out.2.2.2.1.small HR.out.2.2.2.2.1.small).mono ?_))
    rintro e w2 ⟨A, c, rfl, hrd, hfr, hb2⟩
    have s1 := (hb2.cell (p := ⟨w.heap.size + 1 + 1, 0, none⟩) HH.out.2.2.2).trans q1
    have s2 := (hb2.frozen (p := ⟨w.heap.size + 1 + 1, 0, none⟩) HH.out.2.2.2).trans q2
    have HF := Lib.hid (fin_ce (E := 0) (c := c) (g := w.heap.size + 1 + 1) HH.out.2.2.1 hb2 hrd hfr (by omega) HH.out.2.2.2)
    clear hrd hfr hb2
    go_wp2
    exact bodyPost_ret (v := .tuple #[.agg #[.slice A (leadL xs ys).length c], .int .i64 0]) (by simp [results, Try.results21, go_sem, s1]) rfl HF.out
set_option maxHeartbeats 400000 in
theorem Lower_any (A1 A2 : Option Addr) (c1 c2 : Nat) (xs ys : List Int) (w : World) (r1 : Rd w w.heap.size A1 xs) (r2 : Rd w w.heap.size A2 ys) (m1 : xs.length ≤ maxLen) (m2 : ys.length ≤ maxLen) :
    Calls Try.prog 28 #[.agg #[.slice A1 xs.length c1], .agg #[.slice A2 ys.length c2]] w fun e w' => RCE w (pick (ok2 xs ys) (lowerL xs ys)) (errB (ok2 xs ys)) e w' := by
  have hb0 := w2c_below w A1 A2 xs.length c1 ys.length c2
  have hr := right2 A1 A2 c1 c2 xs ys (w2c w A1 A2 xs.length c1 ys.length c2) (r1.ext hb0) (r2.ext hb0) m1 m2
  rw [w2c_size'] at hr
  cases hv : ok2 xs ys
  · rw [hv] at hr
    simp only [errB_f, pick_f] at hr ⊢
    have HR := Lib.hid (And.intro hr (And.intro r1 r2))
    clear hr r1 r2 hb0 hv
    go_enter Try.func28, Try.ntmps28
    go_wp2_with (go_at_call 78; refine HR.out.1.mono ?_; rintro e w1 ⟨rfl, hb⟩; obtain ⟨p1, p2, q1, q2, HH⟩ := w2c_after HR.out.2.1 HR.out.2.2 hb)
    exact bodyPost_ret (v := .tuple #[.agg #[.slice none 0 0], .int .i64 1]) (by simp [results, Try.results28, go_sem, q1]) rfl (fin_nil HH.out.2.2.1 (by omega))
  · have ⟨v1, v2, h3⟩ := ok2_iff.1 hv
    rw [hv] at hr
    simp only [errB_t, pick_t] at hr ⊢
    have HR := Lib.hid (And.intro hr (And.intro r1 (And.intro r2 (And.intro v1 (And.intro v2 h3)))))
    clear hr r1 r2 hb0 hv v1 v2 h3
    go_enter Try.func28, Try.ntmps28
    go_wp2_with (first | (go_at_call 78; refine HR.out.1.mono ?_; rintro e w1 ⟨rfl, hb⟩; obtain ⟨p1, p2, q1, q2, HH⟩ := w2c_after HR.out.2.1 HR.out.2.2.1 hb) | (go_at_call 87; refine (lower_any A1 A2 c1 c2 xs ys _ HH.out.1 HH.out.2.1 HR.out.2.2.2.1.1 HR.out.2.2.2.1.2.1 HR.out.2.2.2.2.2).mono ?_))
    rintro e w2 ⟨A, c, rfl, hrd, hfr, hb2⟩
    have s1 := (hb2.cell (p := ⟨w.heap.size + 1 + 1, 0, none⟩) HH.out.2.2.2).trans q1
    have s2 := (hb2.frozen (p := ⟨w.heap.size + 1 + 1, 0, none⟩) HH.out.2.2.2).trans q2
    have HF := Lib.hid (fin_ce (E := 0) (c := c) (g := w.heap.size + 1 + 1) HH.out.2.2.1 hb2 hrd hfr (by omega) HH.out.2.2.2)
    clear hrd hfr hb2
    go_wp2
    exact bodyPost_ret (v := .tuple #[.agg #[.slice A (lowerL xs ys).length c], .int .i64 0]) (by simp [results, Try.results28, go_sem, s1]) rfl HF.out

set_option maxHeartbeats 400000 in
theorem bounded_ok (A : Option Addr) (c : Nat) (xs : List Int) (w : World) (r : Rd w w.heap.size A xs) (h1 : 1 ≤ xs.length) (h2 : xs.length ≤ 121) (hl : nth xs (xs.length - 1) ≤ 1073741824) :
    Calls Try.prog 80 #[.agg #[.slice A xs.length c]] w fun e w' => e = .returned (.tuple #[.agg #[.slice A xs.length c], .int .i64 0]) ∧ Below w.heap.size w w' := by
  obtain ⟨b, off, rfl, lb, hc⟩ := r (by omega)
  have k1 := hc (xs.length - 1) (by omega)
  clear r hc
  go_enter Try.func80, Try.ntmps80
  go_wp2
  exact bodyPost_ret (v := .tuple #[.agg #[.slice (some ⟨b, off, none⟩) xs.length c], .int .i64 0]) (by simp [results, Try.results80, go_sem]) rfl ⟨rfl, (((Below.refl _ w).alloc (Nat.le_refl _) _).alloc (by simp) _)⟩

set_option maxHeartbeats 400000 in
theorem bounded_no (A : Option Addr) (c : Nat) (xs : List Int) (w : World) (r : Rd w w.heap.size A xs) (h1 : 1 ≤ xs.length) (h2 : xs.length ≤ 121) (hl : 1073741824 < nth xs (xs.length - 1)) :
    Calls Try.prog 80 #[.agg #[.slice A xs.length c]] w fun e w' => e = .returned (.tuple #[.agg #[.slice none 0 0], .int .i64 3]) ∧ Below w.heap.size w w' := by
  obtain ⟨b, off, rfl, lb, hc⟩ := r (by omega)
  have k1 := hc (xs.length - 1) (by omega)
  clear r hc
  go_enter Try.func80, Try.ntmps80
  go_wp2
  exact bodyPost_ret (v := .tuple #[.agg #[.slice none 0 0], .int .i64 3]) (by simp [results, Try.results80, go_sem]) rfl ⟨rfl, (((Below.refl _ w).alloc (Nat.le_refl _) _).alloc (by simp) _)⟩
end Go.Proofs.Ytknkneccnhgjmaa
