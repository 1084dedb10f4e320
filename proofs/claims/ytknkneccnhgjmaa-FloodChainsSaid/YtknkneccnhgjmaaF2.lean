/- Walks: right. | Walks: Lead, Lower, bounded, Join, Sum. | Walks: least, Least. | Walks: Sum. | Plain: a limit, closed. | Walk: closed. | Walk: wait. | Walk: breaks. | Walks: fails, Served. | Walks: Served, flowing, Waited, Delay. -/
import Derived.Test.YtknkneccnhgjmaaF1
import Derived.Deep.RegionHeld3
import Derived.Deep.DeepCutAuto
namespace Go.Proofs.Ytknkneccnhgjmaa
open Go.RowKit Go.Shelf

/-- A curve as it stands: where it lies, its capacity, its numbers. -/
structure Cv where
  A : Option Addr
  c : Nat
  xs : List Int
instance : Inhabited Cv := ⟨⟨none, 0, []⟩⟩
def Cv.v (e : Cv) : Value := .slice e.A e.xs.length e.c

/-- The slice '.slice A cs.length c' reads as the curves cs, and lies below B. -/
def RdC (w : World) (B : Nat) (A : Option Addr) (cs : List Cv) : Prop :=
  (0 < cs.length → ∃ b off, A = some ⟨b, off, none⟩ ∧ b < B ∧ ∀ i, i < cs.length → w.cell? ⟨b, off + i, none⟩ = some (cs[i]!.v)) ∧ ∀ i, i < cs.length → Rd w B cs[i]!.A cs[i]!.xs

theorem RdC.ext {w w' : World} {A : Option Addr} {cs : List Cv} (h : RdC w w.heap.size A cs) (hb : Below w.heap.size w w') : RdC w' w'.heap.size A cs :=
  ⟨fun hn => by
    obtain ⟨b, off, e, hl, hc⟩ := h.1 hn
    exact ⟨b, off, e, Nat.lt_of_lt_of_le hl hb.size, fun i hi => (hb.cell (p := ⟨b, off + i, none⟩) hl).trans (hc i hi)⟩, fun i hi => (h.2 i hi).ext hb⟩

def rightAt (cs : List Cv) (i : Nat) : Bool := validB cs[i]!.xs && decide (cs[i]!.xs.length = cs[0]!.xs.length)
def rightB (cs : List Cv) : Bool := (List.range cs.length).all (rightAt cs)
theorem rightB_true {cs : List Cv} (h : ∀ i, i < cs.length → rightAt cs i = true) : rightB cs = true := by
  unfold rightB; rw [List.all_eq_true]; intro i hi; exact h i (by simpa using hi)
theorem rightB_false {cs : List Cv} {i : Nat} (hi : i < cs.length) (h : rightAt cs i = false) : rightB cs = false := by
  cases hb : rightB cs
  · rfl
  · unfold rightB at hb; rw [List.all_eq_true] at hb
    rw [hb i (by simpa using hi)] at h; cases h

set_option maxRecDepth 100000 in
set_option maxHeartbeats 800000 in
theorem right_any (A : Option Addr) (c : Nat) (cs : List Cv) (w : World) (h : RdC w w.heap.size A cs) (hm : cs.length ≤ 1000000) (hl : ∀ i, i < cs.length → cs[i]!.xs.length ≤ maxLen) :
    Calls Try.prog 78 #[.slice A cs.length c] w fun e w' => e = .returned (.int .i64 (errB (rightB cs))) ∧ Below w.heap.size w w' := by
  go_enter Try.func78, Try.ntmps78
  go_wp2
  go_loopg [7] cs.length (fun gg i wr => ∃ t : Nat, t ≤ cs.length ∧ cs.length - t ≤ gg ∧ i = .int .i64 t ∧ Aside (Below w.heap.size w wr) ∧ Aside (∀ j, j < t → rightAt cs j = true))
  case atStart => exact ⟨0, Nat.zero_le _, by omega, rfl, Below.refl _ _, fun j hj => absurd hj (Nat.not_lt_zero _)⟩
  case round =>
    obtain ⟨t, ht, hg, rfl, hb, hA⟩ := hrel
    by_cases hlt : t < cs.length
    · have hltz : (t : Int) < (cs.length : Int) := by omega
      have hw := h.ext hb.out
      have hlen := hl t hlt
      have hlen0 := hl 0 (by omega)
      obtain ⟨b, off, rfl, lb, hc⟩ := hw.1 (by omega)
      have k0 := hc 0 (by omega)
      rw [Nat.add_zero] at k0
      have k1 := hc t hlt
      have r1 := hw.2 t hlt
      unfold Cv.v at k0 k1
      have HA : Hid (∀ v, rightAt cs t = v → v = (validB cs[t]!.xs && decide (cs[t]!.xs.length = cs[0]!.xs.length))) := fun v hv => by rw [← hv]; rfl
      have lb1 : b < wr.heap.size + 1 := by omega
      have hb' := Lib.hid hb.out
      have hA' := Lib.hid hA.out
      have R1 := Lib.hid r1
      clear hc hw h hl hb hA r1
      unfold maxLen at hlen hlen0
      generalize cs[t]! = E at *
      generalize cs[0]! = E0 at *
      have H8 := Lib.hid (show E.xs.length ≤ maxLen by unfold maxLen; omega)
      cases hv : validB E.xs
      · have HV := Lib.hid hv
        clear hv
        go_wp2
        refine wp_region_ext (by kernel_rfl) (by kernel_rfl) ?_
        intro ι _ X hX hC
        have rX := fun k => (bcell (hX k)).1
        have C1 : ∀ k, Calls Try.prog 23 #[.agg #[.slice E.A E.xs.length E.c]] (X k) fun e w' => e = .returned (.int .i64 1) ∧ Below (X k).heap.size (X k) w' := fun k => by
          have := check_any E.A E.c E.xs (X k) ((R1.out.ext ((Below.refl _ _).alloc (Nat.le_refl _) _)).ext (hX k)) H8.out
          rw [HV.out] at this
          exact this
        have HC := Lib.hid C1
        clear C1
        repeat (first | go_big_quiet_skip | (go_big_quiet_want; go_big_quiet_op; first | go_big_quiet_on | (apply Exists.intro; refine ⟨fun _ => ?_, ?_⟩; (focus (go_at_call 23; exact Calls.ext_of hX hC (HC.out _))); go_big_quiet_on)))
        refine wpQuiet_nil ?_
        intro w1 hb1
        clear rX hX hC
        go_wp2
        go_ret
        refine ⟨?_, hb'.out.trans ((((Below.refl _ wr).alloc (Nat.le_refl _) _).trans (hb1.mono (by simp))).mono hb'.out.size)⟩
        rw [rightB_false hlt (HA.out _ rfl |>.trans (by rw [HV.out]; rfl))]
        rfl
      · have HV := Lib.hid hv
        clear hv
        have C0 : ∀ (W : World), Below wr.heap.size wr W → Calls Try.prog 23 #[.agg #[.slice E.A E.xs.length E.c]] W fun e w' => e = .returned (.int .i64 0) ∧ Below W.heap.size W w' := fun W hW => by
          have := check_any E.A E.c E.xs W (R1.out.ext hW) H8.out
          rw [HV.out] at this
          exact this
        have HC := Lib.hid C0
        clear C0
        by_cases hq : E.xs.length = E0.xs.length
        · have hq1 : ((E.xs.length : Int) != (E0.xs.length : Int)) = false := by simp [hq]
          have HQ := Lib.hid hq
          clear hq
          go_wp2
          refine wp_region_ext (by kernel_rfl) (by kernel_rfl) ?_
          intro ι _ X hX hC
          have rX := fun k => (bcell (hX k)).1
          have hXX : ∀ k, Below wr.heap.size wr (X k) := fun k => ((Below.refl _ wr).alloc (Nat.le_refl _) _).trans ((hX k).mono (by simp))
          have HX := Lib.hid hXX
          clear hXX
          repeat (first | go_big_quiet_skip | (go_big_quiet_want; go_big_quiet_op; first | go_big_quiet_on | (apply Exists.intro; refine ⟨fun _ => ?_, ?_⟩; (focus (go_at_call 23; exact Calls.ext_of hX hC (HC.out _ (HX.out _)))); go_big_quiet_on)))
          refine wpQuiet_nil ?_
          intro w1 hb1
          clear rX hX hC
          go_wp2
          go_roundg (cs.length - (t + 1))
          case measure => omega
          case rel =>
            refine ⟨t + 1, by omega, by omega, by go_num, hb'.out.trans ((((Below.refl _ wr).alloc (Nat.le_refl _) _).trans (hb1.mono (by simp))).mono hb'.out.size), (show Aside _ from fun j hj => ?_)⟩
            rcases Nat.lt_or_ge j t with e | e
            · exact hA'.out j e
            · obtain rfl : j = t := by omega
              exact (HA.out _ rfl).trans (by rw [HV.out, HQ.out]; simp)
        · have hq1 : ((E.xs.length : Int) != (E0.xs.length : Int)) = true := by rw [bne_iff_ne]; omega
          have HQ := Lib.hid hq
          clear hq
          go_wp2
          refine wp_region_ext (by kernel_rfl) (by kernel_rfl) ?_
          intro ι _ X hX hC
          have rX := fun k => (bcell (hX k)).1
          have hXX : ∀ k, Below wr.heap.size wr (X k) := fun k => ((Below.refl _ wr).alloc (Nat.le_refl _) _).trans ((hX k).mono (by simp))
          have HX := Lib.hid hXX
          clear hXX
          repeat (first | go_big_quiet_skip | (go_big_quiet_want; go_big_quiet_op; first | go_big_quiet_on | (apply Exists.intro; refine ⟨fun _ => ?_, ?_⟩; (focus (go_at_call 23; exact Calls.ext_of hX hC (HC.out _ (HX.out _)))); go_big_quiet_on)))
          refine wpQuiet_nil ?_
          intro w1 hb1
          clear rX hX hC
          go_wp2
          go_ret
          refine ⟨?_, hb'.out.trans ((((Below.refl _ wr).alloc (Nat.le_refl _) _).trans (hb1.mono (by simp))).mono hb'.out.size)⟩
          rw [rightB_false hlt ((HA.out _ rfl).trans (by rw [HV.out]; simpa using HQ.out))]
          rfl
    · have hltz : ¬ (t : Int) < (cs.length : Int) := by omega
      obtain rfl : t = cs.length := by omega
      go_wp2
      go_ret
      refine ⟨?_, hb.out⟩
      rw [rightB_true hA.out]
      rfl
end Go.Proofs.Ytknkneccnhgjmaa
namespace Go.Proofs.Ytknkneccnhgjmaa
open Go.RowKit Go.Shelf

def ok2 (xs ys : List Int) : Bool := validB xs && validB ys && decide (ys.length = xs.length)
theorem ok2_iff {xs ys : List Int} : ok2 xs ys = true ↔ Valid xs ∧ Valid ys ∧ ys.length = xs.length := by
  unfold ok2; simp only [Bool.and_eq_true, decide_eq_true_eq, validB_iff]
  exact ⟨fun ⟨⟨a, b⟩, c⟩ => ⟨a, b, c⟩, fun ⟨a, b, c⟩ => ⟨⟨a, b⟩, c⟩⟩

theorem Mono.le {xs : List Int} (h : Mono xs) {i j : Nat} (hij : i ≤ j) (hj : j < xs.length) : nth xs i ≤ nth xs j := by
  induction j with
  | zero => obtain rfl : i = 0 := by omega
            exact Int.le_refl _
  | succ j ih =>
    rcases Nat.lt_or_ge i (j + 1) with e | e
    · exact Int.le_trans (ih (by omega) (by omega)) (h j hj)
    · obtain rfl : i = j + 1 := by omega
      exact Int.le_refl _
theorem nth_out {xs : List Int} {i : Nat} (h : xs.length ≤ i) : nth xs i = 0 := by simp [nth, List.getD, h]
theorem Valid.bd {xs : List Int} (h : Valid xs) (i : Nat) : 0 ≤ nth xs i ∧ nth xs i ≤ 1073741824 := by
  obtain ⟨h1, h2, h3, h4, h5⟩ := h
  rcases Nat.lt_or_ge i xs.length with e | e
  · have a := h3.le (Nat.zero_le i) e
    have b := h3.le (show i ≤ xs.length - 1 by omega) (by omega)
    omega
  · rw [nth_out e]; omega
theorem Valid.small {xs : List Int} (h : Valid xs) : Small xs := fun i => by have := h.bd i; omega

theorem rightB_two (A1 A2 : Option Addr) (c1 c2 : Nat) (xs ys : List Int) : rightB [⟨A1, c1, xs⟩, ⟨A2, c2, ys⟩] = ok2 xs ys := by
  simp [rightB, rightAt, ok2, List.range_succ, Bool.and_assoc]
theorem rightB_one (A1 : Option Addr) (c1 : Nat) (xs : List Int) : rightB [⟨A1, c1, xs⟩] = validB xs := by
  simp [rightB, rightAt]

theorem right2 (A1 A2 : Option Addr) (c1 c2 : Nat) (xs ys : List Int) (w : World) (r1 : Rd w w.heap.size A1 xs) (r2 : Rd w w.heap.size A2 ys) (m1 : xs.length ≤ maxLen) (m2 : ys.length ≤ maxLen) :
    Calls Try.prog 78 #[.slice (some ⟨w.heap.size, 0, none⟩) 2 2] (w.alloc (.cells #[.slice A1 xs.length c1, .slice A2 ys.length c2] 26)) fun e w' => e = .returned (.int .i64 (errB (ok2 xs ys))) ∧ Below w.heap.size w w' := by
  have hb : Below w.heap.size w (w.alloc (.cells #[.slice A1 xs.length c1, .slice A2 ys.length c2] 26)) := (Below.refl _ w).alloc (Nat.le_refl _) _
  have h : RdC (w.alloc (.cells #[.slice A1 xs.length c1, .slice A2 ys.length c2] 26)) (w.alloc (.cells #[.slice A1 xs.length c1, .slice A2 ys.length c2] 26)).heap.size (some ⟨w.heap.size, 0, none⟩) [⟨A1, c1, xs⟩, ⟨A2, c2, ys⟩] := by
    refine ⟨fun _ => ⟨_, _, rfl, by simp, fun i hi => ?_⟩, fun i hi => ?_⟩
    · match i, hi with
      | 0, _ => simp [go_sem, Cv.v]
      | 1, _ => simp [go_sem, Cv.v]
    · match i, hi with
      | 0, _ => exact r1.ext hb
      | 1, _ => exact r2.ext hb
  have hc := right_any (some ⟨w.heap.size, 0, none⟩) 2 [⟨A1, c1, xs⟩, ⟨A2, c2, ys⟩] _ h (by simp) (fun i hi => by
    match i, hi with
    | 0, _ => exact m1
    | 1, _ => exact m2)
  rw [rightB_two] at hc
  exact hc.mono fun e w' ⟨he, hb'⟩ => ⟨he, hb.trans (hb'.mono (by simp))⟩

/-- What a call hands back that returns a curve and an error. -/
def RCE (w : World) (xs : List Int) (E : Int) (e : Ending) (w' : World) : Prop := ∃ A c, e = .returned (.tuple #[.agg #[.slice A xs.length c], .int .i64 E]) ∧ Rd w' w'.heap.size A xs ∧ Fresh w.heap.size A ∧ Below w.heap.size w w'

def pick (b : Bool) (xs : List Int) : List Int := if b then xs else []
theorem errB_f : errB false = 1 := rfl
theorem errB_t : errB true = 0 := rfl
theorem pick_f (xs : List Int) : pick false xs = [] := rfl
theorem pick_t (xs : List Int) : pick true xs = xs := rfl

theorem w2c_size' (w : World) (A1 A2 : Option Addr) (n1 c1 n2 c2 : Nat) : (w2c w A1 A2 n1 c1 n2 c2).heap.size = w.heap.size + 1 + 1 + 1 := by simp [w2c]
theorem w2c_after {w w1 : World} {A1 A2 : Option Addr} {c1 c2 : Nat} {xs ys : List Int} (r1 : Rd w w.heap.size A1 xs) (r2 : Rd w w.heap.size A2 ys) (hb : Below (w.heap.size + 1 + 1 + 1) (w2c w A1 A2 xs.length c1 ys.length c2) w1) :
    w1.cell? ⟨w.heap.size, 0, none⟩ = some (.slice A1 xs.length c1) ∧ w1.cell? ⟨w.heap.size + 1, 0, none⟩ = some (.slice A2 ys.length c2) ∧ w1.cell? ⟨w.heap.size + 1 + 1, 0, none⟩ = some (.slice none 0 0) ∧ w1.frozen? ⟨w.heap.size + 1 + 1, 0, none⟩ = false ∧
    Hid (Rd w1 w1.heap.size A1 xs ∧ Rd w1 w1.heap.size A2 ys ∧ Below w.heap.size w w1 ∧ w.heap.size + 1 + 1 < w1.heap.size) := by
  obtain ⟨rc, rf⟩ := bcell hb
  have h0 := w2c_below w A1 A2 xs.length c1 ys.length c2
  have hs := w2c_size' w A1 A2 xs.length c1 ys.length c2
  have h1 : Below w.heap.size w w1 := h0.trans (hb.mono (by omega))
  refine ⟨by rw [rc _ _ (by omega)]; simp [w2c, go_sem], by rw [rc _ _ (by omega)]; simp [w2c, go_sem], by rw [rc _ _ (by omega)]; simp [w2c, go_sem], by rw [rf _ _ (by omega)]; simp [w2c, go_sem], ⟨r1.ext h1, r2.ext h1, h1, ?_⟩⟩
  have := hb.size; omega

theorem fin_nil {w w1 : World} {g : Nat} {E : Int} {v : Value} (h0 : Below w.heap.size w w1) (hg : w.heap.size ≤ g) : RCE w [] E (.returned (.tuple #[.agg #[.slice none 0 0], .int .i64 E])) (w1.setCell ⟨g, 0, none⟩ v) :=
  ⟨none, 0, rfl, fun h => absurd h (by simp), fun _ e => (by cases e), h0.setCell (by exact hg) _⟩
theorem fin_ce {w w1 w2 : World} {g : Nat} {E : Int} {zs : List Int} {A : Option Addr} {c : Nat} (h0 : Below w.heap.size w w1) (h1 : Below w1.heap.size w1 w2) (hrd : Rd w2 w2.heap.size A zs) (hfr : Fresh w1.heap.size A) (hg : w.heap.size ≤ g) (hg2 : g < w1.heap.size) :
    RCE w zs E (.returned (.tuple #[.agg #[.slice A zs.length c], .int .i64 E])) (w2.setCell ⟨g, 0, none⟩ (.slice A zs.length c)) :=
  ⟨A, c, rfl, by rw [World.size_setCell]; exact hrd.setCell (fun ad e => by have := hfr ad e; show ad.block ≠ g; omega) _, hfr.mono h0.size, (h0.trans (h1.mono h0.size)).setCell (by exact hg) _⟩

set_option maxHeartbeats 400000 in
theorem Lead_any (A1 A2 : Option Addr) (c1 c2 : Nat) (xs ys : List Int) (w : World) (r1 : Rd w w.heap.size A1 xs) (r2 : Rd w w.heap.size A2 ys) (m1 : xs.length ≤ maxLen) (m2 : ys.length ≤ maxLen) :
    Calls Try.prog 21 #[.agg #[.slice A1 xs.length c1], .agg #[.slice A2 ys.length c2]] w fun e w' => RCE w (pick (ok2 xs ys) (leadL xs ys)) (errB (ok2 xs ys)) e w' := by
  have hb0 := w2c_below w A1 A2 xs.length c1 ys.length c2
  have hr := right2 A1 A2 c1 c2 xs ys (w2c w A1 A2 xs.length c1 ys.length c2) (r1.ext hb0) (r2.ext hb0) m1 m2
  rw [w2c_size'] at hr
  cases hv : ok2 xs ys
  · rw [hv] at hr
    simp only [errB_f, pick_f] at hr ⊢
    have HR := Lib.hid (And.intro hr (And.intro r1 r2))
    clear hr r1 r2 hb0 hv
    go_enter Try.func21, Try.ntmps21
    go_wp2_with (go_at_call 78; refine HR.out.1.mono ?_; rintro e w1 ⟨rfl, hb⟩; obtain ⟨p1, p2, q1, q2, HH⟩ := w2c_after HR.out.2.1 HR.out.2.2 hb)
    exact bodyPost_ret (v := .tuple #[.agg #[.slice none 0 0], .int .i64 1]) (by simp [results, Try.results21, go_sem, q1]) rfl (fin_nil HH.out.2.2.1 (by omega))
  · have ⟨v1, v2, h3⟩ := ok2_iff.1 hv
    rw [hv] at hr
    simp only [errB_t, pick_t] at hr ⊢
    have HR := Lib.hid (And.intro hr (And.intro r1 (And.intro r2 (And.intro v1 (And.intro v2 h3)))))
    clear hr r1 r2 hb0 hv v1 v2 h3
    go_enter Try.func21, Try.ntmps21
    go_wp2_with (first | (go_at_call 78; refine HR.out.1.mono ?_; rintro e w1 ⟨rfl, hb⟩; obtain ⟨p1, p2, q1, q2, HH⟩ := w2c_after HR.out.2.1 HR.out.2.2.1 hb) | (go_at_call 79; refine (lead_any A1 A2 c1 c2 xs ys _ HH.out.1 HH.out.2.1 HR.out.2.2.2.1.1 HR.out.2.2.2.1.2.1 HR.out.2.2.2.2.2 HR.out.2.2.2.1.small HR.out.2.2.2.2.1.small).mono ?_))
    rintro e w2 ⟨A, c, rfl, hrd, hfr, hb2⟩
    have s1 := (hb2.cell (p := ⟨w.heap.size + 1 + 1, 0, none⟩) HH.out.2.2.2).trans q1
    have s2 := (hb2.frozen (p := ⟨w.heap.size + 1 + 1, 0, none⟩) HH.out.2.2.2).trans q2
    have HF := Lib.hid (fin_ce (E := 0) (c := c) (g := w.heap.size + 1 + 1) HH.out.2.2.1 hb2 hrd hfr (by omega) HH.out.2.2.2)
    clear hrd hfr hb2
    go_wp2
    exact bodyPost_ret (v := .tuple #[.agg #[.slice A (leadL xs ys).length c], .int .i64 0]) (by simp [results, Try.results21, go_sem, s1]) rfl HF.out
set_option maxHeartbeats 400000 in
theorem Lower_any (A1 A2 : Option Addr) (c1 c2 : Nat) (xs ys : List Int) (w : World) (r1 : Rd w w.heap.size A1 xs) (r2 : Rd w w.heap.size A2 ys) (m1 : xs.length ≤ maxLen) (m2 : ys.length ≤ maxLen) :
    Calls Try.prog 28 #[.agg #[.slice A1 xs.length c1], .agg #[.slice A2 ys.length c2]] w fun e w' => RCE w (pick (ok2 xs ys) (lowerL xs ys)) (errB (ok2 xs ys)) e w' := by
  have hb0 := w2c_below w A1 A2 xs.length c1 ys.length c2
  have hr := right2 A1 A2 c1 c2 xs ys (w2c w A1 A2 xs.length c1 ys.length c2) (r1.ext hb0) (r2.ext hb0) m1 m2
  rw [w2c_size'] at hr
  cases hv : ok2 xs ys
  · rw [hv] at hr
    simp only [errB_f, pick_f] at hr ⊢
    have HR := Lib.hid (And.intro hr (And.intro r1 r2))
    clear hr r1 r2 hb0 hv
    go_enter Try.func28, Try.ntmps28
    go_wp2_with (go_at_call 78; refine HR.out.1.mono ?_; rintro e w1 ⟨rfl, hb⟩; obtain ⟨p1, p2, q1, q2, HH⟩ := w2c_after HR.out.2.1 HR.out.2.2 hb)
    exact bodyPost_ret (v := .tuple #[.agg #[.slice none 0 0], .int .i64 1]) (by simp [results, Try.results28, go_sem, q1]) rfl (fin_nil HH.out.2.2.1 (by omega))
  · have ⟨v1, v2, h3⟩ := ok2_iff.1 hv
    rw [hv] at hr
    simp only [errB_t, pick_t] at hr ⊢
    have HR := Lib.hid (And.intro hr (And.intro r1 (And.intro r2 (And.intro v1 (And.intro v2 h3)))))
    clear hr r1 r2 hb0 hv v1 v2 h3
    go_enter Try.func28, Try.ntmps28
    go_wp2_with (first | (go_at_call 78; refine HR.out.1.mono ?_; rintro e w1 ⟨rfl, hb⟩; obtain ⟨p1, p2, q1, q2, HH⟩ := w2c_after HR.out.2.1 HR.out.2.2.1 hb) | (go_at_call 87; refine (lower_any A1 A2 c1 c2 xs ys _ HH.out.1 HH.out.2.1 HR.out.2.2.2.1.1 HR.out.2.2.2.1.2.1 HR.out.2.2.2.2.2).mono ?_))
    rintro e w2 ⟨A, c, rfl, hrd, hfr, hb2⟩
    have s1 := (hb2.cell (p := ⟨w.heap.size + 1 + 1, 0, none⟩) HH.out.2.2.2).trans q1
    have s2 := (hb2.frozen (p := ⟨w.heap.size + 1 + 1, 0, none⟩) HH.out.2.2.2).trans q2
    have HF := Lib.hid (fin_ce (E := 0) (c := c) (g := w.heap.size + 1 + 1) HH.out.2.2.1 hb2 hrd hfr (by omega) HH.out.2.2.2)
    clear hrd hfr hb2
    go_wp2
    exact bodyPost_ret (v := .tuple #[.agg #[.slice A (lowerL xs ys).length c], .int .i64 0]) (by simp [results, Try.results28, go_sem, s1]) rfl HF.out

set_option maxHeartbeats 400000 in
theorem bounded_ok (A : Option Addr) (c : Nat) (xs : List Int) (w : World) (r : Rd w w.heap.size A xs) (h1 : 1 ≤ xs.length) (h2 : xs.length ≤ 121) (hl : nth xs (xs.length - 1) ≤ 1073741824) :
    Calls Try.prog 80 #[.agg #[.slice A xs.length c]] w fun e w' => e = .returned (.tuple #[.agg #[.slice A xs.length c], .int .i64 0]) ∧ Below w.heap.size w w' := by
  obtain ⟨b, off, rfl, lb, hc⟩ := r (by omega)
  have k1 := hc (xs.length - 1) (by omega)
  clear r hc
  go_enter Try.func80, Try.ntmps80
  go_wp2
  exact bodyPost_ret (v := .tuple #[.agg #[.slice (some ⟨b, off, none⟩) xs.length c], .int .i64 0]) (by simp [results, Try.results80, go_sem]) rfl ⟨rfl, (((Below.refl _ w).alloc (Nat.le_refl _) _).alloc (by simp) _)⟩

set_option maxHeartbeats 400000 in
theorem bounded_no (A : Option Addr) (c : Nat) (xs : List Int) (w : World) (r : Rd w w.heap.size A xs) (h1 : 1 ≤ xs.length) (h2 : xs.length ≤ 121) (hl : 1073741824 < nth xs (xs.length - 1)) :
    Calls Try.prog 80 #[.agg #[.slice A xs.length c]] w fun e w' => e = .returned (.tuple #[.agg #[.slice none 0 0], .int .i64 3]) ∧ Below w.heap.size w w' := by
  obtain ⟨b, off, rfl, lb, hc⟩ := r (by omega)
  have k1 := hc (xs.length - 1) (by omega)
  clear r hc
  go_enter Try.func80, Try.ntmps80
  go_wp2
  exact bodyPost_ret (v := .tuple #[.agg #[.slice none 0 0], .int .i64 3]) (by simp [results, Try.results80, go_sem]) rfl ⟨rfl, (((Below.refl _ w).alloc (Nat.le_refl _) _).alloc (by simp) _)⟩
end Go.Proofs.Ytknkneccnhgjmaa
namespace Go.Proofs.Ytknkneccnhgjmaa
open Go.RowKit Go.Shelf

def leastL (xs ys : List Int) : List Int := lowerL xs (joinL xs ys)
theorem joinL_length (xs ys : List Int) : (joinL xs ys).length = xs.length := tab_length _ _
theorem lowerL_length (xs ys : List Int) : (lowerL xs ys).length = xs.length := tab_length _ _
theorem leadL_length (xs ys : List Int) : (leadL xs ys).length = xs.length := tab_length _ _

set_option maxRecDepth 100000 in
set_option maxHeartbeats 800000 in
theorem least_any (A1 A2 : Option Addr) (c1 c2 : Nat) (xs ys : List Int) (w : World) (r1 : Rd w w.heap.size A1 xs) (r2 : Rd w w.heap.size A2 ys) (h1 : 1 ≤ xs.length) (h2 : xs.length ≤ 121) (h3 : ys.length = xs.length) (sx : Small xs) (sy : Small ys) :
    Calls Try.prog 89 #[.agg #[.slice A1 xs.length c1], .agg #[.slice A2 ys.length c2]] w fun e w' => RCurve w (leastL xs ys) e w' := by
  have hb0 := w2c_below w A1 A2 xs.length c1 ys.length c2
  have hs0 := w2c_size' w A1 A2 xs.length c1 ys.length c2
  have H := Lib.hid (And.intro hb0 (And.intro r1 (And.intro r2 (And.intro h3 (And.intro sx (And.intro sy hs0))))))
  clear hb0 hs0 r1 r2 h3 sx sy
  go_enter Try.func89, Try.ntmps89
  go_wp2
  go_region_held3 (fun W => W.cell? ⟨w.heap.size, 0, none⟩ = some (.slice A1 xs.length c1) ∧ W.cell? ⟨w.heap.size + 1, 0, none⟩ = some (.slice A2 ys.length c2)) (go_keep) (first
    | (go_at_call 81; refine (join_any A1 A2 c1 c2 xs ys _ (H.out.2.1.ext H.out.1.drew) (H.out.2.2.1.ext H.out.1.drew) h1 h2 H.out.2.2.2.1 H.out.2.2.2.2.1 H.out.2.2.2.2.2.1).mono ?_; rintro e w1 ⟨A, c, rfl, hrd, hfr, hb⟩; obtain ⟨p1, p2, q1, q2, HH⟩ := w2c_after (c1 := c1) (c2 := c2) H.out.2.1 H.out.2.2.1 (((Below.refl (w.heap.size + 1 + 1 + 1) (w2c w A1 A2 xs.length c1 ys.length c2)).drew).trans (hb.mono (Nat.le_of_eq H.out.2.2.2.2.2.2.symm))); have HJ := Lib.hid hrd; clear hrd hfr hb)
    | (go_at_call 87; refine (lower_any A1 A c1 c xs (joinL xs ys) _ HH.out.1 HJ.out h1 h2 (joinL_length _ _)).mono ?_; rintro e w2 ⟨A', c', rfl, hrd, hfr, hb⟩; have s1 := (hb.cell (p := ⟨w.heap.size + 1 + 1, 0, none⟩) HH.out.2.2.2).trans q1; have s2 := (hb.frozen (p := ⟨w.heap.size + 1 + 1, 0, none⟩) HH.out.2.2.2).trans q2; have t1 := (hb.cell (p := ⟨w.heap.size, 0, none⟩) (show w.heap.size < _ by have := HH.out.2.2.2; omega)).trans p1; have t2 := (hb.cell (p := ⟨w.heap.size + 1, 0, none⟩) (show w.heap.size + 1 < _ by have := HH.out.2.2.2; omega)).trans p2; have u1 := fun v => (World.cell?_setCell_other w2 ⟨w.heap.size + 1 + 1, 0, none⟩ ⟨w.heap.size, 0, none⟩ v (by simp)).trans t1; have HL := Lib.hid (And.intro hrd (And.intro hfr hb)); clear hrd hfr hb))
  go_wp2
  have hfin : RCurve w (leastL xs ys) (.returned (.agg #[.slice A' (leastL xs ys).length c'])) (w2.setCell ⟨w.heap.size + 1 + 1, 0, none⟩ (.slice A' (leastL xs ys).length c')) :=
    fin_curve (H := w1.heap.size) (HH.out.2.2.1.trans (HL.out.2.2.mono HH.out.2.2.1.size)) HH.out.2.2.1.size HL.out.1 HL.out.2.1 (by omega) HH.out.2.2.2
  exact bodyPost_ret (v := .agg #[.slice A' (leastL xs ys).length c']) (by simp [results, Try.results89, go_sem, s1]; rfl) rfl hfin
set_option maxHeartbeats 400000 in
theorem Least_any (A1 A2 : Option Addr) (c1 c2 : Nat) (xs ys : List Int) (w : World) (r1 : Rd w w.heap.size A1 xs) (r2 : Rd w w.heap.size A2 ys) (m1 : xs.length ≤ maxLen) (m2 : ys.length ≤ maxLen) :
    Calls Try.prog 38 #[.agg #[.slice A1 xs.length c1], .agg #[.slice A2 ys.length c2]] w fun e w' => RCE w (pick (ok2 xs ys) (leastL xs ys)) (errB (ok2 xs ys)) e w' := by
  have hb0 := w2c_below w A1 A2 xs.length c1 ys.length c2
  have hr := right2 A1 A2 c1 c2 xs ys (w2c w A1 A2 xs.length c1 ys.length c2) (r1.ext hb0) (r2.ext hb0) m1 m2
  rw [w2c_size'] at hr
  cases hv : ok2 xs ys
  · rw [hv] at hr
    simp only [errB_f, pick_f] at hr ⊢
    have HR := Lib.hid (And.intro hr (And.intro r1 r2))
    clear hr r1 r2 hb0 hv
    go_enter Try.func38, Try.ntmps38
    go_wp2_with (go_at_call 78; refine HR.out.1.mono ?_; rintro e w1 ⟨rfl, hb⟩; obtain ⟨p1, p2, q1, q2, HH⟩ := w2c_after HR.out.2.1 HR.out.2.2 hb)
    exact bodyPost_ret (v := .tuple #[.agg #[.slice none 0 0], .int .i64 1]) (by simp [results, Try.results38, go_sem, q1]) rfl (fin_nil HH.out.2.2.1 (by omega))
  · have ⟨v1, v2, h3⟩ := ok2_iff.1 hv
    rw [hv] at hr
    simp only [errB_t, pick_t] at hr ⊢
    have HR := Lib.hid (And.intro hr (And.intro r1 (And.intro r2 (And.intro v1 (And.intro v2 h3)))))
    clear hr r1 r2 hb0 hv v1 v2 h3
    go_enter Try.func38, Try.ntmps38
    go_wp2_with (first | (go_at_call 78; refine HR.out.1.mono ?_; rintro e w1 ⟨rfl, hb⟩; obtain ⟨p1, p2, q1, q2, HH⟩ := w2c_after HR.out.2.1 HR.out.2.2.1 hb) | (go_at_call 89; refine (least_any A1 A2 c1 c2 xs ys _ HH.out.1 HH.out.2.1 HR.out.2.2.2.1.1 HR.out.2.2.2.1.2.1 HR.out.2.2.2.2.2 HR.out.2.2.2.1.small HR.out.2.2.2.2.1.small).mono ?_))
    rintro e w2 ⟨A, c, rfl, hrd, hfr, hb2⟩
    have s1 := (hb2.cell (p := ⟨w.heap.size + 1 + 1, 0, none⟩) HH.out.2.2.2).trans q1
    have s2 := (hb2.frozen (p := ⟨w.heap.size + 1 + 1, 0, none⟩) HH.out.2.2.2).trans q2
    have HF := Lib.hid (fin_ce (E := 0) (c := c) (g := w.heap.size + 1 + 1) HH.out.2.2.1 hb2 hrd hfr (by omega) HH.out.2.2.2)
    clear hrd hfr hb2
    go_wp2
    exact bodyPost_ret (v := .tuple #[.agg #[.slice A (leastL xs ys).length c], .int .i64 0]) (by simp [results, Try.results38, go_sem, s1]) rfl HF.out

def fitB (xs : List Int) : Bool := decide (nth xs (xs.length - 1) ≤ 1073741824)
def rngB (xs : List Int) : Int := if fitB xs then 0 else 3
theorem fit_cases (xs : List Int) : (nth xs (xs.length - 1) ≤ 1073741824 ∧ fitB xs = true ∧ rngB xs = 0) ∨ (1073741824 < nth xs (xs.length - 1) ∧ fitB xs = false ∧ rngB xs = 3) := by
  by_cases h : nth xs (xs.length - 1) ≤ 1073741824
  · exact .inl ⟨h, by simp [fitB, h], by simp [rngB, fitB, h]⟩
  · exact .inr ⟨by omega, by simp [fitB, h], by simp [rngB, fitB, h]⟩

set_option maxHeartbeats 400000 in
theorem Join_any (A1 A2 : Option Addr) (c1 c2 : Nat) (xs ys : List Int) (w : World) (r1 : Rd w w.heap.size A1 xs) (r2 : Rd w w.heap.size A2 ys) (m1 : xs.length ≤ maxLen) (m2 : ys.length ≤ maxLen) :
    Calls Try.prog 22 #[.agg #[.slice A1 xs.length c1], .agg #[.slice A2 ys.length c2]] w fun e w' => RCE w (pick (ok2 xs ys && fitB (joinL xs ys)) (joinL xs ys)) (if ok2 xs ys then rngB (joinL xs ys) else 1) e w' := by
  have hb0 := w2c_below w A1 A2 xs.length c1 ys.length c2
  have hr := right2 A1 A2 c1 c2 xs ys (w2c w A1 A2 xs.length c1 ys.length c2) (r1.ext hb0) (r2.ext hb0) m1 m2
  rw [w2c_size'] at hr
  cases hv : ok2 xs ys
  · rw [hv] at hr
    simp only [errB_f, Bool.false_and, pick_f, Bool.false_eq_true, if_false] at hr ⊢
    have HR := Lib.hid (And.intro hr (And.intro r1 r2))
    clear hr r1 r2 hb0 hv
    go_enter Try.func22, Try.ntmps22
    go_wp2_with (go_at_call 78; refine HR.out.1.mono ?_; rintro e w1 ⟨rfl, hb⟩; obtain ⟨p1, p2, q1, q2, HH⟩ := w2c_after HR.out.2.1 HR.out.2.2 hb)
    exact bodyPost_ret (v := .tuple #[.agg #[.slice none 0 0], .int .i64 1]) (by simp [results, Try.results22, go_sem, q1]) rfl (fin_nil HH.out.2.2.1 (by omega))
  · have ⟨v1, v2, h3⟩ := ok2_iff.1 hv
    rw [hv] at hr
    simp only [errB_t, Bool.true_and, if_true] at hr ⊢
    have HR := Lib.hid (And.intro hr (And.intro r1 (And.intro r2 (And.intro v1 (And.intro v2 h3)))))
    have hlen := joinL_length xs ys
    have hl1 : 1 ≤ (joinL xs ys).length := by rw [hlen]; exact v1.1
    have hl2 : (joinL xs ys).length ≤ 121 := by rw [hlen]; exact v1.2.1
    clear hr r1 r2 hb0 hv v1 v2 h3 hlen
    rcases fit_cases (joinL xs ys) with ⟨hle, hf, hr⟩ | ⟨hgt, hf, hr⟩
    · rw [hf, hr]
      clear hf hr
      simp only [pick_t]
      go_enter Try.func22, Try.ntmps22
      go_wp2_with (first | (go_at_call 78; refine HR.out.1.mono ?_; rintro e w1 ⟨rfl, hb⟩; obtain ⟨p1, p2, q1, q2, HH⟩ := w2c_after HR.out.2.1 HR.out.2.2.1 hb) | (go_at_call 81; refine (join_any A1 A2 c1 c2 xs ys _ HH.out.1 HH.out.2.1 HR.out.2.2.2.1.1 HR.out.2.2.2.1.2.1 HR.out.2.2.2.2.2 HR.out.2.2.2.1.small HR.out.2.2.2.2.1.small).mono ?_; rintro e w2 ⟨A, c, rfl, hrd, hfr, hb2⟩; have HL := Lib.hid (And.intro hrd (And.intro hfr hb2)); clear hrd hfr hb2) | (go_at_call 80; refine (bounded_ok A c (joinL xs ys) _ HL.out.1 hl1 hl2 hle).mono ?_))
      rintro e w3 ⟨rfl, hb3⟩
      have hb2 := HL.out.2.2.trans (hb3.mono HL.out.2.2.size)
      have s1 := (hb2.cell (p := ⟨w.heap.size + 1 + 1, 0, none⟩) HH.out.2.2.2).trans q1
      have s2 := (hb2.frozen (p := ⟨w.heap.size + 1 + 1, 0, none⟩) HH.out.2.2.2).trans q2
      have HF := Lib.hid (fin_ce (E := 0) (c := c) (g := w.heap.size + 1 + 1) HH.out.2.2.1 hb2 (HL.out.1.ext hb3) HL.out.2.1 (by omega) HH.out.2.2.2)
      clear hb2 hb3
      go_wp2
      exact bodyPost_ret (v := .tuple #[.agg #[.slice A (joinL xs ys).length c], .int .i64 0]) (by simp [results, Try.results22, go_sem, s1]) rfl HF.out
    · rw [hf, hr]
      clear hf hr
      simp only [pick_f]
      go_enter Try.func22, Try.ntmps22
      go_wp2_with (first | (go_at_call 78; refine HR.out.1.mono ?_; rintro e w1 ⟨rfl, hb⟩; obtain ⟨p1, p2, q1, q2, HH⟩ := w2c_after HR.out.2.1 HR.out.2.2.1 hb) | (go_at_call 81; refine (join_any A1 A2 c1 c2 xs ys _ HH.out.1 HH.out.2.1 HR.out.2.2.2.1.1 HR.out.2.2.2.1.2.1 HR.out.2.2.2.2.2 HR.out.2.2.2.1.small HR.out.2.2.2.2.1.small).mono ?_; rintro e w2 ⟨A, c, rfl, hrd, hfr, hb2⟩; have HL := Lib.hid (And.intro hrd (And.intro hfr hb2)); clear hrd hfr hb2) | (go_at_call 80; refine (bounded_no A c (joinL xs ys) _ HL.out.1 hl1 hl2 hgt).mono ?_))
      rintro e w3 ⟨rfl, hb3⟩
      have hb2 := HL.out.2.2.trans (hb3.mono HL.out.2.2.size)
      have s1 := (hb2.cell (p := ⟨w.heap.size + 1 + 1, 0, none⟩) HH.out.2.2.2).trans q1
      have s2 := (hb2.frozen (p := ⟨w.heap.size + 1 + 1, 0, none⟩) HH.out.2.2.2).trans q2
      have HF := Lib.hid (fin_nil (E := 3) (g := w.heap.size + 1 + 1) (v := .slice none 0 0) (HH.out.2.2.1.trans (hb2.mono HH.out.2.2.1.size)) (by omega))
      clear hb2 hb3
      go_wp2
      exact bodyPost_ret (v := .tuple #[.agg #[.slice none 0 0], .int .i64 3]) (by simp [results, Try.results22, go_sem, s1]) rfl HF.out

end Go.Proofs.Ytknkneccnhgjmaa
namespace Go.Proofs.Ytknkneccnhgjmaa
open Go.RowKit Go.Shelf

def sumL (xs ys : List Int) : List Int := tab xs.length fun t => nth xs t + nth ys t
theorem sumL_length (xs ys : List Int) : (sumL xs ys).length = xs.length := tab_length _ _
theorem eg86 : ∀ args w, (callFunc 86 args).run Try.prog w = .ok (.enter 86 args) w := enters_of Try.func86 (by kernel_rfl) rfl

theorem sum_tells {w w1 : World} {A1 A2 : Option Addr} {c1 c2 : Nat} {xs ys : List Int} (v1 : Valid xs) (v2 : Valid ys) (h3 : ys.length = xs.length) (p1 : w1.cell? ⟨w.heap.size, 0, none⟩ = some (.slice A1 xs.length c1)) (p2 : w1.cell? ⟨w.heap.size + 1, 0, none⟩ = some (.slice A2 ys.length c2))
    (HH : Rd w1 w1.heap.size A1 xs ∧ Rd w1 w1.heap.size A2 ys ∧ Below w.heap.size w w1 ∧ w.heap.size + 1 + 1 < w1.heap.size) :
    ∀ (t : Nat) (W : World), t < xs.length → Below w1.heap.size w1 W → Calls Try.prog 86 (#[.int .i64 t] ++ #[.pointer (some ⟨w.heap.size, 0, none⟩), .pointer (some ⟨w.heap.size + 1, 0, none⟩)]) W fun e W' => e = .returned (.int .i64 (nth xs t + nth ys t)) ∧ Below W.heap.size W W' :=
  fun t W ht hW => sum1_any t _ _ xs ys W ((show Held w1 w.heap.size 0 xs from ⟨by omega, A1, c1, p1, HH.1⟩).below hW) ((show Held w1 (w.heap.size + 1) 0 ys from ⟨by omega, A2, c2, p2, HH.2.1⟩).below hW) ht (by omega) v1.small v2.small

set_option maxHeartbeats 400000 in
theorem Sum_any (A1 A2 : Option Addr) (c1 c2 : Nat) (xs ys : List Int) (w : World) (r1 : Rd w w.heap.size A1 xs) (r2 : Rd w w.heap.size A2 ys) (m1 : xs.length ≤ maxLen) (m2 : ys.length ≤ maxLen) :
    Calls Try.prog 27 #[.agg #[.slice A1 xs.length c1], .agg #[.slice A2 ys.length c2]] w fun e w' => RCE w (pick (ok2 xs ys && fitB (sumL xs ys)) (sumL xs ys)) (if ok2 xs ys then rngB (sumL xs ys) else 1) e w' := by
  have hb0 := w2c_below w A1 A2 xs.length c1 ys.length c2
  have hr := right2 A1 A2 c1 c2 xs ys (w2c w A1 A2 xs.length c1 ys.length c2) (r1.ext hb0) (r2.ext hb0) m1 m2
  rw [w2c_size'] at hr
  cases hv : ok2 xs ys
  · rw [hv] at hr
    simp only [errB_f, Bool.false_and, pick_f, Bool.false_eq_true, if_false] at hr ⊢
    have HR := Lib.hid (And.intro hr (And.intro r1 r2))
    clear hr r1 r2 hb0 hv
    go_enter Try.func27, Try.ntmps27
    go_wp2_with (go_at_call 78; refine HR.out.1.mono ?_; rintro e w1 ⟨rfl, hb⟩; obtain ⟨p1, p2, q1, q2, HH⟩ := w2c_after HR.out.2.1 HR.out.2.2 hb)
    exact bodyPost_ret (v := .tuple #[.agg #[.slice none 0 0], .int .i64 1]) (by simp [results, Try.results27, go_sem, q1]) rfl (fin_nil HH.out.2.2.1 (by omega))
  · have ⟨v1, v2, h3⟩ := ok2_iff.1 hv
    rw [hv] at hr
    simp only [errB_t, Bool.true_and, if_true] at hr ⊢
    have HR := Lib.hid (And.intro hr (And.intro r1 (And.intro r2 (And.intro v1 (And.intro v2 h3)))))
    have hlen := sumL_length xs ys
    have hl1 : 1 ≤ (sumL xs ys).length := by rw [hlen]; exact v1.1
    have hl2 : (sumL xs ys).length ≤ 121 := by rw [hlen]; exact v1.2.1
    clear hr r1 r2 hb0 hv v1 v2 h3 hlen
    rcases fit_cases (sumL xs ys) with ⟨hle, hf, hr⟩ | ⟨hgt, hf, hr⟩
    · rw [hf, hr]
      clear hf hr
      simp only [pick_t]
      go_enter Try.func27, Try.ntmps27
      go_wp2_with (first | (go_at_call 78; refine HR.out.1.mono ?_; rintro e w1 ⟨rfl, hb⟩; obtain ⟨p1, p2, q1, q2, HH⟩ := w2c_after HR.out.2.1 HR.out.2.2.1 hb) | (go_at_call 71; refine (each_pure 86 #[.pointer (some ⟨w.heap.size, 0, none⟩), .pointer (some ⟨w.heap.size + 1, 0, none⟩)] eg86 xs.length HR.out.2.2.2.1.1 HR.out.2.2.2.1.2.1 (fun t => nth xs t + nth ys t) _ (sum_tells HR.out.2.2.2.1 HR.out.2.2.2.2.1 HR.out.2.2.2.2.2 p1 p2 HH.out)).mono ?_; rintro e w2 ⟨A, c, rfl, hrd, hfr, hb2⟩; have HL := Lib.hid (And.intro hrd (And.intro hfr hb2)); clear hrd hfr hb2) | (go_at_call 80; refine (bounded_ok A c (sumL xs ys) _ HL.out.1 hl1 hl2 hle).mono ?_))
      rintro e w3 ⟨rfl, hb3⟩
      have hb2 := HL.out.2.2.trans (hb3.mono HL.out.2.2.size)
      have s1 := (hb2.cell (p := ⟨w.heap.size + 1 + 1, 0, none⟩) HH.out.2.2.2).trans q1
      have s2 := (hb2.frozen (p := ⟨w.heap.size + 1 + 1, 0, none⟩) HH.out.2.2.2).trans q2
      have HF := Lib.hid (fin_ce (E := 0) (c := c) (g := w.heap.size + 1 + 1) HH.out.2.2.1 hb2 (HL.out.1.ext hb3) HL.out.2.1 (by omega) HH.out.2.2.2)
      clear hb2 hb3
      go_wp2
      exact bodyPost_ret (v := .tuple #[.agg #[.slice A (sumL xs ys).length c], .int .i64 0]) (by simp [results, Try.results27, go_sem, s1]) rfl HF.out
    · rw [hf, hr]
      clear hf hr
      simp only [pick_f]
      go_enter Try.func27, Try.ntmps27
      go_wp2_with (first | (go_at_call 78; refine HR.out.1.mono ?_; rintro e w1 ⟨rfl, hb⟩; obtain ⟨p1, p2, q1, q2, HH⟩ := w2c_after HR.out.2.1 HR.out.2.2.1 hb) | (go_at_call 71; refine (each_pure 86 #[.pointer (some ⟨w.heap.size, 0, none⟩), .pointer (some ⟨w.heap.size + 1, 0, none⟩)] eg86 xs.length HR.out.2.2.2.1.1 HR.out.2.2.2.1.2.1 (fun t => nth xs t + nth ys t) _ (sum_tells HR.out.2.2.2.1 HR.out.2.2.2.2.1 HR.out.2.2.2.2.2 p1 p2 HH.out)).mono ?_; rintro e w2 ⟨A, c, rfl, hrd, hfr, hb2⟩; have HL := Lib.hid (And.intro hrd (And.intro hfr hb2)); clear hrd hfr hb2) | (go_at_call 80; refine (bounded_no A c (sumL xs ys) _ HL.out.1 hl1 hl2 hgt).mono ?_))
      rintro e w3 ⟨rfl, hb3⟩
      have hb2 := HL.out.2.2.trans (hb3.mono HL.out.2.2.size)
      have s1 := (hb2.cell (p := ⟨w.heap.size + 1 + 1, 0, none⟩) HH.out.2.2.2).trans q1
      have s2 := (hb2.frozen (p := ⟨w.heap.size + 1 + 1, 0, none⟩) HH.out.2.2.2).trans q2
      have HF := Lib.hid (fin_nil (E := 3) (g := w.heap.size + 1 + 1) (v := .slice none 0 0) (HH.out.2.2.1.trans (hb2.mono HH.out.2.2.1.size)) (by omega))
      clear hb2 hb3
      go_wp2
      exact bodyPost_ret (v := .tuple #[.agg #[.slice none 0 0], .int .i64 3]) (by simp [results, Try.results27, go_sem, s1]) rfl HF.out

end Go.Proofs.Ytknkneccnhgjmaa
namespace Go.Proofs.Ytknkneccnhgjmaa

/-- The last part and the least sum of divisions of t whose last part is t itself or one of 1 .. k. -/
def minPart (L : List Int) (out : Nat → Int) (t : Nat) : Nat → Nat × Int
  | 0 => (t, nth L t)
  | k + 1 => if out (t - (k + 1)) + nth L (k + 1) < (minPart L out t k).2 then (k + 1, out (t - (k + 1)) + nth L (k + 1)) else minPart L out t k

theorem minPart_congr {L : List Int} {o o' : Nat → Int} {t : Nat} : ∀ (k : Nat), k < t ∨ k = 0 → (∀ j, j < t → o j = o' j) → minPart L o t k = minPart L o' t k
  | 0, _, _ => rfl
  | k + 1, hk, h => by
    have hk' : k + 1 < t := by omega
    unfold minPart
    rw [minPart_congr k (by omega) h, h (t - (k + 1)) (by omega)]

def closTo (L : List Int) : Nat → List Int
  | 0 => []
  | t + 1 => closTo L t ++ [if t = 0 then 0 else (minPart L (nth (closTo L t)) t (t - 1)).2]
theorem closTo_length (L : List Int) (t : Nat) : (closTo L t).length = t := by
  induction t with
  | zero => rfl
  | succ t ih => simp [closTo, ih]
def closAt (L : List Int) (t : Nat) : Int := nth (closTo L (t + 1)) t

theorem nth_append_left {xs ys : List Int} {i : Nat} (h : i < xs.length) : nth (xs ++ ys) i = nth xs i := by simp [nth, List.getD, List.getElem?_append_left h]
theorem nth_append_right (xs : List Int) (y : Int) : nth (xs ++ [y]) xs.length = y := by simp [nth, List.getD]

theorem nth_closTo (L : List Int) {t n : Nat} (h : t < n) : nth (closTo L n) t = closAt L t := by
  induction n with
  | zero => omega
  | succ n ih =>
    rcases Nat.lt_or_ge t n with e | e
    · unfold closTo
      rw [nth_append_left (by rw [closTo_length]; exact e)]
      exact ih e
    · obtain rfl : t = n := by omega
      rfl
theorem closAt_zero (L : List Int) : closAt L 0 = 0 := rfl
theorem closAt_eq (L : List Int) {t : Nat} (h : 0 < t) : closAt L t = (minPart L (closAt L) t (t - 1)).2 := by
  have h1 : closAt L t = (minPart L (nth (closTo L t)) t (t - 1)).2 := by
    show nth (closTo L t ++ [if t = 0 then 0 else (minPart L (nth (closTo L t)) t (t - 1)).2]) t = _
    have := nth_append_right (closTo L t) (if t = 0 then 0 else (minPart L (nth (closTo L t)) t (t - 1)).2)
    rw [closTo_length] at this
    rw [this, if_neg (by omega)]
  rw [h1, minPart_congr (t - 1) (by omega) (fun j hj => nth_closTo L hj)]

def lastAt (L : List Int) (t : Nat) : Nat := if t = 0 then 0 else (minPart L (closAt L) t (t - 1)).1

theorem minPart_bd {L : List Int} {o : Nat → Int} {t : Nat} (hL : ∀ i, 0 ≤ nth L i ∧ nth L i ≤ 1073741824) : ∀ (k : Nat), k < t ∨ k = 0 → (∀ j, j < t → 0 ≤ o j ∧ o j ≤ 1073741824) → 0 ≤ (minPart L o t k).2 ∧ (minPart L o t k).2 ≤ 1073741824
  | 0, _, _ => hL t
  | k + 1, hk, ho => by
    have ih := minPart_bd hL k (by omega) ho
    have h1 := ho (t - (k + 1)) (by omega)
    have h2 := hL (k + 1)
    unfold minPart
    split
    · dsimp only; omega
    · omega

theorem closAt_bd {L : List Int} (hL : ∀ i, 0 ≤ nth L i ∧ nth L i ≤ 1073741824) (t : Nat) : 0 ≤ closAt L t ∧ closAt L t ≤ 1073741824 := by
  induction t using Nat.strongRecOn with
  | _ t ih =>
    rcases Nat.eq_zero_or_pos t with rfl | h
    · rw [closAt_zero]; omega
    · rw [closAt_eq L h]
      exact minPart_bd hL (t - 1) (by omega) ih

theorem minPart_fst {L : List Int} {o : Nat → Int} {t : Nat} (ht : 0 < t) : ∀ (k : Nat), k < t → 1 ≤ (minPart L o t k).1 ∧ (minPart L o t k).1 ≤ t
  | 0, _ => ⟨ht, Nat.le_refl _⟩
  | k + 1, hk => by
    have ih := minPart_fst (L := L) (o := o) ht k (by omega)
    unfold minPart
    split
    · exact ⟨by simp, by simp; omega⟩
    · exact ih
theorem lastAt_bd (L : List Int) {t : Nat} (h : 0 < t) : 1 ≤ lastAt L t ∧ lastAt L t ≤ t := by
  unfold lastAt
  rw [if_neg (by omega)]
  exact minPart_fst h (t - 1) (by omega)

def closedL (L : List Int) : List Int := tab L.length (closAt L)
def lastsL (L : List Int) : List Int := tab L.length fun t => (lastAt L t : Int)
theorem closedL_length (L : List Int) : (closedL L).length = L.length := tab_length _ _
theorem lastsL_length (L : List Int) : (lastsL L).length = L.length := tab_length _ _
end Go.Proofs.Ytknkneccnhgjmaa
namespace Go.Proofs.Ytknkneccnhgjmaa
open Go.RowKit Go.Shelf

/-- What closed hands back: the curve, and the last parts. -/
def RClosed (w : World) (L : List Int) (e : Ending) (w' : World) : Prop :=
  ∃ A c A' c', e = .returned (.tuple #[.agg #[.slice A (closedL L).length c], .slice A' (lastsL L).length c']) ∧ Rd w' w'.heap.size A (closedL L) ∧ Rd w' w'.heap.size A' (lastsL L) ∧ Fresh w.heap.size A ∧ Fresh w.heap.size A' ∧ Below w.heap.size w w'

/-- Block g is a row of n ints of the call's own that holds F below t. -/
def RowTo (w : World) (g n t : Nat) (F : Nat → Int) : Prop := ∃ cs : Array Value, w.heap[g]? = some (.cells cs 3 (0, 0)) ∧ cs.size = n ∧ ∀ j, j < t → cs[j]? = some (.int .i64 (F j))
theorem RowTo.cell {w : World} {g n t : Nat} {F : Nat → Int} (h : RowTo w g n t F) {j : Nat} (hj : j < t) : w.cell? ⟨g, j, none⟩ = some (.int .i64 (F j)) := by
  obtain ⟨cs, h1, h2, h3⟩ := h
  rw [cell_of_row w g j cs _ _ h1, h3 j hj]
theorem RowTo.has {w : World} {g n t : Nat} {F : Nat → Int} (h : RowTo w g n t F) {j : Nat} (hj : j < n) : (∃ v, w.cell? ⟨g, j, none⟩ = some v) ∧ w.frozen? ⟨g, j, none⟩ = false := by
  obtain ⟨cs, h1, h2, h3⟩ := h
  exact ⟨⟨cs[j], by rw [cell_of_row w g j cs _ _ h1, Array.getElem?_eq_getElem (by omega)]⟩, frozen_of_row w g j cs _ h1⟩
theorem RowTo.lt {w : World} {g n t : Nat} {F : Nat → Int} (h : RowTo w g n t F) : g < w.heap.size := by
  obtain ⟨cs, h1, _⟩ := h
  exact (Array.getElem?_eq_some_iff.1 h1).1
theorem RowTo.same {w w' : World} {g n t : Nat} {F : Nat → Int} (h : RowTo w g n t F) (hs : w'.heap[g]? = w.heap[g]?) : RowTo w' g n t F := by
  obtain ⟨cs, h1, h2, h3⟩ := h
  exact ⟨cs, hs.trans h1, h2, h3⟩
theorem RowTo.other {w : World} {g n t : Nat} {F : Nat → Int} (h : RowTo w g n t F) {p : Addr} (hp : g ≠ p.block) (v : Value) : RowTo (w.setCell p v) g n t F := h.same (heap_setCell_other _ _ _ _ hp)
theorem RowTo.less {w : World} {g n t t' : Nat} {F : Nat → Int} (h : RowTo w g n t F) (ht : t' ≤ t) : RowTo w g n t' F := by
  obtain ⟨cs, h1, h2, h3⟩ := h
  exact ⟨cs, h1, h2, fun j hj => h3 j (by omega)⟩
theorem RowTo.set {w : World} {g n t : Nat} {F F' : Nat → Int} (h : RowTo w g n t F) (ht : t < n) (x : Int) (hx : F' t = x) (hF : ∀ j, j < t → F' j = F j) : RowTo (w.setCell ⟨g, t, none⟩ (.int .i64 x)) g n (t + 1) F' := by
  obtain ⟨cs, h1, h2, h3⟩ := h
  refine ⟨_, heap_setCell_same _ _ _ _ _ _ h1, by rw [Array.size_setIfInBounds]; exact h2, fun j hj => ?_⟩
  rw [Array.getElem?_setIfInBounds]
  split
  · rename_i e; subst e; rw [if_pos (by omega), hx]
  · rw [h3 j (by omega), hF j (by omega)]
theorem RowTo.congr {w : World} {g n t : Nat} {F F' : Nat → Int} (h : RowTo w g n t F) (hF : ∀ j, j < t → F j = F' j) : RowTo w g n t F' := by
  obtain ⟨cs, h1, h2, h3⟩ := h
  exact ⟨cs, h1, h2, fun j hj => by rw [h3 j hj, hF j hj]⟩
def upd (F : Nat → Int) (t : Nat) (x : Int) (j : Nat) : Int := if j = t then x else F j
theorem upd_same (F : Nat → Int) (t : Nat) (x : Int) : upd F t x t = x := by simp [upd]
theorem upd_ne (F : Nat → Int) {t j : Nat} (x : Int) (h : j ≠ t) : upd F t x j = F j := by simp [upd, h]
theorem RowTo.add {w : World} {g n t : Nat} {F : Nat → Int} (h : RowTo w g n t F) (ht : t < n) (x : Int) : RowTo (w.setCell ⟨g, t, none⟩ (.int .i64 x)) g n (t + 1) (upd F t x) :=
  h.set ht x (upd_same _ _ _) (fun j hj => upd_ne _ _ (by omega))
theorem RowTo.put {w : World} {g n t : Nat} {F : Nat → Int} {y : Int} (h : RowTo w g n (t + 1) (upd F t y)) (ht : t < n) (x : Int) : RowTo (w.setCell ⟨g, t, none⟩ (.int .i64 x)) g n (t + 1) (upd F t x) :=
  RowTo.add ((h.less (Nat.le_succ t)).congr (fun j hj => upd_ne _ _ (by omega))) ht x
theorem RowTo.rd {w : World} {g n : Nat} {F : Nat → Int} (h : RowTo w g n n F) : Rd w w.heap.size (some ⟨g, 0, none⟩) (tab n F) := fun _ => ⟨g, 0, rfl, h.lt, fun i hi => by
  rw [tab_length] at hi
  rw [Nat.zero_add, h.cell hi, nth_tab hi]⟩
theorem RowTo.of_own {w : World} {base g n : Nat} (h : w.ownsRow base 3 1 (.slice (some ⟨g, 0, none⟩) n n) n (madeCells #[.int .i64 0] (n * 1)).toList) : RowTo w g n n (fun _ => 0) := by
  have hl := h.1
  have hc := World.ownsRow.cells h (g := g) rfl
  rcases h.2 with ⟨e, _⟩ | ⟨g', cap, cur, e, _, hh, _, _, hcs, ht⟩
  · cases e
  · simp only [Value.slice.injEq, Option.some.injEq, Addr.mk.injEq, and_true, true_and] at e
    obtain ⟨rfl, rfl⟩ := e
    refine ⟨cur, hh, by omega, fun j hj => ?_⟩
    have h1 := hc j (.int .i64 0) (by rw [Nat.mul_one, toList_madeCells_one, List.getElem?_replicate, if_pos hj])
    rw [add_eq, Nat.zero_add, cell_of_row w _ j cur _ _ hh] at h1
    exact h1

theorem below_grown {w w' : World} (hg : w.grownBy w' none) : Below w.heap.size w w' := ⟨hg.os, hg.tape, hg.output, hg.size, fun k hk => hg.block k hk (by simp)⟩

def lastI (L : List Int) (t : Nat) : Int := (lastAt L t : Int)
/-- What closed's two rows hold in the inner loop, behind part k. -/
def InClosed (w2 : World) (B g : Nat) (L : List Int) (t k : Nat) (wr : World) : Prop :=
  Below (B + 1 + 1) w2 wr ∧ RowTo wr (B + 1 + 1) L.length (t + 1) (upd (lastI L) t ((minPart L (closAt L) t k).1 : Int)) ∧ RowTo wr g L.length (t + 1) (upd (closAt L) t (minPart L (closAt L) t k).2)

set_option maxRecDepth 100000 in
set_option maxHeartbeats 1600000 in
theorem closed_any (A : Option Addr) (c : Nat) (L : List Int) (w : World) (r : Rd w w.heap.size A L) (v : Valid L) :
    Calls Try.prog 88 #[.agg #[.slice A L.length c]] w fun e w' => RClosed w L e w' := by
  obtain ⟨i0, hi, hz0, hz1, hz2⟩ := info_parts info3
  obtain ⟨b, off, rfl, lb, hc⟩ := r (by have := v.1; omega)
  have hn1 := v.1
  have hn2 := v.2.1
  have hbd := v.bd
  have HR := Lib.hid r
  clear r
  go_enter Try.func88, Try.ntmps88
  go_upto_region 2 with (at_make; refine wpList_make_full _ rfl _ _ 24 rfl (w.heap.size + 1) 3 i0 (.int .i64 0) 1 Try.underlying24 hi hz0 hz1 .i64 .i64 L.length L.length L.length rfl rfl rfl rfl (by rw [hz2]; omega) (by unfold maxLen; omega) (by simp) ?_; intro w1 hown hgrow)
  obtain ⟨rc, rf⟩ := bcell (below_grown hgrow)
  have p1 : w1.cell? ⟨w.heap.size, 0, none⟩ = some (.slice (some ⟨b, off, none⟩) L.length c) := (rc w.heap.size 0 (by simp; omega)).trans (by simp [go_sem])
  have q1 : w1.cell? ⟨w.heap.size + 1, 0, none⟩ = some (.slice none 0 0) := (rc (w.heap.size + 1) 0 (by simp)).trans (by simp [go_sem])
  have q2 : w1.frozen? ⟨w.heap.size + 1, 0, none⟩ = false := (rf (w.heap.size + 1) 0 (by simp)).trans (by simp [go_sem])
  have hA := RowTo.of_own hown
  simp only [World.size_alloc] at hA
  have hB : Below w.heap.size w w1 := (((Below.refl _ w).alloc (Nat.le_refl _) _).alloc (by simp) _).trans ((below_grown hgrow).mono (by simp; omega))
  have HA := Lib.hid (And.intro hA hB)
  clear hown hgrow rc rf hA hB
  go_upto_region 3 with (at_make; refine wpList_make_full _ rfl _ _ 24 rfl (w.heap.size + 1) 3 i0 (.int .i64 0) 1 Try.underlying24 hi hz0 hz1 .i64 .i64 L.length L.length L.length rfl rfl rfl rfl (by rw [hz2]; omega) (by unfold maxLen; omega) (by have := HA.out.1.lt; omega) ?_; intro w2 hown hgrow)
  obtain ⟨rc, rf⟩ := bcell (below_grown hgrow)
  have hA := RowTo.of_own hown
  have hlt := HA.out.1.lt
  have p2 : w2.cell? ⟨w.heap.size, 0, none⟩ = some (.slice (some ⟨b, off, none⟩) L.length c) := (rc w.heap.size 0 (by omega)).trans p1
  have q3 : w2.cell? ⟨w.heap.size + 1, 0, none⟩ = some (.slice none 0 0) := (rc (w.heap.size + 1) 0 (by omega)).trans q1
  have q4 : w2.frozen? ⟨w.heap.size + 1, 0, none⟩ = false := (rf (w.heap.size + 1) 0 (by omega)).trans q2
  have h1 : RowTo w2 (w.heap.size + 1 + 1) L.length L.length (fun _ => 0) := HA.out.1.same ((below_grown hgrow).block _ hlt)
  have h2 : Below w.heap.size w w2 := HA.out.2.trans ((below_grown hgrow).mono (by omega))
  have hg : w.heap.size + 1 + 1 < w1.heap.size := hlt
  clear HA rc rf p1 q1 q2 hlt hown hgrow
  generalize w1.heap.size = g at *
  have HS := Lib.hid (And.intro h1 (And.intro hA (And.intro h2 (And.intro p2 (And.intro q3 q4)))))
  clear h1 hA h2 p2 q3 q4
  go_wp2
  go_loopg [6] L.length (fun gk i wr => ∃ t : Nat, 1 ≤ t ∧ t ≤ L.length ∧ L.length - t ≤ gk ∧ i = .int .i64 t ∧ Aside (Below (w.heap.size + 1 + 1) w2 wr ∧ RowTo wr (w.heap.size + 1 + 1) L.length t (lastI L) ∧ RowTo wr g L.length t (closAt L)))
  case atStart =>
    refine ⟨1, Nat.le_refl _, hn1, by omega, rfl, Below.refl _ _, (HS.out.1.less hn1).congr (fun j hj => ?_), (HS.out.2.1.less hn1).congr (fun j hj => ?_)⟩
    · obtain rfl : j = 0 := by omega
      rfl
    · obtain rfl : j = 0 := by omega
      rfl
  case round =>
    obtain ⟨t, ht1, ht, hgk, rfl, hI⟩ := hrel
    have hbw := hI.out.1
    have p3 := (hbw.cell (p := ⟨w.heap.size, 0, none⟩) (show w.heap.size < _ by omega)).trans HS.out.2.2.2.1
    have q5 := (hbw.cell (p := ⟨w.heap.size + 1, 0, none⟩) (show w.heap.size + 1 < _ by omega)).trans HS.out.2.2.2.2.1
    have q6 := (hbw.frozen (p := ⟨w.heap.size + 1, 0, none⟩) (show w.heap.size + 1 < _ by omega)).trans HS.out.2.2.2.2.2
    have hrow : ∀ i, i < L.length → wr.cell? ⟨b, off + i, none⟩ = some (.int .i64 (nth L i)) := fun i hi => (hbw.cell (p := ⟨b, off + i, none⟩) (show b < _ by omega)).trans ((HS.out.2.2.1.cell (p := ⟨b, off + i, none⟩) lb).trans (hc i hi))
    by_cases hlt : t < L.length
    · have hltz : (t : Int) < (L.length : Int) := by omega
      have k1 := hrow t hlt
      obtain ⟨⟨v1, e1⟩, f1⟩ := hI.out.2.1.has hlt
      obtain ⟨⟨v2, e2⟩, f2⟩ := hI.out.2.2.has hlt
      have hne : ¬ (w.heap.size + 1 + 1 = g) := by omega
      have hne2 : ¬ (g = w.heap.size + 1 + 1) := by omega
      clear hrow hbw
      go_wp2
      have hW : InClosed w2 w.heap.size g L t 0 ((wr.setCell ⟨w.heap.size + 1 + 1, t, none⟩ (.int .i64 t)).setCell ⟨g, t, none⟩ (.int .i64 (nth L t))) :=
        ⟨(hI.out.1.setCell (Nat.le_refl _) _).setCell (by show w.heap.size + 1 + 1 ≤ g; omega) _, (hI.out.2.1.add hlt _).other (by exact hne) _, (hI.out.2.2.other (by exact hne2) _).add hlt _⟩
      obtain ⟨wo, hwo⟩ : ∃ wo : World, wo = (wr.setCell ⟨w.heap.size + 1 + 1, t, none⟩ (.int .i64 t)).setCell ⟨g, t, none⟩ (.int .i64 (nth L t)) := ⟨_, rfl⟩
      rw [← hwo] at hW ⊢
      have HW := Lib.hid hW
      clear hW hwo e1 e2 f1 f2 k1 p3 q5 q6 hI
      go_loopg [7] t (fun gk2 i wi => ∃ p : Nat, 1 ≤ p ∧ p ≤ t ∧ t - p ≤ gk2 ∧ i = .int .i64 p ∧ Aside (InClosed w2 w.heap.size g L t (p - 1) wi))
      case atStart => exact ⟨1, Nat.le_refl _, ht1, by omega, rfl, HW.out⟩
      case round =>
        obtain ⟨p, hp1, hp, hgp, rfl, hI⟩ := hrel
        have hbw := hI.out.1
        have p3 := (hbw.cell (p := ⟨w.heap.size, 0, none⟩) (show w.heap.size < _ by omega)).trans HS.out.2.2.2.1
        have hrow : ∀ i, i < L.length → wr.cell? ⟨b, off + i, none⟩ = some (.int .i64 (nth L i)) := fun i hi => (hbw.cell (p := ⟨b, off + i, none⟩) (show b < _ by omega)).trans ((HS.out.2.2.1.cell (p := ⟨b, off + i, none⟩) lb).trans (hc i hi))
        by_cases hpt : p < t
        · have hptz : (p : Int) < (t : Int) := by omega
          have k1 := hrow p (by omega)
          have e0 : wr.cell? ⟨g, t - p, none⟩ = some (.int .i64 (closAt L (t - p))) := (hI.out.2.2.cell (j := t - p) (by omega)).trans (by rw [upd_ne _ _ (by omega)])
          have e1 : wr.cell? ⟨g, t, none⟩ = some (.int .i64 (minPart L (closAt L) t (p - 1)).2) := (hI.out.2.2.cell (j := t) (by omega)).trans (by rw [upd_same])
          have hlb := (Nat.lt_of_lt_of_le lb HS.out.2.2.1.size)
          have hgl : g < wr.heap.size := hI.out.2.2.lt
          have hlb2 : b < wr.heap.size := by omega
          have hB0 : w.heap.size < wr.heap.size := by omega
          have n1 := closAt_bd hbd (t - p)
          have n2 := hbd p
          have n3 := minPart_bd hbd (t := t) (p - 1) (by omega) (fun j _ => closAt_bd hbd j)
          have hsub : IntKind.i64.wrap ((t : Int) - (p : Int)) = ((t - p : Nat) : Int) := by rw [IntWalk.i64_in _ (by omega)]; omega
          have hmp : minPart L (closAt L) t p = if closAt L (t - p) + nth L p < (minPart L (closAt L) t (p - 1)).2 then (p, closAt L (t - p) + nth L p) else minPart L (closAt L) t (p - 1) := by
            obtain ⟨q, rfl⟩ : ∃ q, p = q + 1 := ⟨p - 1, by omega⟩
            rfl
          have HM := Lib.hid hmp
          have HI := Lib.hid hI.out
          obtain ⟨⟨v3, e3⟩, f3⟩ := hI.out.2.1.has hlt
          have f4 := (hI.out.2.2.has hlt).2
          clear hrow hbw hmp hI hc hbd
          generalize hm2 : (minPart L (closAt L) t (p - 1)).2 = m2 at *
          have HM2 := Lib.hid hm2
          clear hm2
          by_cases hcm : closAt L (t - p) + nth L p < m2
          · go_wp2
            refine wp_region_ext (by kernel_rfl) (by kernel_rfl) ?_
            intro ι _ X hX hC
            have rX := fun k => (bcell (hX k)).1
            repeat (first | go_big_quiet_skip | (go_big_quiet_want; go_big_quiet_op; first | go_big_quiet_on | (apply Exists.intro; refine ⟨fun _ => ?_, ?_⟩; (focus (fail)); go_big_quiet_on)))
            refine wpQuiet_nil ?_
            intro w1 hb1
            clear rX hX hC
            obtain ⟨rc, rf⟩ := bcell hb1
            have HI1 : InClosed w2 w.heap.size g L t (p - 1) w1 := ⟨HI.out.1.trans (hb1.mono (by omega)), HI.out.2.1.same (hb1.block _ (by omega)), HI.out.2.2.same (hb1.block _ hgl)⟩
            have hB2 : w.heap.size + 1 + 1 < wr.heap.size := by omega
            have Hb1 := Lib.hid hb1
            clear hb1
            go_wp2
            go_roundg (t - (p + 1))
            case measure => omega
            case rel =>
              refine ⟨p + 1, by omega, by omega, by omega, by go_num, (HI1.1.setCell (Nat.le_refl _) _).setCell (by show w.heap.size + 1 + 1 ≤ g; omega) _, ?_, ?_⟩
              · rw [Nat.add_sub_cancel, HM.out, if_pos hcm]
                exact (HI1.2.1.put hlt _).other (by exact hne) _
              · rw [Nat.add_sub_cancel, HM.out, if_pos hcm]
                exact (HI1.2.2.other (by exact hne2) _).put hlt _
          · go_wp2
            refine wp_region_ext (by kernel_rfl) (by kernel_rfl) ?_
            intro ι _ X hX hC
            have rX := fun k => (bcell (hX k)).1
            repeat (first | go_big_quiet_skip | (go_big_quiet_want; go_big_quiet_op; first | go_big_quiet_on | (apply Exists.intro; refine ⟨fun _ => ?_, ?_⟩; (focus (fail)); go_big_quiet_on)))
            refine wpQuiet_nil ?_
            intro w1 hb1
            clear rX hX hC
            obtain ⟨rc, rf⟩ := bcell hb1
            have HI1 : InClosed w2 w.heap.size g L t (p - 1) w1 := ⟨HI.out.1.trans (hb1.mono (by omega)), HI.out.2.1.same (hb1.block _ (by omega)), HI.out.2.2.same (hb1.block _ hgl)⟩
            have Hb1 := Lib.hid hb1
            clear hb1
            go_wp2
            go_roundg (t - (p + 1))
            case measure => omega
            case rel =>
              refine ⟨p + 1, by omega, by omega, by omega, by go_num, ?_⟩
              have e : minPart L (closAt L) t (p + 1 - 1) = minPart L (closAt L) t (p - 1) := by rw [Nat.add_sub_cancel, HM.out, if_neg (by omega)]
              unfold InClosed
              rw [e]
              exact HI1
        · have hptz : ¬ (p : Int) < (t : Int) := by omega
          obtain rfl : p = t := by omega
          have HI := Lib.hid hI.out
          clear hrow hbw hI
          go_wp2
          go_roundg (L.length - (p + 1))
          case measure => omega
          case rel =>
            refine ⟨p + 1, by omega, by omega, by omega, by go_num, HI.out.1, HI.out.2.1.congr (fun j hj => ?_), HI.out.2.2.congr (fun j hj => ?_)⟩
            · rcases Nat.lt_or_ge j p with e | e
              · rw [upd_ne _ _ (by omega)]
              · obtain rfl : j = p := by omega
                rw [upd_same]; unfold lastI lastAt; rw [if_neg (by omega)]
            · rcases Nat.lt_or_ge j p with e | e
              · rw [upd_ne _ _ (by omega)]
              · obtain rfl : j = p := by omega
                rw [upd_same, closAt_eq L (by omega)]
    · have hltz : ¬ (t : Int) < (L.length : Int) := by omega
      obtain rfl : t = L.length := by omega
      have hl1 := closedL_length L
      have hl2 := lastsL_length L
      have hfin : RClosed w L (.returned (.tuple #[.agg #[.slice (some ⟨g, 0, none⟩) L.length L.length], .slice (some ⟨w.heap.size + 1 + 1, 0, none⟩) L.length L.length])) (wr.setCell ⟨w.heap.size + 1, 0, none⟩ (.slice (some ⟨g, 0, none⟩) L.length L.length)) :=
        ⟨some ⟨g, 0, none⟩, L.length, some ⟨w.heap.size + 1 + 1, 0, none⟩, L.length, by rw [hl1, hl2], by rw [World.size_setCell]; exact hI.out.2.2.rd.setCell (fun ad e => by cases e; show g ≠ w.heap.size + 1; omega) _,
          by rw [World.size_setCell]; exact hI.out.2.1.rd.setCell (fun ad e => by cases e; show w.heap.size + 1 + 1 ≠ w.heap.size + 1; omega) _, fun ad e => by cases e; show w.heap.size ≤ g; omega, fun ad e => by cases e; show w.heap.size ≤ w.heap.size + 1 + 1; omega,
          (HS.out.2.2.1.trans (hI.out.1.mono (by omega))).setCell (by show w.heap.size ≤ w.heap.size + 1; omega) _⟩
      have HF := Lib.hid hfin
      clear hfin hI hrow hbw hl1 hl2
      go_wp2
      exact bodyPost_ret (v := .tuple #[.agg #[.slice (some ⟨g, 0, none⟩) L.length L.length], .slice (some ⟨w.heap.size + 1 + 1, 0, none⟩) L.length L.length]) (by simp [results, Try.results88, go_sem, q5]) rfl HF.out
end Go.Proofs.Ytknkneccnhgjmaa
namespace Go.Proofs.Ytknkneccnhgjmaa
open Go.RowKit Go.Shelf

/-- Below k, a is above b somewhere, w steps later. -/
def lateTo (a b : List Int) (w k : Nat) : Bool := (List.range k).any fun t => decide (nth b (t + w) < nth a t)
theorem lateTo_succ (a b : List Int) (w k : Nat) : lateTo a b w (k + 1) = (lateTo a b w k || decide (nth b (k + w) < nth a k)) := by simp [lateTo, List.range_succ]
theorem lateTo_mono {a b : List Int} {w k k' : Nat} (h : k ≤ k') (hl : lateTo a b w k = true) : lateTo a b w k' = true := by
  unfold lateTo at *
  rw [List.any_eq_true] at *
  obtain ⟨t, ht, hx⟩ := hl
  exact ⟨t, by rw [List.mem_range] at *; omega, hx⟩
def lateB (a b : List Int) (w : Nat) : Bool := lateTo a b w (a.length - w)
def waitI (a b : List Int) : Int := firstIdx (fun w => !lateB a b w) (a.length + 1)

set_option maxRecDepth 100000 in
set_option maxHeartbeats 1600000 in
theorem wait_any (A1 A2 : Option Addr) (c1 c2 : Nat) (xs ys : List Int) (w : World) (r1 : Rd w w.heap.size A1 xs) (r2 : Rd w w.heap.size A2 ys) (h1 : 1 ≤ xs.length) (h2 : xs.length ≤ 1000) (h3 : ys.length = xs.length) :
    Calls Try.prog 91 #[.agg #[.slice A1 xs.length c1], .agg #[.slice A2 ys.length c2]] w fun e w' => e = .returned (.int .i64 (waitI xs ys)) ∧ Below w.heap.size w w' := by
  obtain ⟨b1, o1, rfl, lb1, g1⟩ := r1 (by omega)
  obtain ⟨b2, o2, rfl, lb2, g2⟩ := r2 (by omega)
  have H3 := Lib.hid h3
  clear r1 r2 h3
  have hw0 : Below w.heap.size w ((w.alloc (.cells #[.slice (some ⟨b1, o1, none⟩) xs.length c1] 26)).alloc (.cells #[.slice (some ⟨b2, o2, none⟩) ys.length c2] 26)) := ((Below.refl _ w).alloc (Nat.le_refl _) _).alloc (by simp) _
  have p1 : ((w.alloc (.cells #[.slice (some ⟨b1, o1, none⟩) xs.length c1] 26)).alloc (.cells #[.slice (some ⟨b2, o2, none⟩) ys.length c2] 26)).cell? ⟨w.heap.size, 0, none⟩ = some (.slice (some ⟨b1, o1, none⟩) xs.length c1) := by simp [go_sem]
  have p2 : ((w.alloc (.cells #[.slice (some ⟨b1, o1, none⟩) xs.length c1] 26)).alloc (.cells #[.slice (some ⟨b2, o2, none⟩) ys.length c2] 26)).cell? ⟨w.heap.size + 1, 0, none⟩ = some (.slice (some ⟨b2, o2, none⟩) ys.length c2) := by simp [go_sem]
  have hs0 : ((w.alloc (.cells #[.slice (some ⟨b1, o1, none⟩) xs.length c1] 26)).alloc (.cells #[.slice (some ⟨b2, o2, none⟩) ys.length c2] 26)).heap.size = w.heap.size + 1 + 1 := by simp
  go_enter Try.func91, Try.ntmps91
  go_wp2
  generalize hwo : (w.alloc (.cells #[.slice (some ⟨b1, o1, none⟩) xs.length c1] 26)).alloc (.cells #[.slice (some ⟨b2, o2, none⟩) ys.length c2] 26) = wo at *
  have HO := Lib.hid (And.intro p1 (And.intro p2 (And.intro hs0 hw0)))
  clear hwo p1 p2 hs0 hw0
  go_loopg [5] (xs.length + 1) (fun gk i wr => ∃ k : Nat, k ≤ xs.length ∧ xs.length + 1 - k ≤ gk ∧ i = .int .i64 k ∧ Aside (Below (w.heap.size + 1 + 1) wo wr) ∧ Aside (∀ j, j < k → lateB xs ys j = true))
  case atStart => exact ⟨0, Nat.zero_le _, by omega, rfl, Below.refl _ _, fun j hj => absurd hj (Nat.not_lt_zero _)⟩
  case round =>
    obtain ⟨k, hk, hgk, rfl, hb, hA⟩ := hrel
    have HB := Lib.hid hb.out
    have HA := Lib.hid hA.out
    clear hb hA
    go_wp2
    obtain ⟨wp, hwp⟩ : ∃ wp : World, wp = wr := ⟨_, rfl⟩
    rw [← hwp] at HB ⊢
    clear hwp
    go_loopg [6, 7] (xs.length + 1) (fun gk2 l i wi => ∃ (t : Nat), t + k ≤ xs.length ∧ xs.length - k - t + (if lateTo xs ys k t then 0 else 1) ≤ gk2 ∧ i = .int .i64 t ∧ l = .bool (lateTo xs ys k t) ∧ Aside (Below (w.heap.size + 1 + 1) wo wi))
    case atStart => exact ⟨0, by omega, by simp [lateTo], rfl, rfl, HB.out⟩
    case round =>
      obtain ⟨t, ht, hgt, rfl, rfl, hb⟩ := hrel
      have hbw := hb.out
      have p1 := (hbw.cell (p := ⟨w.heap.size, 0, none⟩) (show w.heap.size < _ by omega)).trans HO.out.1
      have p2 := (hbw.cell (p := ⟨w.heap.size + 1, 0, none⟩) (show w.heap.size + 1 < _ by omega)).trans HO.out.2.1
      have hsz := hbw.size
      have hso := HO.out.2.2.1
      have l1 : w.heap.size < wr.heap.size := by omega
      have l2 : w.heap.size + 1 < wr.heap.size := by omega
      have l3 : b1 < wr.heap.size := by omega
      have l4 : b2 < wr.heap.size := by omega
      clear hso hbw
      cases hl : lateTo xs ys k t
      · by_cases hlt : t + k < xs.length
        · have hltz : (t : Int) + (k : Int) < (xs.length : Int) := by omega
          have k1 := (hb.out.cell (p := ⟨b1, o1 + t, none⟩) (show b1 < _ by omega)).trans ((HO.out.2.2.2.cell (p := ⟨b1, o1 + t, none⟩) lb1).trans (g1 t (by omega)))
          have k2 := (hb.out.cell (p := ⟨b2, o2 + (t + k), none⟩) (show b2 < _ by omega)).trans ((HO.out.2.2.2.cell (p := ⟨b2, o2 + (t + k), none⟩) lb2).trans (g2 (t + k) (by rw [H3.out]; omega)))
          have hyl : t + k < ys.length := by rw [H3.out]; exact hlt
          have hls := lateTo_succ xs ys k t
          rw [hl] at hls hgt
          have HL := Lib.hid (And.intro hls hgt)
          have HB2 := Lib.hid hb.out
          clear hl hls hb hgt
          go_wp2
          refine wp_region_ext (by kernel_rfl) (by kernel_rfl) ?_
          intro ι _ X hX hC
          have rX := fun k => (bcell (hX k)).1
          repeat (first | go_big_quiet_skip | (go_big_quiet_want; go_big_quiet_op; first | go_big_quiet_on | (apply Exists.intro; refine ⟨fun _ => ?_, ?_⟩; (focus (fail)); go_big_quiet_on)))
          refine wpQuiet_nil ?_
          intro w1 hb1
          clear rX hX hC
          go_wp2
          go_roundg (xs.length - k - (t + 1) + (if lateTo xs ys k (t + 1) then 0 else 1))
          case measure => have := HL.out.2; simp only [Bool.false_eq_true, if_false] at this; split <;> omega
          case rel => exact ⟨t + 1, by omega, Nat.le_refl _, by go_num, by rw [HL.out.1]; rfl, HB2.out.trans (hb1.mono (by omega))⟩
        · have hltz : ¬ (t : Int) + (k : Int) < (xs.length : Int) := by omega
          have hfin : waitI xs ys = (k : Int) := firstIdx_hit (by omega) (by show (!lateB xs ys k) = true; rw [show lateB xs ys k = lateTo xs ys k t by unfold lateB; rw [show xs.length - k = t by omega], hl]; rfl) (fun j hj => by show (!lateB xs ys j) = false; rw [HA.out j hj]; rfl)
          have HF := Lib.hid (And.intro hfin (HO.out.2.2.2.trans (hb.out.mono (by omega))))
          clear hfin hl hb hgt
          go_wp2
          go_ret
          exact ⟨by rw [HF.out.1]; rfl, HF.out.2⟩
      · have hfin : lateB xs ys k = true := lateTo_mono (by omega) hl
        have HF := Lib.hid (And.intro hfin hb.out)
        have hkn : k < xs.length := by
          rcases Nat.lt_or_ge k xs.length with e | e
          · exact e
          · have : xs.length - k = 0 := by omega
            unfold lateB at hfin; rw [this] at hfin; simp [lateTo] at hfin
        clear hfin hb hgt hl
        by_cases hlt : t + k < xs.length
        all_goals
          have hltz : decide ((t : Int) + (k : Int) < (xs.length : Int)) = decide (t + k < xs.length) := by simp; omega
          go_wp2
          go_roundg (xs.length + 1 - (k + 1))
          case measure => omega
          case rel =>
            refine ⟨k + 1, by omega, by omega, by go_num, HF.out.2, (show Aside _ from fun j hj => ?_)⟩
            rcases Nat.lt_or_ge j k with e | e
            · exact HA.out j e
            · obtain rfl : j = k := by omega
              exact HF.out.1
end Go.Proofs.Ytknkneccnhgjmaa
namespace Go.Proofs.Ytknkneccnhgjmaa
open Go.RowKit Go.Shelf

def brkAt (a L : List Int) (t s : Nat) : Bool := decide (nth L (t - s) < nth a t - nth a s)
/-- The first span in which a course is above a limit. -/
def brk (a L : List Int) : Option (Nat × Nat) :=
  match (List.range a.length).find? (fun t => (List.range t).any (brkAt a L t)) with
  | none => none
  | some t => match (List.range t).find? (brkAt a L t) with
    | none => none
    | some s => some (s, t)
theorem find_range {p : Nat → Bool} {n t : Nat} (h : t < n) (ht : p t = true) (hb : ∀ j, j < t → p j = false) : (List.range n).find? p = some t := by
  rw [List.find?_eq_some_iff_getElem]
  exact ⟨ht, t, by simpa using h, by simp, fun j hj => by simpa using hb j hj⟩
theorem find_range_none {p : Nat → Bool} {n : Nat} (hb : ∀ j, j < n → p j = false) : (List.range n).find? p = none := by
  rw [List.find?_eq_none]
  intro j hj
  rw [List.mem_range] at hj
  simp [hb j hj]
theorem any_range_false {p : Nat → Bool} {n : Nat} (hb : ∀ j, j < n → p j = false) : (List.range n).any p = false := by
  rw [List.any_eq_false]
  intro j hj
  rw [List.mem_range] at hj
  simp [hb j hj]
theorem brk_none {a L : List Int} (h : ∀ t, t < a.length → ∀ s, s < t → brkAt a L t s = false) : brk a L = none := by
  unfold brk
  rw [find_range_none (fun t ht => any_range_false (h t ht))]
theorem brk_some {a L : List Int} {t s : Nat} (ht : t < a.length) (hs : s < t) (hb : brkAt a L t s = true) (h1 : ∀ t', t' < t → ∀ s', s' < t' → brkAt a L t' s' = false) (h2 : ∀ s', s' < s → brkAt a L t s' = false) : brk a L = some (s, t) := by
  unfold brk
  rw [find_range ht (List.any_eq_true.2 ⟨s, List.mem_range.2 hs, hb⟩) (fun t' ht' => any_range_false (h1 t' ht'))]
  dsimp only
  rw [find_range hs hb h2]
def brkLo (o : Option (Nat × Nat)) : Int := match o with | none => 0 | some p => p.1
def brkHi (o : Option (Nat × Nat)) : Int := match o with | none => 0 | some p => p.2

set_option maxRecDepth 100000 in
set_option maxHeartbeats 1600000 in
theorem breaks_any (A1 A2 : Option Addr) (c1 c2 : Nat) (xs ys : List Int) (w : World) (r1 : Rd w w.heap.size A1 xs) (r2 : Rd w w.heap.size A2 ys) (h1 : 1 ≤ xs.length) (h2 : xs.length ≤ 1000) (h3 : ys.length = xs.length) (sx : Small xs) :
    Calls Try.prog 100 #[.agg #[.slice A1 xs.length c1], .agg #[.slice A2 ys.length c2]] w fun e w' => e = .returned (.tuple #[.agg #[.int .i64 (brkLo (brk xs ys)), .int .i64 (brkHi (brk xs ys))], .bool (brk xs ys).isSome]) ∧ Below w.heap.size w w' := by
  obtain ⟨b1, o1, rfl, lb1, g1⟩ := r1 (by omega)
  obtain ⟨b2, o2, rfl, lb2, g2⟩ := r2 (by omega)
  have H3 := Lib.hid h3
  clear r1 r2 h3
  have hw0 : Below w.heap.size w (((w.alloc (.cells #[.slice (some ⟨b1, o1, none⟩) xs.length c1] 26)).alloc (.cells #[.slice (some ⟨b2, o2, none⟩) ys.length c2] 26)).alloc (.cells #[.int .i64 0, .int .i64 0] 73)) := (((Below.refl _ w).alloc (Nat.le_refl _) _).alloc (by simp) _).alloc (by simp; omega) _
  have p1 : (((w.alloc (.cells #[.slice (some ⟨b1, o1, none⟩) xs.length c1] 26)).alloc (.cells #[.slice (some ⟨b2, o2, none⟩) ys.length c2] 26)).alloc (.cells #[.int .i64 0, .int .i64 0] 73)).cell? ⟨w.heap.size, 0, none⟩ = some (.slice (some ⟨b1, o1, none⟩) xs.length c1) := by simp [go_sem]
  have p2 : (((w.alloc (.cells #[.slice (some ⟨b1, o1, none⟩) xs.length c1] 26)).alloc (.cells #[.slice (some ⟨b2, o2, none⟩) ys.length c2] 26)).alloc (.cells #[.int .i64 0, .int .i64 0] 73)).cell? ⟨w.heap.size + 1, 0, none⟩ = some (.slice (some ⟨b2, o2, none⟩) ys.length c2) := by simp [go_sem]
  have q1 : (((w.alloc (.cells #[.slice (some ⟨b1, o1, none⟩) xs.length c1] 26)).alloc (.cells #[.slice (some ⟨b2, o2, none⟩) ys.length c2] 26)).alloc (.cells #[.int .i64 0, .int .i64 0] 73)).heap[w.heap.size + 1 + 1]? = some (.cells #[.int .i64 0, .int .i64 0] 73 (0, 0)) := by
    have := heap_alloc_new ((w.alloc (.cells #[.slice (some ⟨b1, o1, none⟩) xs.length c1] 26)).alloc (.cells #[.slice (some ⟨b2, o2, none⟩) ys.length c2] 26)) (.cells #[.int .i64 0, .int .i64 0] 73)
    simpa using this
  have hs0 : (((w.alloc (.cells #[.slice (some ⟨b1, o1, none⟩) xs.length c1] 26)).alloc (.cells #[.slice (some ⟨b2, o2, none⟩) ys.length c2] 26)).alloc (.cells #[.int .i64 0, .int .i64 0] 73)).heap.size = w.heap.size + 1 + 1 + 1 := by simp
  go_enter Try.func100, Try.ntmps100
  go_wp2
  generalize hwo : ((w.alloc (.cells #[.slice (some ⟨b1, o1, none⟩) xs.length c1] 26)).alloc (.cells #[.slice (some ⟨b2, o2, none⟩) ys.length c2] 26)).alloc (.cells #[.int .i64 0, .int .i64 0] 73) = wo at *
  have HO := Lib.hid (And.intro p1 (And.intro p2 (And.intro q1 (And.intro hs0 hw0))))
  clear hwo p1 p2 q1 hs0 hw0
  go_loopg [11] xs.length (fun gk i wr => ∃ t : Nat, t ≤ xs.length ∧ xs.length - t ≤ gk ∧ i = .int .i64 t ∧ Aside (Below (w.heap.size + 1 + 1 + 1) wo wr) ∧ Aside (∀ t', t' < t → ∀ s', s' < t' → brkAt xs ys t' s' = false))
  case atStart => exact ⟨0, Nat.zero_le _, by omega, rfl, Below.refl _ _, fun j hj => absurd hj (Nat.not_lt_zero _)⟩
  case round =>
    obtain ⟨t, ht, hgt, rfl, hb, hA⟩ := hrel
    have HB := Lib.hid hb.out
    have HA := Lib.hid hA.out
    clear hb hA
    by_cases hlt : t < xs.length
    · have hltz : (t : Int) < (xs.length : Int) := by omega
      go_wp2
      obtain ⟨wp, hwp⟩ : ∃ wp : World, wp = wr := ⟨_, rfl⟩
      rw [← hwp] at HB ⊢
      clear hwp
      go_loopg [15] t (fun gk2 i wi => ∃ s : Nat, s ≤ t ∧ t - s ≤ gk2 ∧ i = .int .i64 s ∧ Aside (Below (w.heap.size + 1 + 1 + 1) wo wi) ∧ Aside (∀ s', s' < s → brkAt xs ys t s' = false))
      case atStart => exact ⟨0, Nat.zero_le _, by omega, rfl, HB.out, fun j hj => absurd hj (Nat.not_lt_zero _)⟩
      case round =>
        obtain ⟨s, hs, hgs, rfl, hb, hC⟩ := hrel
        have hbw := hb.out
        have HC := Lib.hid hC.out
        by_cases hst : s < t
        · have hstz : (s : Int) < (t : Int) := by omega
          have p1 := (hbw.cell (p := ⟨w.heap.size, 0, none⟩) (show w.heap.size < _ by omega)).trans HO.out.1
          have p2 := (hbw.cell (p := ⟨w.heap.size + 1, 0, none⟩) (show w.heap.size + 1 < _ by omega)).trans HO.out.2.1
          have hsz := hbw.size
          have hso := HO.out.2.2.2.1
          have l1 : w.heap.size < wr.heap.size := by omega
          have l2 : w.heap.size + 1 < wr.heap.size := by omega
          have l3 : b1 < wr.heap.size := by omega
          have l4 : b2 < wr.heap.size := by omega
          have l5 : w.heap.size + 1 + 1 < wr.heap.size := by omega
          have gx : ∀ i, i < xs.length → wr.cell? ⟨b1, o1 + i, none⟩ = some (.int .i64 (nth xs i)) := fun i hi => (hbw.cell (p := ⟨b1, o1 + i, none⟩) (show b1 < _ by omega)).trans ((HO.out.2.2.2.2.cell (p := ⟨b1, o1 + i, none⟩) lb1).trans (g1 i hi))
          have k1 := gx t hlt
          have k2 := gx s (by omega)
          have k3 := (hbw.cell (p := ⟨b2, o2 + (t - s), none⟩) (show b2 < _ by omega)).trans ((HO.out.2.2.2.2.cell (p := ⟨b2, o2 + (t - s), none⟩) lb2).trans (g2 (t - s) (by rw [H3.out]; omega)))
          have hyl : t - s < ys.length := by rw [H3.out]; omega
          have hsub : IntKind.i64.wrap ((t : Int) - (s : Int)) = ((t - s : Nat) : Int) := by rw [IntWalk.i64_in _ (by omega)]; omega
          obtain ⟨m1, m2⟩ := sx t
          obtain ⟨m3, m4⟩ := sx s
          have hbr : (wr.heap[w.heap.size + 1 + 1]? = some (.cells #[.int .i64 0, .int .i64 0] 73 (0, 0))) := (hbw.block _ (by omega)).trans HO.out.2.2.1
          have HBR := Lib.hid (And.intro hbr hbw)
          clear gx hso hbw hb hC hbr
          by_cases hcm : nth ys (t - s) < nth xs t - nth xs s
          · have hfin : brk xs ys = some (s, t) := brk_some hlt hst (by simp [brkAt, hcm]) HA.out HC.out
            have HF := Lib.hid hfin
            clear hfin
            go_wp2
            refine wp_region_ext (by kernel_rfl) (by kernel_rfl) ?_
            intro ι _ X hX hC
            have rX := fun k => (bcell (hX k)).1
            repeat (first | go_big_quiet_skip | (go_big_quiet_want; go_big_quiet_op; first | go_big_quiet_on | (apply Exists.intro; refine ⟨fun _ => ?_, ?_⟩; (focus (fail)); go_big_quiet_on)))
            refine wpQuiet_nil ?_
            intro w1 hb1
            clear rX hX hC
            have hbr1 := (hb1.block _ l5).trans HBR.out.1
            have c5 : w1.cell? ⟨w.heap.size + 1 + 1, 0, none⟩ = some (.int .i64 0) := by rw [cell_of_row w1 _ 0 _ _ _ hbr1]; rfl
            have c6 : w1.cell? ⟨w.heap.size + 1 + 1, 1, none⟩ = some (.int .i64 0) := by rw [cell_of_row w1 _ 1 _ _ _ hbr1]; rfl
            have f5 : w1.frozen? ⟨w.heap.size + 1 + 1, 0, none⟩ = false := frozen_of_row w1 _ 0 _ _ hbr1
            have f6 : w1.frozen? ⟨w.heap.size + 1 + 1, 1, none⟩ = false := frozen_of_row w1 _ 1 _ _ hbr1
            have HB1 := Lib.hid (HBR.out.2.trans (hb1.mono (by omega)))
            clear hbr1 hb1
            go_wp2
            refine bodyPost_ret (v := .tuple #[.agg #[.int .i64 s, .int .i64 t], .bool true]) (by simp [results, Try.results100, go_sem, c5, c6]) rfl ⟨by rw [HF.out]; rfl, ?_⟩
            exact (HO.out.2.2.2.2.trans (HB1.out.mono (by omega))).setCell (by show w.heap.size ≤ w.heap.size + 1 + 1; omega) _ |>.setCell (by show w.heap.size ≤ w.heap.size + 1 + 1; omega) _
          · have hcf : brkAt xs ys t s = false := by simp [brkAt]; omega
            have HF := Lib.hid hcf
            clear hcf
            go_wp2
            refine wp_region_ext (by kernel_rfl) (by kernel_rfl) ?_
            intro ι _ X hX hC
            have rX := fun k => (bcell (hX k)).1
            repeat (first | go_big_quiet_skip | (go_big_quiet_want; go_big_quiet_op; first | go_big_quiet_on | (apply Exists.intro; refine ⟨fun _ => ?_, ?_⟩; (focus (fail)); go_big_quiet_on)))
            refine wpQuiet_nil ?_
            intro w1 hb1
            clear rX hX hC
            have HB1 := Lib.hid (HBR.out.2.trans (hb1.mono (by omega)))
            clear hb1
            go_wp2
            go_roundg (t - (s + 1))
            case measure => omega
            case rel =>
              refine ⟨s + 1, by omega, by omega, by go_num, HB1.out, (show Aside _ from fun j hj => ?_)⟩
              rcases Nat.lt_or_ge j s with e | e
              · exact HC.out j e
              · obtain rfl : j = s := by omega
                exact HF.out
        · have hstz : ¬ (s : Int) < (t : Int) := by omega
          obtain rfl : s = t := by omega
          have HB1 := Lib.hid hbw
          clear hbw hb hC
          go_wp2
          go_roundg (xs.length - (s + 1))
          case measure => omega
          case rel =>
            refine ⟨s + 1, by omega, by omega, by go_num, HB1.out, (show Aside _ from fun j hj => ?_)⟩
            rcases Nat.lt_or_ge j s with e | e
            · exact HA.out j e
            · obtain rfl : j = s := by omega
              exact HC.out
    · have hltz : ¬ (t : Int) < (xs.length : Int) := by omega
      obtain rfl : t = xs.length := by omega
      have hfin : brk xs ys = none := brk_none HA.out
      have hso := HO.out.2.2.2.1
      have hbr1 := (HB.out.block (w.heap.size + 1 + 1) (by omega)).trans HO.out.2.2.1
      have c5 : wr.cell? ⟨w.heap.size + 1 + 1, 0, none⟩ = some (.int .i64 0) := by rw [cell_of_row wr _ 0 _ _ _ hbr1]; rfl
      have c6 : wr.cell? ⟨w.heap.size + 1 + 1, 1, none⟩ = some (.int .i64 0) := by rw [cell_of_row wr _ 1 _ _ _ hbr1]; rfl
      have f5 : wr.frozen? ⟨w.heap.size + 1 + 1, 0, none⟩ = false := frozen_of_row wr _ 0 _ _ hbr1
      have f6 : wr.frozen? ⟨w.heap.size + 1 + 1, 1, none⟩ = false := frozen_of_row wr _ 1 _ _ hbr1
      have HF := Lib.hid hfin
      clear hfin hbr1 hso
      go_wp2
      refine bodyPost_ret (v := .tuple #[.agg #[.int .i64 0, .int .i64 0], .bool false]) (by simp [results, Try.results100, go_sem, c5, c6]) rfl ⟨by rw [HF.out]; rfl, ?_⟩
      exact (HO.out.2.2.2.2.trans (HB.out.mono (by omega))).setCell (by show w.heap.size ≤ w.heap.size + 1 + 1; omega) _ |>.setCell (by show w.heap.size ≤ w.heap.size + 1 + 1; omega) _
end Go.Proofs.Ytknkneccnhgjmaa
namespace Go.Proofs.Ytknkneccnhgjmaa
open Go.RowKit Go.Shelf

/-- Three boxed curves. -/
def w3b (w : World) (A1 A2 A3 : Option Addr) (n1 c1 n2 c2 n3 c3 : Nat) : World := ((w.alloc (.cells #[.slice A1 n1 c1] 26)).alloc (.cells #[.slice A2 n2 c2] 26)).alloc (.cells #[.slice A3 n3 c3] 26)
theorem w3b_below (w : World) (A1 A2 A3 : Option Addr) (n1 c1 n2 c2 n3 c3 : Nat) : Below w.heap.size w (w3b w A1 A2 A3 n1 c1 n2 c2 n3 c3) := (((Below.refl _ w).alloc (Nat.le_refl _) _).alloc (by simp) _).alloc (by simp; omega) _
theorem w3b_size (w : World) (A1 A2 A3 : Option Addr) (n1 c1 n2 c2 n3 c3 : Nat) : (w3b w A1 A2 A3 n1 c1 n2 c2 n3 c3).heap.size = w.heap.size + 1 + 1 + 1 := by simp [w3b]
/-- What is known of a world behind three boxed curves. -/
structure In3 (w w1 : World) (A1 A2 A3 : Option Addr) (xs ys zs : List Int) : Prop where
  r1 : Rd w1 w1.heap.size A1 xs
  r2 : Rd w1 w1.heap.size A2 ys
  r3 : Rd w1 w1.heap.size A3 zs
  below : Below w.heap.size w w1
  size : w.heap.size + 1 + 1 < w1.heap.size
theorem w3b_after {w w1 : World} {A1 A2 A3 : Option Addr} {c1 c2 c3 : Nat} {xs ys zs : List Int} (r1 : Rd w w.heap.size A1 xs) (r2 : Rd w w.heap.size A2 ys) (r3 : Rd w w.heap.size A3 zs) (hb : Below (w.heap.size + 1 + 1 + 1) (w3b w A1 A2 A3 xs.length c1 ys.length c2 zs.length c3) w1) :
    w1.cell? ⟨w.heap.size, 0, none⟩ = some (.slice A1 xs.length c1) ∧ w1.cell? ⟨w.heap.size + 1, 0, none⟩ = some (.slice A2 ys.length c2) ∧ w1.cell? ⟨w.heap.size + 1 + 1, 0, none⟩ = some (.slice A3 zs.length c3) ∧ In3 w w1 A1 A2 A3 xs ys zs := by
  obtain ⟨rc, rf⟩ := bcell hb
  have h0 := w3b_below w A1 A2 A3 xs.length c1 ys.length c2 zs.length c3
  have hs := w3b_size w A1 A2 A3 xs.length c1 ys.length c2 zs.length c3
  have h1 : Below w.heap.size w w1 := h0.trans (hb.mono (by omega))
  have := hb.size
  exact ⟨by rw [rc _ _ (by omega)]; simp [w3b, go_sem], by rw [rc _ _ (by omega)]; simp [w3b, go_sem], by rw [rc _ _ (by omega)]; simp [w3b, go_sem], ⟨r1.ext h1, r2.ext h1, r3.ext h1, h1, by omega⟩⟩

def failAt (xs ys low : List Int) (t : Nat) : Bool := decide (nth xs t < nth ys t) || decide (nth ys t < nth low t)
def failsI (xs ys zs : List Int) : Int := firstIdx (failAt xs ys (leastL xs zs)) xs.length
theorem leastL_length (xs ys : List Int) : (leastL xs ys).length = xs.length := tab_length _ _
theorem eg122 : ∀ args w, (callFunc 122 args).run Try.prog w = .ok (.enter 122 args) w := enters_of Try.func122 (by kernel_rfl) rfl

set_option maxRecDepth 100000 in
set_option maxHeartbeats 800000 in
theorem fails_any (A1 A2 A3 : Option Addr) (c1 c2 c3 : Nat) (xs ys zs : List Int) (w : World) (r1 : Rd w w.heap.size A1 xs) (r2 : Rd w w.heap.size A2 ys) (r3 : Rd w w.heap.size A3 zs)
    (h1 : 1 ≤ xs.length) (h2 : xs.length ≤ 121) (h3 : ys.length = xs.length) (h4 : zs.length = xs.length) (sx : Small xs) (sz : Small zs) :
    Calls Try.prog 101 #[.agg #[.slice A1 xs.length c1], .agg #[.slice A2 ys.length c2], .agg #[.slice A3 zs.length c3]] w fun e w' => e = .returned (.int .i64 (failsI xs ys zs)) ∧ Below w.heap.size w w' := by
  have hb0 := w3b_below w A1 A2 A3 xs.length c1 ys.length c2 zs.length c3
  have hs0 := w3b_size w A1 A2 A3 xs.length c1 ys.length c2 zs.length c3
  have hl := least_any A1 A3 c1 c3 xs zs (w3b w A1 A2 A3 xs.length c1 ys.length c2 zs.length c3) (r1.ext hb0) (r3.ext hb0) h1 h2 h4 sx sz
  have H := Lib.hid (And.intro hl (And.intro r1 (And.intro r2 (And.intro r3 (And.intro h3 (And.intro h4 hs0))))))
  clear hb0 hs0 hl r1 r2 r3 h3 h4 sx sz
  go_enter Try.func101, Try.ntmps101
  go_upto_region 2 with (go_at_call 89; refine H.out.1.mono ?_; rintro e w1 ⟨A, c, rfl, hrd, hfr, hb⟩; obtain ⟨p1, p2, p3, HI⟩ := w3b_after H.out.2.1 H.out.2.2.1 H.out.2.2.2.1 (hb.mono (Nat.le_of_eq H.out.2.2.2.2.2.2.symm)); have HL := Lib.hid hrd; clear hrd hfr hb)
  have hw2 : Below w1.heap.size w1 (w1.alloc (.cells #[.slice A (leastL xs zs).length c] 26)) := (Below.refl _ w1).alloc (Nat.le_refl _) _
  have hx : Held (w1.alloc (.cells #[.slice A (leastL xs zs).length c] 26)) w.heap.size 0 xs := ⟨by have := HI.size; simp; omega, A1, c1, by rw [World.cell?_alloc_past _ _ _ (by have := HI.size; omega)]; exact p1, HI.r1.ext hw2⟩
  have hy : Held (w1.alloc (.cells #[.slice A (leastL xs zs).length c] 26)) (w.heap.size + 1) 0 ys := ⟨by have := HI.size; simp; omega, A2, c2, by rw [World.cell?_alloc_past _ _ _ (by have := HI.size; omega)]; exact p2, HI.r2.ext hw2⟩
  have hz : Held (w1.alloc (.cells #[.slice A (leastL xs zs).length c] 26)) w1.heap.size 0 (leastL xs zs) := ⟨by simp, A, c, by simp [go_sem], HL.out.ext hw2⟩
  have q1 : (w1.alloc (.cells #[.slice A (leastL xs zs).length c] 26)).cell? ⟨w.heap.size, 0, none⟩ = some (.slice A1 xs.length c1) := by rw [World.cell?_alloc_past _ _ _ (by have := HI.size; omega)]; exact p1
  have hst := steps_any A1 c1 xs (w1.alloc (.cells #[.slice A (leastL xs zs).length c] 26)) (by omega)
  have hwb := HI.below.trans (hw2.mono HI.below.size)
  have HW := Lib.hid (And.intro hst (And.intro hx (And.intro hy (And.intro hz hwb))))
  clear hw2 hx hy hz p1 p2 p3 hst hwb
  go_wp2_with (go_at_call 75; refine HW.out.1.mono ?_; rintro e w3 ⟨A', c', rfl, hrd, hfr, hb⟩; have HL3 := Lib.hid (And.intro hrd hb); clear hrd hfr hb)
  refine (indexFunc_any 122 #[] #[.pointer (some ⟨w.heap.size, 0, none⟩), .pointer (some ⟨w.heap.size + 1, 0, none⟩), .pointer (some ⟨w1.heap.size, 0, none⟩)] eg122 A' c' (upto xs.length) (failAt xs ys (leastL xs zs)) w3 HL3.out.1 (by rw [upto_length]; omega) ?_).mono ?_
  · intro i W hi hW
    rw [upto_length] at hi
    have hb := HL3.out.2.trans (hW.mono HL3.out.2.size)
    have := fails1_any i w.heap.size (w.heap.size + 1) w1.heap.size xs ys (leastL xs zs) W (HW.out.2.1.below hb) (HW.out.2.2.1.below hb) (HW.out.2.2.2.1.below hb) hi (by rw [H.out.2.2.2.2.1]; exact hi) (by rw [leastL_length]; exact hi)
    rw [nth_upto hi]
    exact this
  · rintro e w4 ⟨rfl, hb4⟩
    rw [upto_length]
    have HF := Lib.hid (HW.out.2.2.2.2.trans ((HL3.out.2.trans (hb4.mono HL3.out.2.size)).mono HW.out.2.2.2.2.size))
    clear hb4
    go_wp2
    go_ret
    exact ⟨rfl, HF.out⟩
end Go.Proofs.Ytknkneccnhgjmaa
namespace Go.Proofs.Ytknkneccnhgjmaa
open Go.RowKit Go.Shelf

def ok3 (xs ys zs : List Int) : Bool := validB xs && validB ys && decide (ys.length = xs.length) && validB zs && decide (zs.length = xs.length)
theorem ok3_iff {xs ys zs : List Int} : ok3 xs ys zs = true ↔ Valid xs ∧ Valid ys ∧ ys.length = xs.length ∧ Valid zs ∧ zs.length = xs.length := by
  unfold ok3; simp only [Bool.and_eq_true, decide_eq_true_eq, validB_iff]
  exact ⟨fun ⟨⟨⟨⟨a, b⟩, c⟩, d⟩, e⟩ => ⟨a, b, c, d, e⟩, fun ⟨a, b, c, d, e⟩ => ⟨⟨⟨⟨a, b⟩, c⟩, d⟩, e⟩⟩
theorem rightB_three (A1 A2 A3 : Option Addr) (c1 c2 c3 : Nat) (xs ys zs : List Int) : rightB [⟨A1, c1, xs⟩, ⟨A2, c2, ys⟩, ⟨A3, c3, zs⟩] = ok3 xs ys zs := by
  simp [rightB, rightAt, ok3, List.range_succ, Bool.and_assoc]

theorem right3 (A1 A2 A3 : Option Addr) (c1 c2 c3 : Nat) (xs ys zs : List Int) (w : World) (r1 : Rd w w.heap.size A1 xs) (r2 : Rd w w.heap.size A2 ys) (r3 : Rd w w.heap.size A3 zs) (m1 : xs.length ≤ maxLen) (m2 : ys.length ≤ maxLen) (m3 : zs.length ≤ maxLen) :
    Calls Try.prog 78 #[.slice (some ⟨w.heap.size, 0, none⟩) 3 3] (w.alloc (.cells #[.slice A1 xs.length c1, .slice A2 ys.length c2, .slice A3 zs.length c3] 26)) fun e w' => e = .returned (.int .i64 (errB (ok3 xs ys zs))) ∧ Below w.heap.size w w' := by
  have hb : Below w.heap.size w (w.alloc (.cells #[.slice A1 xs.length c1, .slice A2 ys.length c2, .slice A3 zs.length c3] 26)) := (Below.refl _ w).alloc (Nat.le_refl _) _
  have h : RdC (w.alloc (.cells #[.slice A1 xs.length c1, .slice A2 ys.length c2, .slice A3 zs.length c3] 26)) (w.alloc (.cells #[.slice A1 xs.length c1, .slice A2 ys.length c2, .slice A3 zs.length c3] 26)).heap.size (some ⟨w.heap.size, 0, none⟩) [⟨A1, c1, xs⟩, ⟨A2, c2, ys⟩, ⟨A3, c3, zs⟩] := by
    refine ⟨fun _ => ⟨_, _, rfl, by simp, fun i hi => ?_⟩, fun i hi => ?_⟩
    · match i, hi with
      | 0, _ => simp [go_sem, Cv.v]
      | 1, _ => simp [go_sem, Cv.v]
      | 2, _ => simp [go_sem, Cv.v]
    · match i, hi with
      | 0, _ => exact r1.ext hb
      | 1, _ => exact r2.ext hb
      | 2, _ => exact r3.ext hb
  have hc := right_any (some ⟨w.heap.size, 0, none⟩) 3 [⟨A1, c1, xs⟩, ⟨A2, c2, ys⟩, ⟨A3, c3, zs⟩] _ h (by simp) (fun i hi => by
    match i, hi with
    | 0, _ => exact m1
    | 1, _ => exact m2
    | 2, _ => exact m3)
  rw [rightB_three] at hc
  exact hc.mono fun e w' ⟨he, hb'⟩ => ⟨he, hb.trans (hb'.mono (by simp))⟩

/-- Served: the step, whether there is none, the error. -/
def servedN (xs ys zs : List Int) : Int := if ok3 xs ys zs then (if 0 ≤ failsI xs ys zs then failsI xs ys zs else 0) else 0
def servedB (xs ys zs : List Int) : Bool := ok3 xs ys zs && decide (failsI xs ys zs < 0)

set_option maxRecDepth 100000 in
set_option maxHeartbeats 800000 in
theorem Served_any (A1 A2 A3 : Option Addr) (c1 c2 c3 : Nat) (xs ys zs : List Int) (w : World) (r1 : Rd w w.heap.size A1 xs) (r2 : Rd w w.heap.size A2 ys) (r3 : Rd w w.heap.size A3 zs) (m1 : xs.length ≤ maxLen) (m2 : ys.length ≤ maxLen) (m3 : zs.length ≤ maxLen) :
    Calls Try.prog 36 #[.agg #[.slice A1 xs.length c1], .agg #[.slice A2 ys.length c2], .agg #[.slice A3 zs.length c3]] w fun e w' => e = .returned (.tuple #[.int .i64 (servedN xs ys zs), .bool (servedB xs ys zs), .int .i64 (errB (ok3 xs ys zs))]) ∧ Below w.heap.size w w' := by
  have hb0 := w3b_below w A1 A2 A3 xs.length c1 ys.length c2 zs.length c3
  have hr := right3 A1 A2 A3 c1 c2 c3 xs ys zs (w3b w A1 A2 A3 xs.length c1 ys.length c2 zs.length c3) (r1.ext hb0) (r2.ext hb0) (r3.ext hb0) m1 m2 m3
  rw [w3b_size] at hr
  cases hv : ok3 xs ys zs
  · have hN : servedN xs ys zs = 0 := by simp [servedN, hv]
    have hB : servedB xs ys zs = false := by simp [servedB, hv]
    rw [hv] at hr
    rw [hN, hB]
    simp only [errB_f] at hr ⊢
    have HR := Lib.hid (And.intro hr (And.intro r1 (And.intro r2 r3)))
    clear hr r1 r2 r3 hb0 hv hN hB
    go_enter Try.func36, Try.ntmps36
    go_wp2_with (go_at_call 78; refine HR.out.1.mono ?_; rintro e w1 ⟨rfl, hb⟩; obtain ⟨p1, p2, p3, HI⟩ := w3b_after HR.out.2.1 HR.out.2.2.1 HR.out.2.2.2 hb)
    go_ret3
    exact ⟨rfl, HI.below⟩
  · have ⟨v1, v2, h3, v3, h4⟩ := ok3_iff.1 hv
    have hN : servedN xs ys zs = if 0 ≤ failsI xs ys zs then failsI xs ys zs else 0 := by simp [servedN, hv]
    have hB : servedB xs ys zs = decide (failsI xs ys zs < 0) := by simp [servedB, hv]
    rw [hv] at hr
    rw [hN, hB]
    simp only [errB_t] at hr ⊢
    have HR := Lib.hid (And.intro hr (And.intro r1 (And.intro r2 (And.intro r3 (And.intro v1 (And.intro h3 (And.intro v3 h4)))))))
    have hf := fun (W : World) (hW : In3 w W A1 A2 A3 xs ys zs) => fails_any A1 A2 A3 c1 c2 c3 xs ys zs W hW.r1 hW.r2 hW.r3 v1.1 v1.2.1 h3 h4 v1.small v3.small
    have HF := Lib.hid hf
    clear hr r1 r2 r3 hb0 hv hN hB v1 v2 v3 h3 h4 hf
    generalize failsI xs ys zs = r at *
    by_cases hr : 0 ≤ r
    all_goals
      have Hr := Lib.hid hr
      go_enter Try.func36, Try.ntmps36
      go_wp2_with (first | (go_at_call 78; refine HR.out.1.mono ?_; rintro e w1 ⟨rfl, hb⟩; obtain ⟨p1, p2, p3, HI⟩ := w3b_after HR.out.2.1 HR.out.2.2.1 HR.out.2.2.2.1 hb) | (go_at_call 101; refine (HF.out _ HI).mono ?_; rintro e w2 ⟨rfl, hb2⟩))
      go_ret3
      refine ⟨?_, HI.below.trans (hb2.mono HI.below.size)⟩
      have := Hr.out
      simp [this]
      try omega
end Go.Proofs.Ytknkneccnhgjmaa
