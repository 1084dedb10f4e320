/- Walks: right. -/
import Derived.Test.YtknkneccnhgjmaaA9
namespace Go.Proofs.Ytknkneccnhgjmaa
open Go.RowKit Go.Shelf

/-- A curve as it stands: where it lies, its capacity, its numbers. -/
structure Cv where
  A : Option Addr
  c : Nat
  xs : List Int
instance : Inhabited Cv := ⟨⟨none, 0, []⟩⟩
def Cv.v (e : Cv) : Value := .slice e.A e.xs.length e.c

/-- The slice '.slice A cs.length c' reads as the curves cs, and lies below B. -/
def RdC (w : World) (B : Nat) (A : Option Addr) (cs : List Cv) : Prop :=
  (0 < cs.length → ∃ b off, A = some ⟨b, off, none⟩ ∧ b < B ∧ ∀ i, i < cs.length → w.cell? ⟨b, off + i, none⟩ = some (cs[i]!.v)) ∧ ∀ i, i < cs.length → Rd w B cs[i]!.A cs[i]!.xs

theorem RdC.ext {w w' : World} {A : Option Addr} {cs : List Cv} (h : RdC w w.heap.size A cs) (hb : Below w.heap.size w w') : RdC w' w'.heap.size A cs :=
  ⟨fun hn => by
    obtain ⟨b, off, e, hl, hc⟩ := h.1 hn
    exact ⟨b, off, e, Nat.lt_of_lt_of_le hl hb.size, fun i hi => (hb.cell (p := ⟨b, off + i, none⟩) hl).trans (hc i hi)⟩, fun i hi => (h.2 i hi).ext hb⟩

def rightAt (cs : List Cv) (i : Nat) : Bool := validB cs[i]!.xs && decide (cs[i]!.xs.length = cs[0]!.xs.length)
def rightB (cs : List Cv) : Bool := (List.range cs.length).all (rightAt cs)
theorem rightB_true {cs : List Cv} (h : ∀ i, i < cs.length → rightAt cs i = true) : rightB cs = true := by
  unfold rightB; rw [List.all_eq_true]; intro i hi; exact h i (by simpa using hi)
theorem rightB_false {cs : List Cv} {i : Nat} (hi : i < cs.length) (h : rightAt cs i = false) : rightB cs = false := by
  cases hb : rightB cs
  · rfl
  · unfold rightB at hb; rw [List.all_eq_true] at hb
    rw [hb i (by simpa using hi)] at h; cases h

set_option maxRecDepth 100000 in
set_option maxHeartbeats 800000 in
theorem right_any (A : Option Addr) (c : Nat) (cs : List Cv) (w : World) (h : RdC w w.heap.size A cs) (hm : cs.length ≤ 1000000) (hl : ∀ i, i < cs.length → cs[i]!.xs.length ≤ maxLen) :
    Calls Try.prog 78 #[.slice A cs.length c] w fun e w' => e = .returned (.int .i64 (errB (rightB cs))) ∧ Below w.heap.size w w' := by
  go_enter Try.func78, Try.ntmps78
  go_wp2
  go_loopg [7] cs.length (fun gg i wr => ∃ t : Nat, t ≤ cs.length ∧ cs.length - t ≤ gg ∧ i = .int .i64 t ∧ Aside (Below w.heap.size w wr) ∧ Aside (∀ j, j < t → rightAt cs j = true))
  case atStart => exact ⟨0, Nat.zero_le _, by omega, rfl, Below.refl _ _, fun j hj => absurd hj (Nat.not_lt_zero _)⟩
  case round =>
    obtain ⟨t, ht, hg, rfl, hb, hA⟩ := hrel
    by_cases hlt : t < cs.length
    · have hltz : (t : Int) < (cs.length : Int) := by omega
      have hw := h.ext hb.out
      have hlen := hl t hlt
      have hlen0 := hl 0 (by omega)
      obtain ⟨b, off, rfl, lb, hc⟩ := hw.1 (by omega)
      have k0 := hc 0 (by omega)
      rw [Nat.add_zero] at k0
      have k1 := hc t hlt
      have r1 := hw.2 t hlt
      unfold Cv.v at k0 k1
      have HA : Hid (∀ v, rightAt cs t = v → v = (validB cs[t]!.xs && decide (cs[t]!.xs.length = cs[0]!.xs.length))) := fun v hv => by rw [← hv]; rfl
      have lb1 : b < wr.heap.size + 1 := by omega
      have hb' := Lib.hid hb.out
      have hA' := Lib.hid hA.out
      have R1 := Lib.hid r1
      clear hc hw h hl hb hA r1
      unfold maxLen at hlen hlen0
      generalize cs[t]! = E at *
      generalize cs[0]! = E0 at *
      have H8 := Lib.hid (show E.xs.length ≤ maxLen by unfold maxLen; omega)
      cases hv : validB E.xs
      · have HV := Lib.hid hv
        clear hv
        go_wp2
        refine wp_region_ext (by kernel_rfl) (by kernel_rfl) ?_
        intro ι _ X hX hC
        have rX := fun k => (bcell (hX k)).1
        have C1 : ∀ k, Calls Try.prog 23 #[.agg #[.slice E.A E.xs.length E.c]] (X k) fun e w' => e = .returned (.int .i64 1) ∧ Below (X k).heap.size (X k) w' := fun k => by
          have := check_any E.A E.c E.xs (X k) ((R1.out.ext ((Below.refl _ _).alloc (Nat.le_refl _) _)).ext (hX k)) H8.out
          rw [HV.out] at this
          exact this
        have HC := Lib.hid C1
        clear C1
        repeat (first | go_big_quiet_skip | (go_big_quiet_want; go_big_quiet_op; first | go_big_quiet_on | (apply Exists.intro; refine ⟨fun _ => ?_, ?_⟩; (focus (go_at_call 23; exact Calls.ext_of hX hC (HC.out _))); go_big_quiet_on)))
        refine wpQuiet_nil ?_
        intro w1 hb1
        clear rX hX hC
        go_wp2
        go_ret
        refine ⟨?_, hb'.out.trans ((((Below.refl _ wr).alloc (Nat.le_refl _) _).trans (hb1.mono (by simp))).mono hb'.out.size)⟩
        rw [rightB_false hlt (HA.out _ rfl |>.trans (by rw [HV.out]; rfl))]
        rfl
      · have HV := Lib.hid hv
        clear hv
        have C0 : ∀ (W : World), Below wr.heap.size wr W → Calls Try.prog 23 #[.agg #[.slice E.A E.xs.length E.c]] W fun e w' => e = .returned (.int .i64 0) ∧ Below W.heap.size W w' := fun W hW => by
          have := check_any E.A E.c E.xs W (R1.out.ext hW) H8.out
          rw [HV.out] at this
          exact this
        have HC := Lib.hid C0
        clear C0
        by_cases hq : E.xs.length = E0.xs.length
        · have hq1 : ((E.xs.length : Int) != (E0.xs.length : Int)) = false := by simp [hq]
          have HQ := Lib.hid hq
          clear hq
          go_wp2
          refine wp_region_ext (by kernel_rfl) (by kernel_rfl) ?_
          intro ι _ X hX hC
          have rX := fun k => (bcell (hX k)).1
          have hXX : ∀ k, Below wr.heap.size wr (X k) := fun k => ((Below.refl _ wr).alloc (Nat.le_refl _) _).trans ((hX k).mono (by simp))
          have HX := Lib.hid hXX
          clear hXX
          repeat (first | go_big_quiet_skip | (go_big_quiet_want; go_big_quiet_op; first | go_big_quiet_on | (apply Exists.intro; refine ⟨fun _ => ?_, ?_⟩; (focus (go_at_call 23; exact Calls.ext_of hX hC (HC.out _ (HX.out _)))); go_big_quiet_on)))
          refine wpQuiet_nil ?_
          intro w1 hb1
          clear rX hX hC
          go_wp2
          go_roundg (cs.length - (t + 1))
          case measure => omega
          case rel =>
            refine ⟨t + 1, by omega, by omega, by go_num, hb'.out.trans ((((Below.refl _ wr).alloc (Nat.le_refl _) _).trans (hb1.mono (by simp))).mono hb'.out.size), (show Aside _ from fun j hj => ?_)⟩
            rcases Nat.lt_or_ge j t with e | e
            · exact hA'.out j e
            · obtain rfl : j = t := by omega
              exact (HA.out _ rfl).trans (by rw [HV.out, HQ.out]; simp)
        · have hq1 : ((E.xs.length : Int) != (E0.xs.length : Int)) = true := by rw [bne_iff_ne]; omega
          have HQ := Lib.hid hq
          clear hq
          go_wp2
          refine wp_region_ext (by kernel_rfl) (by kernel_rfl) ?_
          intro ι _ X hX hC
          have rX := fun k => (bcell (hX k)).1
          have hXX : ∀ k, Below wr.heap.size wr (X k) := fun k => ((Below.refl _ wr).alloc (Nat.le_refl _) _).trans ((hX k).mono (by simp))
          have HX := Lib.hid hXX
          clear hXX
          repeat (first | go_big_quiet_skip | (go_big_quiet_want; go_big_quiet_op; first | go_big_quiet_on | (apply Exists.intro; refine ⟨fun _ => ?_, ?_⟩; (focus (go_at_call 23; exact Calls.ext_of hX hC (HC.out _ (HX.out _)))); go_big_quiet_on)))
          refine wpQuiet_nil ?_
          intro w1 hb1
          clear rX hX hC
          go_wp2
          go_ret
          refine ⟨?_, hb'.out.trans ((((Below.refl _ wr).alloc (Nat.le_refl _) _).trans (hb1.mono (by simp))).mono hb'.out.size)⟩
          rw [rightB_false hlt ((HA.out _ rfl).trans (by rw [HV.out]; simpa using HQ.out))]
          rfl
    · have hltz : ¬ (t : Int) < (cs.length : Int) := by omega
      obtain rfl : t = cs.length := by omega
      go_wp2
      go_ret
      refine ⟨?_, hb.out⟩
      rw [rightB_true hA.out]
      rfl
end Go.Proofs.Ytknkneccnhgjmaa
