/- Walk: CheckBacklog. -/
import Derived.Test.YtknkneccnhgjmaaF4
namespace Go.Proofs.Ytknkneccnhgjmaa
open Go.RowKit Go.Shelf

theorem ok3_eq (xs ys zs : List Int) : ok3 xs ys zs = ok3' xs ys zs := by
  unfold ok3 ok3' ok2
  cases validB xs <;> cases validB ys <;> cases validB zs <;> simp
theorem brk_bool (o : Option (Nat × Nat)) : o.isNone = !o.isSome := by cases o <;> rfl

set_option maxRecDepth 100000 in
set_option maxHeartbeats 8000000 in
theorem fcheckB_any (A1 A2 A3 A4 : Option Addr) (c1 c2 c3 c4 : Nat) (xs ys zs us : List Int) (n p : Int) (w : World) (r1 : Rd w w.heap.size A1 xs) (r2 : Rd w w.heap.size A2 ys) (r3 : Rd w w.heap.size A3 zs) (r4 : Rd w w.heap.size A4 us)
    (m1 : xs.length ≤ maxLen) (m2 : ys.length ≤ maxLen) (m3 : zs.length ≤ maxLen) (m4 : us.length ≤ maxLen) :
    Calls Try.prog 35 #[.agg #[.slice A1 xs.length c1], .agg #[.slice A2 ys.length c2], .int .i64 n, .agg #[.slice A3 zs.length c3, .slice A4 us.length c4, .int .i64 p]] w fun e w' => e = .returned (.int .i64 (cbE xs ys n zs us p)) ∧ Below w.heap.size w w' := by
  have hK := w2h_known (c1 := c1) (c2 := c2) (c3 := c3) (c4 := c4) (p := p) r1 r2 r3 r4
  have hB := fun W (h : InH w W A1 A2 A3 A4 c1 c2 c3 c4 xs ys zs us p) => right2 A1 A2 c1 c2 xs ys W h.r1 h.r2 m1 m2
  have hT := fun W (h : InH w W A1 A2 A3 A4 c1 c2 c3 c4 xs ys zs us p) => right3 A1 A3 A4 c1 c3 c4 xs zs us W h.r1 h.r3 h.r4 m1 m3 m4
  rw [ok3_eq] at hT
  have HC := Lib.hid (And.intro hK (And.intro hB hT))
  have p1 := hK.p1
  have p2 := hK.p2
  clear r1 r2 r3 r4 hK hB hT
  cases hv : ok2 xs ys with
  | false =>
    have hE : cbE xs ys n zs us p = 1 := by simp [cbE, hv]
    have HE := Lib.hid (And.intro hE hv)
    clear hE hv
    go_enter Try.func35, Try.ntmps35
    go_upto_region 1 with fail
    change Code.wp _ _ _ _ (w2h w A1 A2 A3 A4 xs.length c1 ys.length c2 zs.length c3 us.length c4 p)
    generalize w2h w A1 A2 A3 A4 xs.length c1 ys.length c2 zs.length c3 us.length c4 p = w0 at *
    go_upto_region 2 with (go_at_call 78; refine (HC.out.2.1 _ HC.out.1).mono ?_; rw [HE.out.2, errB_f]; rintro e w1 ⟨rfl, hb⟩; have HI := Lib.hid (HC.out.1.ext hb); clear hb)
    go_wp2
    go_ret
    exact ⟨by rw [HE.out.1]; rfl, HI.out.bl⟩
  | true =>
  have ⟨v1, v2, hl2⟩ := ok2_iff.1 hv
  cases hv3 : ok3' xs zs us with
  | false =>
    have hE : cbE xs ys n zs us p = 8 := cb_not hv (by simp [cbB, hv3])
    have HE := Lib.hid (And.intro hE (And.intro hv hv3))
    clear hE hv hv3 v1 v2 hl2
    go_enter Try.func35, Try.ntmps35
    go_upto_region 1 with fail
    change Code.wp _ _ _ _ (w2h w A1 A2 A3 A4 xs.length c1 ys.length c2 zs.length c3 us.length c4 p)
    generalize w2h w A1 A2 A3 A4 xs.length c1 ys.length c2 zs.length c3 us.length c4 p = w0 at *
    go_upto_region 2 with (go_at_call 78; refine (HC.out.2.1 _ HC.out.1).mono ?_; rw [HE.out.2.1, errB_t]; rintro e w1 ⟨rfl, hb⟩; have HI := Lib.hid (HC.out.1.ext hb); obtain ⟨t1, s0, s1⟩ := And.intro HI.out.p1 (And.intro HI.out.s0 HI.out.s1); clear hb)
    go_wp2_with (go_at_call 78; refine (HC.out.2.2 w1 HI.out).mono ?_; rw [HE.out.2.2, errB_f]; rintro e w2 ⟨rfl, hb⟩; have HI2 := Lib.hid (HI.out.ext hb); clear hb)
    go_ret
    exact ⟨by rw [HE.out.1]; rfl, HI2.out.bl⟩
  | true =>
  have hok3 : ok2 xs zs = true ∧ ok2 xs us = true := by unfold ok3' at hv3; simpa using hv3
  have ⟨_, v3, hl3⟩ := ok2_iff.1 hok3.1
  have ⟨_, v4, hl4⟩ := ok2_iff.1 hok3.2
  have hl1 := v1.1
  have h121 := v1.2.1
  have h0z : (0 : Int) < (zs.length : Int) := by omega
  have HV := Lib.hid (And.intro (And.intro hv hv3) (And.intro v1 (And.intro v2 (And.intro v3 v4))))
  have HL := Lib.hid (And.intro hl2 (And.intro hl3 hl4))
  clear hv hv3 v1 v2 v3 v4 hl2 hl3 hl4 hok3
  by_cases hz : nth zs 0 = 0
  rotate_left
  · have hE : cbE xs ys n zs us p = 8 := cb_not HV.out.1.1 (by simp [cbB, hz])
    have HE := Lib.hid hE
    have hzb : (nth zs 0 != 0) = true := by simpa using hz
    clear hE hz
    go_enter Try.func35, Try.ntmps35
    go_upto_region 1 with fail
    change Code.wp _ _ _ _ (w2h w A1 A2 A3 A4 xs.length c1 ys.length c2 zs.length c3 us.length c4 p)
    generalize w2h w A1 A2 A3 A4 xs.length c1 ys.length c2 zs.length c3 us.length c4 p = w0 at *
    go_upto_region 2 with (go_at_call 78; refine (HC.out.2.1 _ HC.out.1).mono ?_; rw [HV.out.1.1, errB_t]; rintro e w1 ⟨rfl, hb⟩; have HI := Lib.hid (HC.out.1.ext hb); obtain ⟨t1, s0, s1⟩ := And.intro HI.out.p1 (And.intro HI.out.s0 HI.out.s1); clear hb)
    go_wp2_with (go_at_call 78; refine (HC.out.2.2 w1 HI.out).mono ?_; rw [HV.out.1.2, errB_t]; rintro e w2 ⟨rfl, hb⟩; have HI2 := Lib.hid (HI.out.ext hb); obtain ⟨b3, o3, hA3, lb3, hc3⟩ := HI2.out.r3 (by have := HL.out.2.1; omega); subst hA3; have k0 := hc3 0 (by have := HL.out.2.1; omega); rw [Nat.add_zero] at k0; have x0 := HI2.out.s0; clear hb hc3)
    go_ret
    exact ⟨by rw [HE.out]; rfl, HI2.out.bl⟩
  cases hw : withinB p 0 ((xs.length : Int) - 1) with
  | false =>
    have hE : cbE xs ys n zs us p = 8 := cb_not HV.out.1.1 (by simp [cbB, hw])
    have HE := Lib.hid (And.intro hE (And.intro hz hw))
    have m1' := m1
    unfold maxLen at m1'
    clear hE hz hw
    go_enter Try.func35, Try.ntmps35
    go_upto_region 1 with fail
    change Code.wp _ _ _ _ (w2h w A1 A2 A3 A4 xs.length c1 ys.length c2 zs.length c3 us.length c4 p)
    generalize w2h w A1 A2 A3 A4 xs.length c1 ys.length c2 zs.length c3 us.length c4 p = w0 at *
    go_upto_region 2 with (go_at_call 78; refine (HC.out.2.1 _ HC.out.1).mono ?_; rw [HV.out.1.1, errB_t]; rintro e w1 ⟨rfl, hb⟩; have HI := Lib.hid (HC.out.1.ext hb); obtain ⟨t1, s0, s1⟩ := And.intro HI.out.p1 (And.intro HI.out.s0 HI.out.s1); clear hb)
    go_wp2_with (first
      | (go_at_call 78; refine (HC.out.2.2 w1 HI.out).mono ?_; rw [HV.out.1.2, errB_t]; rintro e w2 ⟨rfl, hb⟩; have HI2 := Lib.hid (HI.out.ext hb); obtain ⟨b3, o3, hA3, lb3, hc3⟩ := HI2.out.r3 (by have := HL.out.2.1; omega); subst hA3; have k0 := hc3 0 (by have := HL.out.2.1; omega); rw [Nat.add_zero, HE.out.2.1] at k0; have x0 := HI2.out.s0; have x2 := HI2.out.s2; have x1 := HI2.out.p1; clear hb hc3)
      | (go_at_call 69; refine (within_any _ _ _ _).mono ?_; rw [HE.out.2.2]; rintro e w' ⟨rfl, rfl⟩))
    go_ret
    exact ⟨by rw [HE.out.1]; rfl, HI2.out.bl⟩
  | true =>
  have hp : 0 ≤ p ∧ p ≤ (xs.length : Int) - 1 := by unfold withinB at hw; rwa [decide_eq_true_eq] at hw
  obtain ⟨m, rfl⟩ : ∃ m : Nat, p = (m : Int) := ⟨p.toNat, by omega⟩
  have hm : m < xs.length := by omega
  have hbr := fun W (h : InH w W A1 A2 A3 A4 c1 c2 c3 c4 xs ys zs us m) => breaks_any A3 A1 c3 c1 zs xs W h.r3 h.r1 HV.out.2.2.2.1.1 (by have := HV.out.2.2.2.1.2.1; omega) HL.out.2.1.symm HV.out.2.2.2.1.small
  have hfa := fun W (h : InH w W A1 A2 A3 A4 c1 c2 c3 c4 xs ys zs us m) => fails_any A3 A4 A2 c3 c4 c2 zs us ys W h.r3 h.r4 h.r2 HV.out.2.2.2.1.1 HV.out.2.2.2.1.2.1 (by have := HL.out; omega) (by have := HL.out; omega) HV.out.2.2.2.1.small HV.out.2.2.1.small
  have hcE : cbE xs ys n zs us m = if (!(brk zs xs).isSome && decide (failsI zs us ys < 0) && decide (nth zs m - nth us m = n)) then 0 else 8 := by
    simp [cbE, HV.out.1.1, cbB, HV.out.1.2, hw, hz, servedOk]
  have HE := Lib.hid (And.intro (And.intro hz hw) (And.intro hbr hfa))
  have HX := Lib.hid hcE
  have m1' := m1
  unfold maxLen at m1'
  clear hz hw hbr hfa hcE hp
  generalize brkLo (brk zs xs) = lo at *
  generalize brkHi (brk zs xs) = hi at *
  generalize (brk zs xs).isSome = bo at *
  generalize failsI zs us ys = fi at *
  go_enter Try.func35, Try.ntmps35
  go_upto_region 1 with fail
  change Code.wp _ _ _ _ (w2h w A1 A2 A3 A4 xs.length c1 ys.length c2 zs.length c3 us.length c4 m)
  generalize w2h w A1 A2 A3 A4 xs.length c1 ys.length c2 zs.length c3 us.length c4 m = w0 at *
  go_upto_region 2 with (go_at_call 78; refine (HC.out.2.1 _ HC.out.1).mono ?_; rw [HV.out.1.1, errB_t]; rintro e w1 ⟨rfl, hb⟩; have HI := Lib.hid (HC.out.1.ext hb); obtain ⟨t1, s0, s1⟩ := And.intro HI.out.p1 (And.intro HI.out.s0 HI.out.s1); clear hb)
  go_upto_region 6 with (first
    | (go_at_call 78; refine (HC.out.2.2 w1 HI.out).mono ?_; rw [HV.out.1.2, errB_t]; rintro e w2 ⟨rfl, hb⟩; have HI2 := Lib.hid (HI.out.ext hb); obtain ⟨b3, o3, hA3, lb3, hc3⟩ := HI2.out.r3 (by have := HL.out.2.1; omega); subst hA3; have k0 := hc3 0 (by have := HL.out.2.1; omega); rw [Nat.add_zero, HE.out.1.1] at k0; have x0 := HI2.out.s0; have x2 := HI2.out.s2; have x1 := HI2.out.p1; clear hb hc3)
    | (go_at_call 69; refine (within_any _ _ _ _).mono ?_; rw [HE.out.1.2]; rintro e w' ⟨rfl, rfl⟩))
  clear t1 s0 s1 p1 p2 k0 lb3
  go_upto_region 7 with (go_at_call 100; refine (HE.out.2.1 w2 HI2.out).mono ?_; rintro e w3 ⟨rfl, hb3⟩)
  have hw4 : Below w3.heap.size w3 (w3.alloc (.cells #[.int .i64 lo, .int .i64 hi] 73)) := (Below.refl _ w3).alloc (Nat.le_refl _) _
  have hI4 := HI2.out.ext (hb3.trans (hw4.mono hb3.size))
  generalize hg4 : w3.alloc (.cells #[.int .i64 lo, .int .i64 hi] 73) = w4 at *
  clear hg4 hw4 hb3 x0 x1 x2 HI2
  have hlz := HL.out.2.1
  have hlu := HL.out.2.2
  have s0 := hI4.s0
  have s1 := hI4.s1
  have s2 := hI4.s2
  have p2 := hI4.p2
  have l6 := hI4.lt
  have HBL := Lib.hid hI4
  clear hI4
  obtain ⟨b3', o3', e3, lb3, hc3⟩ := HBL.out.r3 (by omega)
  simp only [Option.some.injEq, Addr.mk.injEq, and_true] at e3
  obtain ⟨rfl, rfl⟩ := e3
  obtain ⟨b4, o4, hA4, lb4, hc4⟩ := HBL.out.r4 (by omega)
  have k1 := hc3 m (by omega)
  have k2 := hc4 m (by omega)
  subst hA4
  have hmz : (m : Int) < (zs.length : Int) := by omega
  have hmu : (m : Int) < (us.length : Int) := by omega
  obtain ⟨n1, n2⟩ := HV.out.2.2.2.1.bd m
  obtain ⟨n3, n4⟩ := HV.out.2.2.2.2.bd m
  have l5 : w.heap.size + 1 < w4.heap.size := by omega
  clear hc3 hc4 hlz hlu m1' h0z
  have hX2 := HX.out
  generalize nth zs m = q1 at *
  generalize nth us m = q2 at *
  have hwr : IntKind.i64.wrap (q1 - q2) = q1 - q2 := by rw [IntKind.wrap_i64]; omega
  cases bo with
  | true =>
    have HEE := Lib.hid (show cbE xs ys n zs us m = 8 by rw [hX2]; rfl)
    clear hX2
    refine wp_region_ext (by kernel_rfl) (by kernel_rfl) ?_
    intro ι _ X hX hC
    have rX := fun k => (bcell (hX k)).1
    repeat (first | go_big_quiet_skip | (go_big_quiet_want; go_big_quiet_op; first | go_big_quiet_on | (apply Exists.intro; refine ⟨fun _ => ?_, ?_⟩; (focus (fail)); go_big_quiet_on)))
    refine wpQuiet_nil ?_
    intro w1 hb1
    clear rX hX hC
    have HB := Lib.hid (HBL.out.bl.trans (hb1.mono HBL.out.bl.size))
    clear hb1
    go_wp2
    go_ret
    exact ⟨by rw [HEE.out]; rfl, HB.out⟩
  | false =>
  by_cases hfi : 0 ≤ fi
  · have HEE := Lib.hid (show cbE xs ys n zs us m = 8 by rw [hX2]; simp; omega)
    have hd : decide (0 ≤ fi) = true := decide_eq_true hfi
    clear hX2
    refine wp_region_ext (by kernel_rfl) (by kernel_rfl) ?_
    intro ι _ X hX hC
    have rX := fun k => (bcell (hX k)).1
    repeat (first | go_big_quiet_skip | (go_big_quiet_want; go_big_quiet_op; first | go_big_quiet_on | (apply Exists.intro; refine ⟨fun _ => ?_, ?_⟩; (focus (go_at_call 101; exact Calls.ext_of hX hC (HE.out.2.2 _ (HBL.out.ext (hX _))))); go_big_quiet_on)))
    refine wpQuiet_nil ?_
    intro w1 hb1
    clear rX hX hC
    have HB := Lib.hid (HBL.out.bl.trans (hb1.mono HBL.out.bl.size))
    clear hb1
    go_wp2
    go_ret
    exact ⟨by rw [HEE.out]; rfl, HB.out⟩
  have hd : decide (0 ≤ fi) = false := decide_eq_false hfi
  by_cases hq : q1 - q2 = n
  · have HEE := Lib.hid (show cbE xs ys n zs us m = 0 by rw [hX2]; simp [hq]; omega)
    have hdn : (q1 - q2 != n) = false := by simpa using hq
    clear hX2 hq
    refine wp_region_ext (by kernel_rfl) (by kernel_rfl) ?_
    intro ι _ X hX hC
    have rX := fun k => (bcell (hX k)).1
    repeat (first | go_big_quiet_skip | (go_big_quiet_want; go_big_quiet_op; first | go_big_quiet_on | (apply Exists.intro; refine ⟨fun _ => ?_, ?_⟩; (focus (go_at_call 101; exact Calls.ext_of hX hC (HE.out.2.2 _ (HBL.out.ext (hX _))))); go_big_quiet_on)))
    refine wpQuiet_nil ?_
    intro w1 hb1
    clear rX hX hC
    have HB := Lib.hid (HBL.out.bl.trans (hb1.mono HBL.out.bl.size))
    clear hb1
    go_wp2
    go_ret
    exact ⟨by rw [HEE.out]; rfl, HB.out⟩
  · have HEE := Lib.hid (show cbE xs ys n zs us m = 8 by rw [hX2]; simp [hq])
    have hdn : (q1 - q2 != n) = true := by simpa using hq
    clear hX2 hq
    refine wp_region_ext (by kernel_rfl) (by kernel_rfl) ?_
    intro ι _ X hX hC
    have rX := fun k => (bcell (hX k)).1
    repeat (first | go_big_quiet_skip | (go_big_quiet_want; go_big_quiet_op; first | go_big_quiet_on | (apply Exists.intro; refine ⟨fun _ => ?_, ?_⟩; (focus (go_at_call 101; exact Calls.ext_of hX hC (HE.out.2.2 _ (HBL.out.ext (hX _))))); go_big_quiet_on)))
    refine wpQuiet_nil ?_
    intro w1 hb1
    clear rX hX hC
    have HB := Lib.hid (HBL.out.bl.trans (hb1.mono HBL.out.bl.size))
    clear hb1
    go_wp2
    go_ret
    exact ⟨by rw [HEE.out]; rfl, HB.out⟩
end Go.Proofs.Ytknkneccnhgjmaa
