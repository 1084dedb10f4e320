/- Walks: the reference's CheckBacklog. -/
import Derived.Test.YtknkneccnhgjmaaD7
namespace Go.Proofs.Ytknkneccnhgjmaa
open Go.RowKit Go.Shelf

/-- Two boxed curves and a boxed surge. -/
def w2h (w : World) (A1 A2 A3 A4 : Option Addr) (n1 c1 n2 c2 n3 c3 n4 c4 : Nat) (p : Int) : World := (w2b w A1 A2 n1 c1 n2 c2).alloc (.cells #[.slice A3 n3 c3, .slice A4 n4 c4, .int .i64 p] 45)
structure InH (w W : World) (A1 A2 A3 A4 : Option Addr) (c1 c2 c3 c4 : Nat) (xs ys zs us : List Int) (p : Int) : Prop where
  p1 : W.cell? ⟨w.heap.size, 0, none⟩ = some (.slice A1 xs.length c1)
  p2 : W.cell? ⟨w.heap.size + 1, 0, none⟩ = some (.slice A2 ys.length c2)
  s0 : W.cell? ⟨w.heap.size + 1 + 1, 0, none⟩ = some (.slice A3 zs.length c3)
  s1 : W.cell? ⟨w.heap.size + 1 + 1, 1, none⟩ = some (.slice A4 us.length c4)
  s2 : W.cell? ⟨w.heap.size + 1 + 1, 2, none⟩ = some (.int .i64 p)
  r1 : Rd W W.heap.size A1 xs
  r2 : Rd W W.heap.size A2 ys
  r3 : Rd W W.heap.size A3 zs
  r4 : Rd W W.heap.size A4 us
  bl : Below w.heap.size w W
  lt : w.heap.size + 1 + 1 < W.heap.size
theorem InH.ext {w w1 w2 : World} {A1 A2 A3 A4 : Option Addr} {c1 c2 c3 c4 : Nat} {xs ys zs us : List Int} {p : Int} (h : InH w w1 A1 A2 A3 A4 c1 c2 c3 c4 xs ys zs us p) (hb : Below w1.heap.size w1 w2) : InH w w2 A1 A2 A3 A4 c1 c2 c3 c4 xs ys zs us p := by
  have hlt := h.lt
  exact ⟨(hb.cell (p := ⟨w.heap.size, 0, none⟩) (show w.heap.size < _ by omega)).trans h.p1, (hb.cell (p := ⟨w.heap.size + 1, 0, none⟩) (show w.heap.size + 1 < _ by omega)).trans h.p2,
    (hb.cell (p := ⟨w.heap.size + 1 + 1, 0, none⟩) hlt).trans h.s0, (hb.cell (p := ⟨w.heap.size + 1 + 1, 1, none⟩) hlt).trans h.s1, (hb.cell (p := ⟨w.heap.size + 1 + 1, 2, none⟩) hlt).trans h.s2,
    h.r1.ext hb, h.r2.ext hb, h.r3.ext hb, h.r4.ext hb, h.bl.trans (hb.mono h.bl.size), Nat.lt_of_lt_of_le hlt hb.size⟩
theorem w2h_known {w : World} {A1 A2 A3 A4 : Option Addr} {c1 c2 c3 c4 : Nat} {xs ys zs us : List Int} {p : Int} (r1 : Rd w w.heap.size A1 xs) (r2 : Rd w w.heap.size A2 ys) (r3 : Rd w w.heap.size A3 zs) (r4 : Rd w w.heap.size A4 us) :
    InH w (w2h w A1 A2 A3 A4 xs.length c1 ys.length c2 zs.length c3 us.length c4 p) A1 A2 A3 A4 c1 c2 c3 c4 xs ys zs us p := by
  have hs2 := w2b_size w A1 A2 xs.length c1 ys.length c2
  have hb : Below w.heap.size w (w2h w A1 A2 A3 A4 xs.length c1 ys.length c2 zs.length c3 us.length c4 p) := (w2b_below w A1 A2 xs.length c1 ys.length c2).alloc (by rw [hs2]; omega) _
  have hq : (w2h w A1 A2 A3 A4 xs.length c1 ys.length c2 zs.length c3 us.length c4 p).heap[w.heap.size + 1 + 1]? = some (.cells #[.slice A3 zs.length c3, .slice A4 us.length c4, .int .i64 p] 45 (0, 0)) := by
    have := heap_alloc_new (w2b w A1 A2 xs.length c1 ys.length c2) (.cells #[.slice A3 zs.length c3, .slice A4 us.length c4, .int .i64 p] 45)
    rwa [hs2] at this
  obtain ⟨z0, z1, z2, _⟩ := three_cells hq
  exact ⟨by simp [w2h, w2b, go_sem], by simp [w2h, w2b, go_sem], z0, z1, z2, r1.ext hb, r2.ext hb, r3.ext hb, r4.ext hb, hb, by simp [w2h, w2b]⟩

def cbB (xs ys : List Int) (n : Int) (zs us : List Int) (p : Int) : Bool := ok3' xs zs us && withinB p 0 ((xs.length : Int) - 1) && (brk zs xs).isNone && servedOk zs us ys && decide (nth zs 0 = 0) && decide (nth zs p.toNat - nth us p.toNat = n)
def cbE (xs ys : List Int) (n : Int) (zs us : List Int) (p : Int) : Int := if ok2 xs ys then (if cbB xs ys n zs us p then 0 else 8) else 1
theorem cb_not {xs ys : List Int} {n : Int} {zs us : List Int} {p : Int} (h : ok2 xs ys = true) (h2 : cbB xs ys n zs us p = false) : cbE xs ys n zs us p = 8 := by simp [cbE, h, h2]

set_option maxRecDepth 100000 in
set_option maxHeartbeats 3200000 in
theorem rcheckB_any (A1 A2 A3 A4 : Option Addr) (c1 c2 c3 c4 : Nat) (xs ys zs us : List Int) (n p : Int) (w : World) (r1 : Rd w w.heap.size A1 xs) (r2 : Rd w w.heap.size A2 ys) (r3 : Rd w w.heap.size A3 zs) (r4 : Rd w w.heap.size A4 us)
    (m1 : xs.length ≤ maxLen) (m2 : ys.length ≤ maxLen) (m3 : zs.length ≤ maxLen) (m4 : us.length ≤ maxLen) :
    Calls Try.prog 34 #[.agg #[.slice A1 xs.length c1], .agg #[.slice A2 ys.length c2], .int .i64 n, .agg #[.slice A3 zs.length c3, .slice A4 us.length c4, .int .i64 p]] w fun e w' => e = .returned (.int .i64 (cbE xs ys n zs us p)) ∧ Below w.heap.size w w' := by
  have hK := w2h_known (c1 := c1) (c2 := c2) (c3 := c3) (c4 := c4) (p := p) r1 r2 r3 r4
  have hB := fun W (h : InH w W A1 A2 A3 A4 c1 c2 c3 c4 xs ys zs us p) => Both_any A1 A2 c1 c2 xs ys W h.r1 h.r2 m1 m2
  have hT := fun W (h : InH w W A1 A2 A3 A4 c1 c2 c3 c4 xs ys zs us p) => three_any A1 A3 A4 c1 c3 c4 xs zs us W h.r1 h.r3 h.r4 m1 m3 m4
  have HC := Lib.hid (And.intro hK (And.intro hB hT))
  clear r1 r2 r3 r4 hK hB hT
  cases hv : ok2 xs ys with
  | false =>
    have hE : cbE xs ys n zs us p = 1 := by simp [cbE, hv]
    have HE := Lib.hid (And.intro hE hv)
    clear hE hv
    go_enter Try.func34, Try.ntmps34
    go_upto_region 2 with (go_at_call 93; refine (HC.out.2.1 _ HC.out.1).mono ?_; rw [HE.out.2, errB_f]; rintro e w1 ⟨rfl, hb⟩; have HI := Lib.hid (HC.out.1.ext hb); clear hb)
    go_wp2
    go_ret
    exact ⟨by rw [HE.out.1]; rfl, HI.out.bl⟩
  | true =>
  have ⟨v1, v2, hl2⟩ := ok2_iff.1 hv
  cases hv3 : ok3' xs zs us with
  | false =>
    have hE : cbE xs ys n zs us p = 8 := cb_not hv (by simp [cbB, hv3])
    have HE := Lib.hid (And.intro hE (And.intro hv hv3))
    clear hE hv hv3 v1 v2 hl2
    go_enter Try.func34, Try.ntmps34
    go_upto_region 2 with (go_at_call 93; refine (HC.out.2.1 _ HC.out.1).mono ?_; rw [HE.out.2.1, errB_t]; rintro e w1 ⟨rfl, hb⟩; have HI := Lib.hid (HC.out.1.ext hb); obtain ⟨p1, s0, s1⟩ := And.intro HI.out.p1 (And.intro HI.out.s0 HI.out.s1); clear hb)
    go_wp2_with (go_at_call 97; refine (HC.out.2.2 w1 HI.out).mono ?_; rw [HE.out.2.2, errB_f]; rintro e w2 ⟨rfl, hb⟩; have HI2 := Lib.hid (HI.out.ext hb); clear hb)
    go_ret
    exact ⟨by rw [HE.out.1]; rfl, HI2.out.bl⟩
  | true =>
  cases hw : withinB p 0 ((xs.length : Int) - 1) with
  | false =>
    have hE : cbE xs ys n zs us p = 8 := cb_not hv (by simp [cbB, hw])
    have hl1 := v1.1
    have HE := Lib.hid (And.intro hE (And.intro hv hv3))
    clear hE hv hv3 v1 v2 hl2
    have m1' := m1
    unfold maxLen at m1'
    go_enter Try.func34, Try.ntmps34
    go_upto_region 2 with (go_at_call 93; refine (HC.out.2.1 _ HC.out.1).mono ?_; rw [HE.out.2.1, errB_t]; rintro e w1 ⟨rfl, hb⟩; have HI := Lib.hid (HC.out.1.ext hb); obtain ⟨p1, s0, s1⟩ := And.intro HI.out.p1 (And.intro HI.out.s0 HI.out.s1); clear hb)
    go_wp2_with (first
      | (go_at_call 97; refine (HC.out.2.2 w1 HI.out).mono ?_; rw [HE.out.2.2, errB_t]; rintro e w2 ⟨rfl, hb⟩; have HI2 := Lib.hid (HI.out.ext hb); obtain ⟨t1, t2⟩ := And.intro HI2.out.p1 HI2.out.s2; clear hb)
      | (go_at_call 77; refine (in_any _ _ _ _).mono ?_; rw [hw]; rintro e w' ⟨rfl, rfl⟩))
    go_ret
    exact ⟨by rw [HE.out.1]; rfl, HI2.out.bl⟩
  | true =>
  have hok3 : ok2 xs zs = true ∧ ok2 xs us = true := by unfold ok3' at hv3; simpa using hv3
  have ⟨_, v3, hl3⟩ := ok2_iff.1 hok3.1
  have ⟨_, v4, hl4⟩ := ok2_iff.1 hok3.2
  have hp : 0 ≤ p ∧ p ≤ (xs.length : Int) - 1 := by unfold withinB at hw; rwa [decide_eq_true_eq] at hw
  obtain ⟨m, rfl⟩ : ∃ m : Nat, p = (m : Int) := ⟨p.toNat, by omega⟩
  have hm : m < xs.length := by omega
  have hob := fun W (h : InH w W A1 A2 A3 A4 c1 c2 c3 c4 xs ys zs us m) => robeys_any A3 A1 c3 c1 zs xs W h.r3 h.r1 v3.1 (by have := v3.2.1; omega) (by omega) v3.small (v1.bd 0).1
  have hse := fun W (h : InH w W A1 A2 A3 A4 c1 c2 c3 c4 xs ys zs us m) => rserved_any A3 A4 A2 c3 c4 c2 zs us ys W h.r3 h.r4 h.r2 (by have := v3.2.1; omega) (by omega) (by omega) v3.small v2.small
  have hcb : cbB xs ys n zs us m = ((brk zs xs).isNone && servedOk zs us ys && decide (nth zs 0 = 0) && decide (nth zs m - nth us m = n)) := by simp [cbB, hv3, hw]
  have hcE : cbE xs ys n zs us m = if cbB xs ys n zs us m then 0 else 8 := by simp [cbE, hv]
  rw [hcb] at hcE
  generalize (brk zs xs).isNone = bo at *
  generalize servedOk zs us ys = bs at *
  have hl1 := v1.1
  have m1' := m1
  unfold maxLen at m1'
  have HE := Lib.hid (And.intro hcE (And.intro hv (And.intro hv3 (And.intro hob (And.intro hse (And.intro (And.intro v3 v4) (And.intro hl3 hl4)))))))
  clear hcE hv hv3 v1 v2 v3 v4 hl2 hl3 hl4 hob hse hok3 hcb
  go_enter Try.func34, Try.ntmps34
  go_upto_region 2 with (go_at_call 93; refine (HC.out.2.1 _ HC.out.1).mono ?_; rw [HE.out.2.1, errB_t]; rintro e w1 ⟨rfl, hb⟩; have HI := Lib.hid (HC.out.1.ext hb); obtain ⟨p1, s0, s1⟩ := And.intro HI.out.p1 (And.intro HI.out.s0 HI.out.s1); clear hb)
  go_upto_region 6 with (first
    | (go_at_call 97; refine (HC.out.2.2 w1 HI.out).mono ?_; rw [HE.out.2.2.1, errB_t]; rintro e w2 ⟨rfl, hb⟩; have HI2 := Lib.hid (HI.out.ext hb); obtain ⟨t1, t2, t3⟩ := And.intro HI2.out.p1 (And.intro HI2.out.s2 HI2.out.s0); clear hb)
    | (go_at_call 77; refine (in_any _ _ _ _).mono ?_; rw [hw]; rintro e w' ⟨rfl, rfl⟩))
  clear p1 s0 s1
  go_upto_region 7 with (go_at_call 98; refine (HE.out.2.2.2.1 w2 HI2.out).mono ?_; rintro e w3 ⟨rfl, hb3⟩)
  generalize brkLo (brk zs xs) = lo at *
  generalize brkHi (brk zs xs) = hi at *
  have hw4 : Below w3.heap.size w3 (w3.alloc (.cells #[.int .i64 lo, .int .i64 hi, .bool bo, .int .i64 0] 77)) := (Below.refl _ w3).alloc (Nat.le_refl _) _
  have hI4 := HI2.out.ext (hb3.trans (hw4.mono hb3.size))
  have u1 : (w3.alloc (.cells #[.int .i64 lo, .int .i64 hi, .bool bo, .int .i64 0] 77)).cell? ⟨w3.heap.size, 2, none⟩ = some (.bool bo) := by simp [go_sem]
  have u2 : w3.heap.size < (w3.alloc (.cells #[.int .i64 lo, .int .i64 hi, .bool bo, .int .i64 0] 77)).heap.size := by simp
  generalize hg4 : w3.alloc (.cells #[.int .i64 lo, .int .i64 hi, .bool bo, .int .i64 0] 77) = w4 at *
  generalize hgg : w3.heap.size = g1 at *
  have HI4 := Lib.hid (And.intro hI4 (And.intro u1 u2))
  obtain ⟨a1, a2, a3⟩ := And.intro hI4.s0 (And.intro hI4.s1 hI4.p2)
  clear hg4 hgg hw4 hI4 u1 u2 hb3 t1 t2 t3 w2 HI2
  go_upto_region 8 with (go_at_call 99; refine (HE.out.2.2.2.2.1 w4 HI4.out.1).mono ?_; rintro e w5 ⟨rfl, hb5⟩)
  generalize servedI zs us ys = N at *
  have hw6 : Below w5.heap.size w5 (w5.alloc (.cells #[.int .i64 N, .bool bs, .int .i64 0] 58)) := (Below.refl _ w5).alloc (Nat.le_refl _) _
  have hB6 := hb5.trans (hw6.mono hb5.size)
  have hI6 := HI4.out.1.ext hB6
  have u1 := (hB6.cell (p := ⟨g1, 2, none⟩) HI4.out.2.2).trans HI4.out.2.1
  have u2 := Nat.lt_of_lt_of_le HI4.out.2.2 hB6.size
  have u3 : (w5.alloc (.cells #[.int .i64 N, .bool bs, .int .i64 0] 58)).cell? ⟨w5.heap.size, 1, none⟩ = some (.bool bs) := by simp [go_sem]
  have u4 : w5.heap.size < (w5.alloc (.cells #[.int .i64 N, .bool bs, .int .i64 0] 58)).heap.size := by simp
  generalize hg6 : w5.alloc (.cells #[.int .i64 N, .bool bs, .int .i64 0] 58) = w6 at *
  generalize hgg : w5.heap.size = g2 at *
  have hlz := HE.out.2.2.2.2.2.2.1
  have hlu := HE.out.2.2.2.2.2.2.2
  obtain ⟨b3, o3, rfl, lb3, hc3⟩ := hI6.r3 (by omega)
  obtain ⟨b4, o4, rfl, lb4, hc4⟩ := hI6.r4 (by omega)
  have k0 := hc3 0 (by omega)
  rw [Nat.add_zero] at k0
  have k1 := hc3 m (by omega)
  have k2 := hc4 m (by omega)
  have s0 := hI6.s0
  have s1 := hI6.s1
  have s2 := hI6.s2
  have l6 := hI6.lt
  have hbl := hI6.bl
  have hmz : (m : Int) < (zs.length : Int) := by omega
  have hmu : (m : Int) < (us.length : Int) := by omega
  have h0z : (0 : Int) < (zs.length : Int) := by omega
  obtain ⟨n1, n2⟩ := HE.out.2.2.2.2.2.1.1.bd m
  obtain ⟨n3, n4⟩ := HE.out.2.2.2.2.2.1.2.bd m
  have hEE := HE.out.1
  have HBL := Lib.hid hbl
  clear hg6 hgg hw6 hB6 hb5 hI6 hc3 hc4 hlz hlu HI4 a1 a2 a3 HE HC hbl m1 m2 m3 m4 m1'
  generalize nth zs 0 = q0 at *
  generalize nth zs m = q1 at *
  generalize nth us m = q2 at *
  cases bo with
  | false =>
    have HEE := Lib.hid (show cbE xs ys n zs us m = 8 by rw [hEE]; rfl)
    clear hEE
    refine wp_region_ext (by kernel_rfl) (by kernel_rfl) ?_
    intro ι _ X hX hC
    have rX := fun k => (bcell (hX k)).1
    repeat (first | go_big_quiet_skip | (go_big_quiet_want; go_big_quiet_op; first | go_big_quiet_on | (apply Exists.intro; refine ⟨fun _ => ?_, ?_⟩; (focus (fail)); go_big_quiet_on)))
    refine wpQuiet_nil ?_
    intro w1 hb1
    clear rX hX hC
    have HB := Lib.hid (HBL.out.trans (hb1.mono HBL.out.size))
    clear hb1
    go_wp2
    go_ret
    exact ⟨by rw [HEE.out]; rfl, HB.out⟩
  | true =>
  cases bs with
  | false =>
    have HEE := Lib.hid (show cbE xs ys n zs us m = 8 by rw [hEE]; rfl)
    clear hEE
    refine wp_region_ext (by kernel_rfl) (by kernel_rfl) ?_
    intro ι _ X hX hC
    have rX := fun k => (bcell (hX k)).1
    repeat (first | go_big_quiet_skip | (go_big_quiet_want; go_big_quiet_op; first | go_big_quiet_on | (apply Exists.intro; refine ⟨fun _ => ?_, ?_⟩; (focus (fail)); go_big_quiet_on)))
    refine wpQuiet_nil ?_
    intro w1 hb1
    clear rX hX hC
    have HB := Lib.hid (HBL.out.trans (hb1.mono HBL.out.size))
    clear hb1
    go_wp2
    go_ret
    exact ⟨by rw [HEE.out]; rfl, HB.out⟩
  | true =>
  by_cases hq0 : q0 = 0
  · subst hq0
    by_cases hd : q1 - q2 = n
    · have HEE := Lib.hid (show cbE xs ys n zs us m = 0 by rw [hEE, decide_eq_true hd]; rfl)
      clear hEE
      refine wp_region_ext (by kernel_rfl) (by kernel_rfl) ?_
      intro ι _ X hX hC
      have rX := fun k => (bcell (hX k)).1
      repeat (first | go_big_quiet_skip | (go_big_quiet_want; go_big_quiet_op; first | go_big_quiet_on | (apply Exists.intro; refine ⟨fun _ => ?_, ?_⟩; (focus (fail)); go_big_quiet_on)))
      refine wpQuiet_nil ?_
      intro w1 hb1
      clear rX hX hC
      have HB := Lib.hid (HBL.out.trans (hb1.mono HBL.out.size))
      clear hb1
      go_wp2
      go_ret
      exact ⟨by rw [HEE.out]; rfl, HB.out⟩
    · have HEE := Lib.hid (show cbE xs ys n zs us m = 8 by rw [hEE, decide_eq_false hd]; rfl)
      clear hEE
      refine wp_region_ext (by kernel_rfl) (by kernel_rfl) ?_
      intro ι _ X hX hC
      have rX := fun k => (bcell (hX k)).1
      repeat (first | go_big_quiet_skip | (go_big_quiet_want; go_big_quiet_op; first | go_big_quiet_on | (apply Exists.intro; refine ⟨fun _ => ?_, ?_⟩; (focus (fail)); go_big_quiet_on)))
      refine wpQuiet_nil ?_
      intro w1 hb1
      clear rX hX hC
      have HB := Lib.hid (HBL.out.trans (hb1.mono HBL.out.size))
      clear hb1
      go_wp2
      go_ret
      exact ⟨by rw [HEE.out]; rfl, HB.out⟩
  · have HEE := Lib.hid (show cbE xs ys n zs us m = 8 by rw [hEE, decide_eq_false hq0]; rfl)
    clear hEE
    refine wp_region_ext (by kernel_rfl) (by kernel_rfl) ?_
    intro ι _ X hX hC
    have rX := fun k => (bcell (hX k)).1
    have hq1 : (q0 != 0) = true := by simpa using hq0
    repeat (first | go_big_quiet_skip | (go_big_quiet_want; go_big_quiet_op; first | go_big_quiet_on | (apply Exists.intro; refine ⟨fun _ => ?_, ?_⟩; (focus (fail)); go_big_quiet_on)))
    refine wpQuiet_nil ?_
    intro w1 hb1
    clear rX hX hC
    have HB := Lib.hid (HBL.out.trans (hb1.mono HBL.out.size))
    clear hb1
    go_wp2
    go_ret
    exact ⟨by rw [HEE.out]; rfl, HB.out⟩
end Go.Proofs.Ytknkneccnhgjmaa
