/- Walks: the specification's right. -/
import Derived.Test.YtdadoelajhemjaaC4
namespace Go.Proofs.Ytdadoelajhemjaa
open Go.RowKit Go.Shelf

def lastI (ps : List Int) (t : Nat) : Int := if t = 0 then -1 else nth ps (t - 1)
theorem lastI_succ (ps : List Int) (t : Nat) : lastI ps (t + 1) = nth ps t := by unfold lastI; rw [if_neg (by omega), Nat.add_sub_cancel]
theorem last_inc {ps : List Int} {t : Nat} (h : ∀ j, j < t → incAt ps j = true) : (incAt ps t = true ↔ lastI ps t < nth ps t ∧ nth ps t ≤ 1048576) := by
 unfold lastI
 by_cases h0 : t = 0
 ·subst h0
  unfold incAt withinB
  simp
  omega
 ·rw [if_neg h0]
  have hp := h (t - 1) (by omega)
  have h1 : 0 ≤ nth ps (t - 1) := by
   unfold incAt withinB at hp
   simp only [Bool.and_eq_true, decide_eq_true_eq] at hp
   omega
  unfold incAt withinB
  simp [h0]
  omega
set_option maxRecDepth 100000 in
set_option maxHeartbeats 3200000 in
theorem rRight_any (A : Option Addr) (c n k : Nat) (o : Ot) (w : World) (h : Rd w w.heap.size o.P o.ps) (hp : o.ps.length ≤ 1000) :
  Calls Try.prog 126 #[.agg #[.slice A n c], .int .i64 k, o.v] w fun e w' => e = .returned (.bool (rightB n k o)) ∧ Below w.heap.size w w' := by
 have hR : rightB n k o = (withinB o.id 1 1099511627776 && (!(o.into != -1) || withinB o.into ((k : Int) + 1) ((n : Int) - 1)) && withinB (o.ps.length : Int) 1 8 && spanB o.kl o.kh 1048576 && spanB o.sl o.sh 1048576 && incB o.ps) := rfl
 rw [hR]
 clear hR
 show Calls _ _ #[.agg #[.slice A n c], .int .i64 k, .agg #[.int .i64 o.id, .int .i64 o.into, .slice o.P o.ps.length o.c, .int .i64 o.kl, .int .i64 o.kh, .int .i64 o.sl, .int .i64 o.sh]] _ _
 have hb : Below w.heap.size w ((w.alloc (.cells #[.slice A n c] 24)).alloc (.cells #[.int .i64 o.id, .int .i64 o.into, .slice o.P o.ps.length o.c, .int .i64 o.kl, .int .i64 o.kh, .int .i64 o.sl, .int .i64 o.sh] 42)) := ((Below.refl _ w).alloc (Nat.le_refl _) _).alloc (by simp) _
 have K := Lib.hid (((stays_bl hb).and (stays_blk (blk_alloc (blk_new w #[.slice A n c] 24 rfl) _))).and (stays_blk (g := w.heap.size + 1) (blk_new (w.alloc (.cells #[.slice A n c] 24)) #[.int .i64 o.id, .int .i64 o.into, .slice o.P o.ps.length o.c, .int .i64 o.kl, .int .i64 o.kh, .int .i64 o.sl, .int .i64 o.sh] 42 (by simp))))
 have HP := Lib.hid (fun W (hb : Below w.heap.size w W) => h.ext hb)
 clear hb h
 obtain ⟨b1, hb1⟩ : ∃ b, withinB o.id 1 1099511627776 = b := ⟨_, rfl⟩
 obtain ⟨b2, hb2⟩ : ∃ b, spanB o.kl o.kh 1048576 = b := ⟨_, rfl⟩
 obtain ⟨b3, hb3⟩ : ∃ b, spanB o.sl o.sh 1048576 = b := ⟨_, rfl⟩
 rw [hb1, hb2, hb3]
 have B1 := Lib.hid hb1
 have B2 := Lib.hid hb2
 have B3 := Lib.hid hb3
 clear hb1 hb2 hb3
 by_cases h1 : b1 = false
 ·subst h1
  rw [show (false && (!(o.into != -1) || withinB o.into ((k : Int) + 1) ((n : Int) - 1)) && withinB (o.ps.length : Int) 1 8 && b2 && b3 && incB o.ps) = false from by simp]
  go_enter Try.func126, Try.ntmps126
  go_upto_region 1 with fail
  generalize (w.alloc (.cells #[.slice A n c] 24)).alloc (.cells #[.int .i64 o.id, .int .i64 o.into, .slice o.P o.ps.length o.c, .int .i64 o.kl, .int .i64 o.kh, .int .i64 o.sl, .int .i64 o.sh] 42) = W0 at *
  have p0 := cr 0 K.out.1.1.2
  have q0 := cr 0 K.out.1.2
  have q1 := cr 1 K.out.1.2
  have q2 := cr 2 K.out.1.2
  have q3 := cr 3 K.out.1.2
  have q4 := cr 4 K.out.1.2
  have q5 := cr 5 K.out.1.2
  have q6 := cr 6 K.out.1.2
  go_upto_region 2 with (go_at_call 110; refine (rWithin_any _ _ _ _).mono ?_; rw [B1.out]; rintro e w1 ⟨rfl, hb⟩; have K1 := Lib.hid (K.out.on hb); clear hb)
  clear p0 q0 q1 q2 q3 q4 q5 q6
  have p0 := cr 0 K1.out.1.1.2
  have q0 := cr 0 K1.out.1.2
  have q1 := cr 1 K1.out.1.2
  have q2 := cr 2 K1.out.1.2
  have q3 := cr 3 K1.out.1.2
  have q4 := cr 4 K1.out.1.2
  have q5 := cr 5 K1.out.1.2
  have q6 := cr 6 K1.out.1.2
  go_upto_region 3 with (go_at_call 137; refine (rFlows_any _ _ _).mono ?_; rw [B2.out]; rintro e w2 ⟨rfl, hb⟩; have K2 := Lib.hid (K1.out.on hb); clear hb)
  clear p0 q0 q1 q2 q3 q4 q5 q6
  have p0 := cr 0 K2.out.1.1.2
  have q0 := cr 0 K2.out.1.2
  have q1 := cr 1 K2.out.1.2
  have q2 := cr 2 K2.out.1.2
  have q3 := cr 3 K2.out.1.2
  have q4 := cr 4 K2.out.1.2
  have q5 := cr 5 K2.out.1.2
  have q6 := cr 6 K2.out.1.2
  go_upto_region 4 with (go_at_call 137; refine (rFlows_any _ _ _).mono ?_; rw [B3.out]; rintro e w3 ⟨rfl, hb⟩; have K3 := Lib.hid (K2.out.on hb); clear hb)
  clear p0 q0 q1 q2 q3 q4 q5 q6 B1 B2 B3
  have p0 := cr 0 K3.out.1.1.2
  have q0 := cr 0 K3.out.1.2
  have q1 := cr 1 K3.out.1.2
  have q2 := cr 2 K3.out.1.2
  have q3 := cr 3 K3.out.1.2
  have q4 := cr 4 K3.out.1.2
  have q5 := cr 5 K3.out.1.2
  have q6 := cr 6 K3.out.1.2
  go_wp2
  go_ret
  exact ⟨rfl, K3.out.1.1.1⟩
 obtain rfl : b1 = true := by simpa using h1
 by_cases h2 : b2 = false
 ·subst h2
  rw [show (true && (!(o.into != -1) || withinB o.into ((k : Int) + 1) ((n : Int) - 1)) && withinB (o.ps.length : Int) 1 8 && false && b3 && incB o.ps) = false from by simp]
  go_enter Try.func126, Try.ntmps126
  go_upto_region 1 with fail
  generalize (w.alloc (.cells #[.slice A n c] 24)).alloc (.cells #[.int .i64 o.id, .int .i64 o.into, .slice o.P o.ps.length o.c, .int .i64 o.kl, .int .i64 o.kh, .int .i64 o.sl, .int .i64 o.sh] 42) = W0 at *
  have p0 := cr 0 K.out.1.1.2
  have q0 := cr 0 K.out.1.2
  have q1 := cr 1 K.out.1.2
  have q2 := cr 2 K.out.1.2
  have q3 := cr 3 K.out.1.2
  have q4 := cr 4 K.out.1.2
  have q5 := cr 5 K.out.1.2
  have q6 := cr 6 K.out.1.2
  go_upto_region 2 with (go_at_call 110; refine (rWithin_any _ _ _ _).mono ?_; rw [B1.out]; rintro e w1 ⟨rfl, hb⟩; have K1 := Lib.hid (K.out.on hb); clear hb)
  clear p0 q0 q1 q2 q3 q4 q5 q6
  have p0 := cr 0 K1.out.1.1.2
  have q0 := cr 0 K1.out.1.2
  have q1 := cr 1 K1.out.1.2
  have q2 := cr 2 K1.out.1.2
  have q3 := cr 3 K1.out.1.2
  have q4 := cr 4 K1.out.1.2
  have q5 := cr 5 K1.out.1.2
  have q6 := cr 6 K1.out.1.2
  go_upto_region 3 with (go_at_call 137; refine (rFlows_any _ _ _).mono ?_; rw [B2.out]; rintro e w2 ⟨rfl, hb⟩; have K2 := Lib.hid (K1.out.on hb); clear hb)
  clear p0 q0 q1 q2 q3 q4 q5 q6
  have p0 := cr 0 K2.out.1.1.2
  have q0 := cr 0 K2.out.1.2
  have q1 := cr 1 K2.out.1.2
  have q2 := cr 2 K2.out.1.2
  have q3 := cr 3 K2.out.1.2
  have q4 := cr 4 K2.out.1.2
  have q5 := cr 5 K2.out.1.2
  have q6 := cr 6 K2.out.1.2
  go_upto_region 4 with (go_at_call 137; refine (rFlows_any _ _ _).mono ?_; rw [B3.out]; rintro e w3 ⟨rfl, hb⟩; have K3 := Lib.hid (K2.out.on hb); clear hb)
  clear p0 q0 q1 q2 q3 q4 q5 q6 B1 B2 B3
  have p0 := cr 0 K3.out.1.1.2
  have q0 := cr 0 K3.out.1.2
  have q1 := cr 1 K3.out.1.2
  have q2 := cr 2 K3.out.1.2
  have q3 := cr 3 K3.out.1.2
  have q4 := cr 4 K3.out.1.2
  have q5 := cr 5 K3.out.1.2
  have q6 := cr 6 K3.out.1.2
  go_wp2
  go_ret
  exact ⟨rfl, K3.out.1.1.1⟩
 obtain rfl : b2 = true := by simpa using h2
 by_cases h3 : b3 = false
 ·subst h3
  rw [show (true && (!(o.into != -1) || withinB o.into ((k : Int) + 1) ((n : Int) - 1)) && withinB (o.ps.length : Int) 1 8 && true && false && incB o.ps) = false from by simp]
  go_enter Try.func126, Try.ntmps126
  go_upto_region 1 with fail
  generalize (w.alloc (.cells #[.slice A n c] 24)).alloc (.cells #[.int .i64 o.id, .int .i64 o.into, .slice o.P o.ps.length o.c, .int .i64 o.kl, .int .i64 o.kh, .int .i64 o.sl, .int .i64 o.sh] 42) = W0 at *
  have p0 := cr 0 K.out.1.1.2
  have q0 := cr 0 K.out.1.2
  have q1 := cr 1 K.out.1.2
  have q2 := cr 2 K.out.1.2
  have q3 := cr 3 K.out.1.2
  have q4 := cr 4 K.out.1.2
  have q5 := cr 5 K.out.1.2
  have q6 := cr 6 K.out.1.2
  go_upto_region 2 with (go_at_call 110; refine (rWithin_any _ _ _ _).mono ?_; rw [B1.out]; rintro e w1 ⟨rfl, hb⟩; have K1 := Lib.hid (K.out.on hb); clear hb)
  clear p0 q0 q1 q2 q3 q4 q5 q6
  have p0 := cr 0 K1.out.1.1.2
  have q0 := cr 0 K1.out.1.2
  have q1 := cr 1 K1.out.1.2
  have q2 := cr 2 K1.out.1.2
  have q3 := cr 3 K1.out.1.2
  have q4 := cr 4 K1.out.1.2
  have q5 := cr 5 K1.out.1.2
  have q6 := cr 6 K1.out.1.2
  go_upto_region 3 with (go_at_call 137; refine (rFlows_any _ _ _).mono ?_; rw [B2.out]; rintro e w2 ⟨rfl, hb⟩; have K2 := Lib.hid (K1.out.on hb); clear hb)
  clear p0 q0 q1 q2 q3 q4 q5 q6
  have p0 := cr 0 K2.out.1.1.2
  have q0 := cr 0 K2.out.1.2
  have q1 := cr 1 K2.out.1.2
  have q2 := cr 2 K2.out.1.2
  have q3 := cr 3 K2.out.1.2
  have q4 := cr 4 K2.out.1.2
  have q5 := cr 5 K2.out.1.2
  have q6 := cr 6 K2.out.1.2
  go_upto_region 4 with (go_at_call 137; refine (rFlows_any _ _ _).mono ?_; rw [B3.out]; rintro e w3 ⟨rfl, hb⟩; have K3 := Lib.hid (K2.out.on hb); clear hb)
  clear p0 q0 q1 q2 q3 q4 q5 q6 B1 B2 B3
  have p0 := cr 0 K3.out.1.1.2
  have q0 := cr 0 K3.out.1.2
  have q1 := cr 1 K3.out.1.2
  have q2 := cr 2 K3.out.1.2
  have q3 := cr 3 K3.out.1.2
  have q4 := cr 4 K3.out.1.2
  have q5 := cr 5 K3.out.1.2
  have q6 := cr 6 K3.out.1.2
  go_wp2
  go_ret
  exact ⟨rfl, K3.out.1.1.1⟩
 obtain rfl : b3 = true := by simpa using h3
 clear h1 h2 h3
 by_cases h4 : (o.ps.length : Int) < 1
 ·rw [show withinB (o.ps.length : Int) 1 8 = false from by unfold withinB; simp; omega, Bool.and_false, Bool.false_and, Bool.false_and, Bool.false_and]
  go_enter Try.func126, Try.ntmps126
  go_upto_region 1 with fail
  generalize (w.alloc (.cells #[.slice A n c] 24)).alloc (.cells #[.int .i64 o.id, .int .i64 o.into, .slice o.P o.ps.length o.c, .int .i64 o.kl, .int .i64 o.kh, .int .i64 o.sl, .int .i64 o.sh] 42) = W0 at *
  have p0 := cr 0 K.out.1.1.2
  have q0 := cr 0 K.out.1.2
  have q1 := cr 1 K.out.1.2
  have q2 := cr 2 K.out.1.2
  have q3 := cr 3 K.out.1.2
  have q4 := cr 4 K.out.1.2
  have q5 := cr 5 K.out.1.2
  have q6 := cr 6 K.out.1.2
  go_upto_region 2 with (go_at_call 110; refine (rWithin_any _ _ _ _).mono ?_; rw [B1.out]; rintro e w1 ⟨rfl, hb⟩; have K1 := Lib.hid (K.out.on hb); clear hb)
  clear p0 q0 q1 q2 q3 q4 q5 q6
  have p0 := cr 0 K1.out.1.1.2
  have q0 := cr 0 K1.out.1.2
  have q1 := cr 1 K1.out.1.2
  have q2 := cr 2 K1.out.1.2
  have q3 := cr 3 K1.out.1.2
  have q4 := cr 4 K1.out.1.2
  have q5 := cr 5 K1.out.1.2
  have q6 := cr 6 K1.out.1.2
  go_upto_region 3 with (go_at_call 137; refine (rFlows_any _ _ _).mono ?_; rw [B2.out]; rintro e w2 ⟨rfl, hb⟩; have K2 := Lib.hid (K1.out.on hb); clear hb)
  clear p0 q0 q1 q2 q3 q4 q5 q6
  have p0 := cr 0 K2.out.1.1.2
  have q0 := cr 0 K2.out.1.2
  have q1 := cr 1 K2.out.1.2
  have q2 := cr 2 K2.out.1.2
  have q3 := cr 3 K2.out.1.2
  have q4 := cr 4 K2.out.1.2
  have q5 := cr 5 K2.out.1.2
  have q6 := cr 6 K2.out.1.2
  go_upto_region 4 with (go_at_call 137; refine (rFlows_any _ _ _).mono ?_; rw [B3.out]; rintro e w3 ⟨rfl, hb⟩; have K3 := Lib.hid (K2.out.on hb); clear hb)
  clear p0 q0 q1 q2 q3 q4 q5 q6 B1 B2 B3
  have p0 := cr 0 K3.out.1.1.2
  have q0 := cr 0 K3.out.1.2
  have q1 := cr 1 K3.out.1.2
  have q2 := cr 2 K3.out.1.2
  have q3 := cr 3 K3.out.1.2
  have q4 := cr 4 K3.out.1.2
  have q5 := cr 5 K3.out.1.2
  have q6 := cr 6 K3.out.1.2
  go_wp2
  go_ret
  exact ⟨rfl, K3.out.1.1.1⟩
 by_cases h5 : (8 : Int) < (o.ps.length : Int)
 ·rw [show withinB (o.ps.length : Int) 1 8 = false from by unfold withinB; simp; omega, Bool.and_false, Bool.false_and, Bool.false_and, Bool.false_and]
  go_enter Try.func126, Try.ntmps126
  go_upto_region 1 with fail
  generalize (w.alloc (.cells #[.slice A n c] 24)).alloc (.cells #[.int .i64 o.id, .int .i64 o.into, .slice o.P o.ps.length o.c, .int .i64 o.kl, .int .i64 o.kh, .int .i64 o.sl, .int .i64 o.sh] 42) = W0 at *
  have p0 := cr 0 K.out.1.1.2
  have q0 := cr 0 K.out.1.2
  have q1 := cr 1 K.out.1.2
  have q2 := cr 2 K.out.1.2
  have q3 := cr 3 K.out.1.2
  have q4 := cr 4 K.out.1.2
  have q5 := cr 5 K.out.1.2
  have q6 := cr 6 K.out.1.2
  go_upto_region 2 with (go_at_call 110; refine (rWithin_any _ _ _ _).mono ?_; rw [B1.out]; rintro e w1 ⟨rfl, hb⟩; have K1 := Lib.hid (K.out.on hb); clear hb)
  clear p0 q0 q1 q2 q3 q4 q5 q6
  have p0 := cr 0 K1.out.1.1.2
  have q0 := cr 0 K1.out.1.2
  have q1 := cr 1 K1.out.1.2
  have q2 := cr 2 K1.out.1.2
  have q3 := cr 3 K1.out.1.2
  have q4 := cr 4 K1.out.1.2
  have q5 := cr 5 K1.out.1.2
  have q6 := cr 6 K1.out.1.2
  go_upto_region 3 with (go_at_call 137; refine (rFlows_any _ _ _).mono ?_; rw [B2.out]; rintro e w2 ⟨rfl, hb⟩; have K2 := Lib.hid (K1.out.on hb); clear hb)
  clear p0 q0 q1 q2 q3 q4 q5 q6
  have p0 := cr 0 K2.out.1.1.2
  have q0 := cr 0 K2.out.1.2
  have q1 := cr 1 K2.out.1.2
  have q2 := cr 2 K2.out.1.2
  have q3 := cr 3 K2.out.1.2
  have q4 := cr 4 K2.out.1.2
  have q5 := cr 5 K2.out.1.2
  have q6 := cr 6 K2.out.1.2
  go_upto_region 4 with (go_at_call 137; refine (rFlows_any _ _ _).mono ?_; rw [B3.out]; rintro e w3 ⟨rfl, hb⟩; have K3 := Lib.hid (K2.out.on hb); clear hb)
  clear p0 q0 q1 q2 q3 q4 q5 q6 B1 B2 B3
  have p0 := cr 0 K3.out.1.1.2
  have q0 := cr 0 K3.out.1.2
  have q1 := cr 1 K3.out.1.2
  have q2 := cr 2 K3.out.1.2
  have q3 := cr 3 K3.out.1.2
  have q4 := cr 4 K3.out.1.2
  have q5 := cr 5 K3.out.1.2
  have q6 := cr 6 K3.out.1.2
  go_wp2
  go_ret
  exact ⟨rfl, K3.out.1.1.1⟩
 rw [show withinB (o.ps.length : Int) 1 8 = true from by unfold withinB; simp; omega]
 have hRR : (∀ i, i < o.ps.length → incAt o.ps i = false → incB o.ps = false) ∧ ((∀ i, i < o.ps.length → incAt o.ps i = true) → incB o.ps = true) := ⟨fun i hi h => incB_false hi h, fun h => incB_iff.2 h⟩
 by_cases h6 : o.into = -1
 ·rw [show (true && (!(o.into != -1) || withinB o.into ((k : Int) + 1) ((n : Int) - 1)) && true && true && true && incB o.ps) = incB o.ps from by rw [h6]; simp]
  generalize incB o.ps = R at *
  have HR := Lib.hid hRR
  clear hRR
  have hz : (o.into != -1) = false := by rw [h6]; simp
  clear h6
  go_enter Try.func126, Try.ntmps126
  go_upto_region 1 with fail
  generalize (w.alloc (.cells #[.slice A n c] 24)).alloc (.cells #[.int .i64 o.id, .int .i64 o.into, .slice o.P o.ps.length o.c, .int .i64 o.kl, .int .i64 o.kh, .int .i64 o.sl, .int .i64 o.sh] 42) = W0 at *
  have p0 := cr 0 K.out.1.1.2
  have q0 := cr 0 K.out.1.2
  have q1 := cr 1 K.out.1.2
  have q2 := cr 2 K.out.1.2
  have q3 := cr 3 K.out.1.2
  have q4 := cr 4 K.out.1.2
  have q5 := cr 5 K.out.1.2
  have q6 := cr 6 K.out.1.2
  go_upto_region 2 with (go_at_call 110; refine (rWithin_any _ _ _ _).mono ?_; rw [B1.out]; rintro e w1 ⟨rfl, hb⟩; have K1 := Lib.hid (K.out.on hb); clear hb)
  clear p0 q0 q1 q2 q3 q4 q5 q6
  have p0 := cr 0 K1.out.1.1.2
  have q0 := cr 0 K1.out.1.2
  have q1 := cr 1 K1.out.1.2
  have q2 := cr 2 K1.out.1.2
  have q3 := cr 3 K1.out.1.2
  have q4 := cr 4 K1.out.1.2
  have q5 := cr 5 K1.out.1.2
  have q6 := cr 6 K1.out.1.2
  go_upto_region 3 with (go_at_call 137; refine (rFlows_any _ _ _).mono ?_; rw [B2.out]; rintro e w2 ⟨rfl, hb⟩; have K2 := Lib.hid (K1.out.on hb); clear hb)
  clear p0 q0 q1 q2 q3 q4 q5 q6
  have p0 := cr 0 K2.out.1.1.2
  have q0 := cr 0 K2.out.1.2
  have q1 := cr 1 K2.out.1.2
  have q2 := cr 2 K2.out.1.2
  have q3 := cr 3 K2.out.1.2
  have q4 := cr 4 K2.out.1.2
  have q5 := cr 5 K2.out.1.2
  have q6 := cr 6 K2.out.1.2
  go_upto_region 4 with (go_at_call 137; refine (rFlows_any _ _ _).mono ?_; rw [B3.out]; rintro e w3 ⟨rfl, hb⟩; have K3 := Lib.hid (K2.out.on hb); clear hb)
  clear p0 q0 q1 q2 q3 q4 q5 q6 B1 B2 B3
  have p0 := cr 0 K3.out.1.1.2
  have q0 := cr 0 K3.out.1.2
  have q1 := cr 1 K3.out.1.2
  have q2 := cr 2 K3.out.1.2
  have q3 := cr 3 K3.out.1.2
  have q4 := cr 4 K3.out.1.2
  have q5 := cr 5 K3.out.1.2
  have q6 := cr 6 K3.out.1.2
  go_upto_region 8 with fail
  clear p0 q0 q1 q2 q3 q4 q5 q6
  go_loopg [10, 11] o.ps.length (fun gg last i wr => ∃ t : Nat, t ≤ o.ps.length ∧ o.ps.length - t ≤ gg ∧ i = .int .i64 t ∧ last = .int .i64 (lastI o.ps t) ∧ Aside (Below w3.heap.size w3 wr ∧ ∀ j, j < t → incAt o.ps j = true))
  case atStart => exact ⟨0, Nat.zero_le _, by omega, rfl, rfl, Below.refl _ _, fun j hj => absurd hj (Nat.not_lt_zero _)⟩
  case round =>
   obtain ⟨t, hlt0, hgg, rfl, rfl, hA⟩ := hrel
   have HA := Lib.hid hA.out
   clear hA
   have L := Lib.hid (K3.out.on HA.out.1)
   have q2 := cr 2 L.out.1.2
   by_cases hlt : t < o.ps.length
   ·have hltz : (t : Int) < (o.ps.length : Int) := by omega
    have HI := Lib.hid (last_inc HA.out.2)
    have HN := Lib.hid (lastI_succ o.ps t)
    have hP : Rd wr wr.heap.size o.P o.ps := HP.out wr L.out.1.1.1
    obtain ⟨bp, op, eP, _, hc⟩ := hP (by omega)
    have p1 : wr.cell? ⟨bp, op + t, none⟩ = some (.int .i64 (nth o.ps t)) := hc t hlt
    rw [eP] at q2
    clear hc hP eP
    generalize lastI o.ps t = la at *
    by_cases c1 : nth o.ps t ≤ la
    ·have hF := HR.out.1 t hlt (by cases e : incAt o.ps t with | false => rfl | true => have := HI.out.1 e; omega)
     subst hF
     go_wp2
     go_ret
     exact ⟨rfl, L.out.1.1.1⟩
    by_cases c2 : (1048576 : Int) < nth o.ps t
    ·have hF := HR.out.1 t hlt (by cases e : incAt o.ps t with | false => rfl | true => have := HI.out.1 e; omega)
     subst hF
     go_wp2
     go_ret
     exact ⟨rfl, L.out.1.1.1⟩
    have HJ := Lib.hid (HI.out.2 (by omega))
    go_wp2
    go_roundg (o.ps.length - (t + 1))
    case measure => omega
    case rel => exact ⟨t + 1, by omega, by omega, by go_num, by rw [HN.out], (show _ ∧ _ from ⟨HA.out.1, fun j hj => by
     by_cases e : j = t
     ·subst e; exact HJ.out
     ·exact HA.out.2 j (by omega)⟩)⟩
   ·have hltz : ¬ (t : Int) < (o.ps.length : Int) := by omega
    obtain rfl : t = o.ps.length := by omega
    have hF := HR.out.2 HA.out.2
    subst hF
    go_wp2
    go_ret
    exact ⟨rfl, L.out.1.1.1⟩
 have hz : (o.into != -1) = true := by simpa using h6
 by_cases h7 : o.into ≤ (k : Int)
 ·rw [show withinB o.into ((k : Int) + 1) ((n : Int) - 1) = false from by unfold withinB; simp; omega, hz]
  rw [show (true && (!true || false) && true && true && true && incB o.ps) = false from by simp]
  clear hRR
  go_enter Try.func126, Try.ntmps126
  go_upto_region 1 with fail
  generalize (w.alloc (.cells #[.slice A n c] 24)).alloc (.cells #[.int .i64 o.id, .int .i64 o.into, .slice o.P o.ps.length o.c, .int .i64 o.kl, .int .i64 o.kh, .int .i64 o.sl, .int .i64 o.sh] 42) = W0 at *
  have p0 := cr 0 K.out.1.1.2
  have q0 := cr 0 K.out.1.2
  have q1 := cr 1 K.out.1.2
  have q2 := cr 2 K.out.1.2
  have q3 := cr 3 K.out.1.2
  have q4 := cr 4 K.out.1.2
  have q5 := cr 5 K.out.1.2
  have q6 := cr 6 K.out.1.2
  go_upto_region 2 with (go_at_call 110; refine (rWithin_any _ _ _ _).mono ?_; rw [B1.out]; rintro e w1 ⟨rfl, hb⟩; have K1 := Lib.hid (K.out.on hb); clear hb)
  clear p0 q0 q1 q2 q3 q4 q5 q6
  have p0 := cr 0 K1.out.1.1.2
  have q0 := cr 0 K1.out.1.2
  have q1 := cr 1 K1.out.1.2
  have q2 := cr 2 K1.out.1.2
  have q3 := cr 3 K1.out.1.2
  have q4 := cr 4 K1.out.1.2
  have q5 := cr 5 K1.out.1.2
  have q6 := cr 6 K1.out.1.2
  go_upto_region 3 with (go_at_call 137; refine (rFlows_any _ _ _).mono ?_; rw [B2.out]; rintro e w2 ⟨rfl, hb⟩; have K2 := Lib.hid (K1.out.on hb); clear hb)
  clear p0 q0 q1 q2 q3 q4 q5 q6
  have p0 := cr 0 K2.out.1.1.2
  have q0 := cr 0 K2.out.1.2
  have q1 := cr 1 K2.out.1.2
  have q2 := cr 2 K2.out.1.2
  have q3 := cr 3 K2.out.1.2
  have q4 := cr 4 K2.out.1.2
  have q5 := cr 5 K2.out.1.2
  have q6 := cr 6 K2.out.1.2
  go_upto_region 4 with (go_at_call 137; refine (rFlows_any _ _ _).mono ?_; rw [B3.out]; rintro e w3 ⟨rfl, hb⟩; have K3 := Lib.hid (K2.out.on hb); clear hb)
  clear p0 q0 q1 q2 q3 q4 q5 q6 B1 B2 B3
  have p0 := cr 0 K3.out.1.1.2
  have q0 := cr 0 K3.out.1.2
  have q1 := cr 1 K3.out.1.2
  have q2 := cr 2 K3.out.1.2
  have q3 := cr 3 K3.out.1.2
  have q4 := cr 4 K3.out.1.2
  have q5 := cr 5 K3.out.1.2
  have q6 := cr 6 K3.out.1.2
  go_wp2
  go_ret
  exact ⟨rfl, K3.out.1.1.1⟩
 by_cases h8 : (n : Int) ≤ o.into
 ·rw [show withinB o.into ((k : Int) + 1) ((n : Int) - 1) = false from by unfold withinB; simp; omega, hz]
  rw [show (true && (!true || false) && true && true && true && incB o.ps) = false from by simp]
  clear hRR
  go_enter Try.func126, Try.ntmps126
  go_upto_region 1 with fail
  generalize (w.alloc (.cells #[.slice A n c] 24)).alloc (.cells #[.int .i64 o.id, .int .i64 o.into, .slice o.P o.ps.length o.c, .int .i64 o.kl, .int .i64 o.kh, .int .i64 o.sl, .int .i64 o.sh] 42) = W0 at *
  have p0 := cr 0 K.out.1.1.2
  have q0 := cr 0 K.out.1.2
  have q1 := cr 1 K.out.1.2
  have q2 := cr 2 K.out.1.2
  have q3 := cr 3 K.out.1.2
  have q4 := cr 4 K.out.1.2
  have q5 := cr 5 K.out.1.2
  have q6 := cr 6 K.out.1.2
  go_upto_region 2 with (go_at_call 110; refine (rWithin_any _ _ _ _).mono ?_; rw [B1.out]; rintro e w1 ⟨rfl, hb⟩; have K1 := Lib.hid (K.out.on hb); clear hb)
  clear p0 q0 q1 q2 q3 q4 q5 q6
  have p0 := cr 0 K1.out.1.1.2
  have q0 := cr 0 K1.out.1.2
  have q1 := cr 1 K1.out.1.2
  have q2 := cr 2 K1.out.1.2
  have q3 := cr 3 K1.out.1.2
  have q4 := cr 4 K1.out.1.2
  have q5 := cr 5 K1.out.1.2
  have q6 := cr 6 K1.out.1.2
  go_upto_region 3 with (go_at_call 137; refine (rFlows_any _ _ _).mono ?_; rw [B2.out]; rintro e w2 ⟨rfl, hb⟩; have K2 := Lib.hid (K1.out.on hb); clear hb)
  clear p0 q0 q1 q2 q3 q4 q5 q6
  have p0 := cr 0 K2.out.1.1.2
  have q0 := cr 0 K2.out.1.2
  have q1 := cr 1 K2.out.1.2
  have q2 := cr 2 K2.out.1.2
  have q3 := cr 3 K2.out.1.2
  have q4 := cr 4 K2.out.1.2
  have q5 := cr 5 K2.out.1.2
  have q6 := cr 6 K2.out.1.2
  go_upto_region 4 with (go_at_call 137; refine (rFlows_any _ _ _).mono ?_; rw [B3.out]; rintro e w3 ⟨rfl, hb⟩; have K3 := Lib.hid (K2.out.on hb); clear hb)
  clear p0 q0 q1 q2 q3 q4 q5 q6 B1 B2 B3
  have p0 := cr 0 K3.out.1.1.2
  have q0 := cr 0 K3.out.1.2
  have q1 := cr 1 K3.out.1.2
  have q2 := cr 2 K3.out.1.2
  have q3 := cr 3 K3.out.1.2
  have q4 := cr 4 K3.out.1.2
  have q5 := cr 5 K3.out.1.2
  have q6 := cr 6 K3.out.1.2
  go_wp2
  go_ret
  exact ⟨rfl, K3.out.1.1.1⟩
 ·rw [show withinB o.into ((k : Int) + 1) ((n : Int) - 1) = true from by unfold withinB; simp; omega, hz]
  rw [show (true && (!true || true) && true && true && true && incB o.ps) = incB o.ps from by simp]
  generalize incB o.ps = R at *
  have HR := Lib.hid hRR
  clear hRR
  go_enter Try.func126, Try.ntmps126
  go_upto_region 1 with fail
  generalize (w.alloc (.cells #[.slice A n c] 24)).alloc (.cells #[.int .i64 o.id, .int .i64 o.into, .slice o.P o.ps.length o.c, .int .i64 o.kl, .int .i64 o.kh, .int .i64 o.sl, .int .i64 o.sh] 42) = W0 at *
  have p0 := cr 0 K.out.1.1.2
  have q0 := cr 0 K.out.1.2
  have q1 := cr 1 K.out.1.2
  have q2 := cr 2 K.out.1.2
  have q3 := cr 3 K.out.1.2
  have q4 := cr 4 K.out.1.2
  have q5 := cr 5 K.out.1.2
  have q6 := cr 6 K.out.1.2
  go_upto_region 2 with (go_at_call 110; refine (rWithin_any _ _ _ _).mono ?_; rw [B1.out]; rintro e w1 ⟨rfl, hb⟩; have K1 := Lib.hid (K.out.on hb); clear hb)
  clear p0 q0 q1 q2 q3 q4 q5 q6
  have p0 := cr 0 K1.out.1.1.2
  have q0 := cr 0 K1.out.1.2
  have q1 := cr 1 K1.out.1.2
  have q2 := cr 2 K1.out.1.2
  have q3 := cr 3 K1.out.1.2
  have q4 := cr 4 K1.out.1.2
  have q5 := cr 5 K1.out.1.2
  have q6 := cr 6 K1.out.1.2
  go_upto_region 3 with (go_at_call 137; refine (rFlows_any _ _ _).mono ?_; rw [B2.out]; rintro e w2 ⟨rfl, hb⟩; have K2 := Lib.hid (K1.out.on hb); clear hb)
  clear p0 q0 q1 q2 q3 q4 q5 q6
  have p0 := cr 0 K2.out.1.1.2
  have q0 := cr 0 K2.out.1.2
  have q1 := cr 1 K2.out.1.2
  have q2 := cr 2 K2.out.1.2
  have q3 := cr 3 K2.out.1.2
  have q4 := cr 4 K2.out.1.2
  have q5 := cr 5 K2.out.1.2
  have q6 := cr 6 K2.out.1.2
  go_upto_region 4 with (go_at_call 137; refine (rFlows_any _ _ _).mono ?_; rw [B3.out]; rintro e w3 ⟨rfl, hb⟩; have K3 := Lib.hid (K2.out.on hb); clear hb)
  clear p0 q0 q1 q2 q3 q4 q5 q6 B1 B2 B3
  have p0 := cr 0 K3.out.1.1.2
  have q0 := cr 0 K3.out.1.2
  have q1 := cr 1 K3.out.1.2
  have q2 := cr 2 K3.out.1.2
  have q3 := cr 3 K3.out.1.2
  have q4 := cr 4 K3.out.1.2
  have q5 := cr 5 K3.out.1.2
  have q6 := cr 6 K3.out.1.2
  go_upto_region 8 with fail
  clear p0 q0 q1 q2 q3 q4 q5 q6
  go_loopg [10, 11] o.ps.length (fun gg last i wr => ∃ t : Nat, t ≤ o.ps.length ∧ o.ps.length - t ≤ gg ∧ i = .int .i64 t ∧ last = .int .i64 (lastI o.ps t) ∧ Aside (Below w3.heap.size w3 wr ∧ ∀ j, j < t → incAt o.ps j = true))
  case atStart => exact ⟨0, Nat.zero_le _, by omega, rfl, rfl, Below.refl _ _, fun j hj => absurd hj (Nat.not_lt_zero _)⟩
  case round =>
   obtain ⟨t, hlt0, hgg, rfl, rfl, hA⟩ := hrel
   have HA := Lib.hid hA.out
   clear hA
   have L := Lib.hid (K3.out.on HA.out.1)
   have q2 := cr 2 L.out.1.2
   by_cases hlt : t < o.ps.length
   ·have hltz : (t : Int) < (o.ps.length : Int) := by omega
    have HI := Lib.hid (last_inc HA.out.2)
    have HN := Lib.hid (lastI_succ o.ps t)
    have hP : Rd wr wr.heap.size o.P o.ps := HP.out wr L.out.1.1.1
    obtain ⟨bp, op, eP, _, hc⟩ := hP (by omega)
    have p1 : wr.cell? ⟨bp, op + t, none⟩ = some (.int .i64 (nth o.ps t)) := hc t hlt
    rw [eP] at q2
    clear hc hP eP
    generalize lastI o.ps t = la at *
    by_cases c1 : nth o.ps t ≤ la
    ·have hF := HR.out.1 t hlt (by cases e : incAt o.ps t with | false => rfl | true => have := HI.out.1 e; omega)
     subst hF
     go_wp2
     go_ret
     exact ⟨rfl, L.out.1.1.1⟩
    by_cases c2 : (1048576 : Int) < nth o.ps t
    ·have hF := HR.out.1 t hlt (by cases e : incAt o.ps t with | false => rfl | true => have := HI.out.1 e; omega)
     subst hF
     go_wp2
     go_ret
     exact ⟨rfl, L.out.1.1.1⟩
    have HJ := Lib.hid (HI.out.2 (by omega))
    go_wp2
    go_roundg (o.ps.length - (t + 1))
    case measure => omega
    case rel => exact ⟨t + 1, by omega, by omega, by go_num, by rw [HN.out], (show _ ∧ _ from ⟨HA.out.1, fun j hj => by
     by_cases e : j = t
     ·subst e; exact HJ.out
     ·exact HA.out.2 j (by omega)⟩)⟩
   ·have hltz : ¬ (t : Int) < (o.ps.length : Int) := by omega
    obtain rfl : t = o.ps.length := by omega
    have hF := HR.out.2 HA.out.2
    subst hF
    go_wp2
    go_ret
    exact ⟨rfl, L.out.1.1.1⟩
end Go.Proofs.Ytdadoelajhemjaa
