/- Plain: fractions in lowest terms; sums of such over a common multiple. No program here. -/
import Derived.Test.YtegmniphgahblaaGreatM11
namespace Go.Proofs.YtegmniphgahblaaGreat

def ratN (n d : Nat) : Nat := n / Nat.gcd n d
def ratD (n d : Nat) : Nat := d / Nat.gcd n d
theorem rat_same {n d n' d' : Nat} (hd : 0 < d) (hd' : 0 < d') (h : n * d' = n' * d) : ratN n d = ratN n' d' ∧ ratD n d = ratD n' d' := by
 have g1 : Nat.gcd n d * d' = Nat.gcd n' d' * d := by
  have a := Nat.gcd_mul_right n d' d
  have b := Nat.gcd_mul_right n' d d'
  rw [← a, ← b, h, Nat.mul_comm d d']
 have e1 : ∀ a g k : Nat, 0 < k → (a * k) / (g * k) = a / g := fun a g k hk => Nat.mul_div_mul_right a g hk
 unfold ratN ratD
 refine ⟨?_, ?_⟩
 ·rw [← e1 n (Nat.gcd n d) d' hd', ← e1 n' (Nat.gcd n' d') d hd, g1, h]
 ·rw [← e1 d (Nat.gcd n d) d' hd', ← e1 d' (Nat.gcd n' d') d hd, g1, Nat.mul_comm d d']
theorem rat_parts {n d : Nat} (hd : 0 < d) : n = ratN n d * Nat.gcd n d ∧ d = ratD n d * Nat.gcd n d ∧ 0 < ratD n d ∧ 0 < Nat.gcd n d := by
 have g0 := Nat.gcd_pos_of_pos_right n hd
 have h2 : d = ratD n d * Nat.gcd n d := (Nat.div_mul_cancel (Nat.gcd_dvd_right n d)).symm
 refine ⟨(Nat.div_mul_cancel (Nat.gcd_dvd_left n d)).symm, h2, ?_, g0⟩
 rcases Nat.eq_zero_or_pos (ratD n d) with h | h
 ·rw [h, Nat.zero_mul] at h2; omega
 ·exact h
theorem rat_cross {n d : Nat} (hd : 0 < d) : ratN n d * d = n * ratD n d := by
 obtain ⟨h1, h2, _, _⟩ := rat_parts (n := n) hd
 generalize ratN n d = a at *
 generalize ratD n d = b at *
 generalize Nat.gcd n d = k at *
 rw [h1, h2]
 simp only [Nat.mul_comm, Nat.mul_left_comm]
theorem ratD_dvd (n d : Nat) : ratD n d ∣ d := Nat.div_dvd_of_dvd (Nat.gcd_dvd_right n d)
theorem ratD_le {n d : Nat} (hd : 0 < d) : ratD n d ≤ d := Nat.le_of_dvd hd (ratD_dvd n d)
theorem ratN_le (n d : Nat) : ratN n d ≤ n := Nat.div_le_self _ _
theorem rat_zero {d : Nat} (hd : 0 < d) : ratN 0 d = 0 ∧ ratD 0 d = 1 := by
 unfold ratN ratD
 rw [Nat.gcd_zero_left, Nat.zero_div, Nat.div_self hd]
 exact ⟨rfl, rfl⟩
/-- The sum of two fractions, as levy adds them. -/
theorem rat_add {S x L : Nat} (hL : 0 < L) :
  let a := ratN S L; let b := ratD S L; let c := ratN x L; let d := ratD x L
  let u := ratD b d
  let den := b * u
  (0 < u ∧ 0 < den ∧ den ≤ L ∧ den / d = ratN b d ∧ a * u ≤ S ∧ c * (den / d) ≤ x ∧ 0 < d) ∧ ratN (a * u + c * (den / d)) den = ratN (S + x) L ∧ ratD (a * u + c * (den / d)) den = ratD (S + x) L := by
 intro a b c d u den
 have ha : a * L = S * b := rat_cross hL
 have hc : c * L = x * d := rat_cross hL
 obtain ⟨_, _, hb0, _⟩ := rat_parts (n := S) hL
 obtain ⟨_, _, hd0, _⟩ := rat_parts (n := x) hL
 obtain ⟨p1, p2, hu0, hg0⟩ := rat_parts (n := b) (d := d) hd0
 have hb : b ∣ L := ratD_dvd S L
 have hd : d ∣ L := ratD_dvd x L
 have hq : den = ratN b d * d := (rat_cross (n := b) (d := d) hd0).symm
 have hden0 : 0 < den := Nat.mul_pos hb0 hu0
 have hquo : den / d = ratN b d := by rw [hq]; exact Nat.mul_div_cancel _ hd0
 have hlcm : den = Nat.lcm b d := by
  unfold Nat.lcm
  rw [show b * d = den * Nat.gcd b d by rw [show den = b * u from rfl, Nat.mul_assoc, ← p2]]
  exact (Nat.mul_div_cancel _ hg0).symm
 have hdl : den ∣ L := hlcm ▸ Nat.lcm_dvd hb hd
 have hdle : den ≤ L := Nat.le_of_dvd hL hdl
 have k1 : a * u * L = S * den := by
  rw [Nat.mul_assoc, Nat.mul_comm u L, ← Nat.mul_assoc, ha, Nat.mul_assoc]
 have k2 : c * (den / d) * L = x * den := by
  rw [hquo, Nat.mul_assoc, Nat.mul_comm (ratN b d) L, ← Nat.mul_assoc, hc, Nat.mul_assoc, Nat.mul_comm d, ← hq]
 have l1 : a * u ≤ S := Nat.le_of_mul_le_mul_right (by rw [k1]; exact Nat.mul_le_mul_left _ hdle) hL
 have l2 : c * (den / d) ≤ x := Nat.le_of_mul_le_mul_right (by rw [k2]; exact Nat.mul_le_mul_left _ hdle) hL
 refine ⟨⟨hu0, hden0, hdle, hquo, l1, l2, hd0⟩, rat_same hden0 hL ?_⟩
 rw [Nat.add_mul, k1, k2, Nat.add_mul]
/-- The least common multiple of 1 .. 24. -/
def lcmT : Nat := 5354228880
theorem lcmT_dvd : ∀ k, 1 ≤ k → k ≤ 24 → k ∣ lcmT := fun k h1 h2 => by
 have : ∀ j : Fin 24, (j.1 + 1) ∣ lcmT := by decide +kernel
 have h := this ⟨k - 1, by omega⟩
 rwa [show k - 1 + 1 = k by omega] at h
/-- A piece of a reach's cost. -/
theorem rat_piece {x all : Nat} (h1 : 1 ≤ all) (h2 : all ≤ 24) : ratN x all = ratN (x * (lcmT / all)) lcmT ∧ ratD x all = ratD (x * (lcmT / all)) lcmT := by
 refine rat_same (by omega) (by decide) ?_
 rw [Nat.mul_assoc, Nat.div_mul_cancel (lcmT_dvd all h1 h2)]
/-- Whole pence below and above a share. -/
theorem rat_floor {S L : Nat} (hL : 0 < L) : ratN S L / ratD S L = S / L ∧ (ratN S L % ratD S L = 0 ↔ S % L = 0) ∧ L * (ratN S L / ratD S L) ≤ S ∧ S ≤ L * (ratN S L / ratD S L + min 1 (ratN S L % ratD S L)) := by
 obtain ⟨h1, h2, h3, h4⟩ := rat_parts (n := S) hL
 generalize ratN S L = a at *
 generalize ratD S L = b at *
 generalize Nat.gcd S L = k at *
 have e1 : a / b = S / L := by rw [h1, h2]; exact (Nat.mul_div_mul_right a b h4).symm
 have e2 : S % L = a % b * k := by rw [h1, h2]; exact Nat.mul_mod_mul_right k a b
 have e3 := Nat.div_add_mod S L
 have e4 := Nat.mod_lt S hL
 refine ⟨e1, ?_, ?_, ?_⟩
 ·rw [e2]
  exact ⟨fun h => by rw [h, Nat.zero_mul], fun h => (Nat.mul_eq_zero.1 h).resolve_right (by omega)⟩
 ·rw [e1]; omega
 ·rw [e1]
  by_cases h : a % b = 0
  ·rw [h] at e2 ⊢
   rw [Nat.zero_mul] at e2
   rw [show min 1 0 = 0 from rfl, Nat.add_zero]
   omega
  ·rw [show min 1 (a % b) = 1 by omega, Nat.mul_add, Nat.mul_one]
   omega
end Go.Proofs.YtegmniphgahblaaGreat
