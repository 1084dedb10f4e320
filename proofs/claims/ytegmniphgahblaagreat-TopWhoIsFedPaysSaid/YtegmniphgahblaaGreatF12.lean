/- Plain: floors and ceilings of the shares; the whole pence that levy finds. No program here. -/
import Derived.Test.YtegmniphgahblaaGreatM12
import Derived.Test.YtegmniphgahblaaGreatW16
namespace Go.Proofs.YtegmniphgahblaaGreat

/-- A function's first n values. -/
def tb (n : Nat) (f : Nat → Int) : List Int := (List.range n).map f
theorem tb_len (n : Nat) (f : Nat → Int) : (tb n f).length = n := by simp [tb]
theorem tb_at {n : Nat} {f : Nat → Int} {i : Nat} (h : i < n) : nth (tb n f) i = f i := by simp [nth, tb, h]
theorem tb_succ (n : Nat) (f : Nat → Int) : tb (n + 1) f = tb n f ++ [f n] := by simp [tb, List.range_succ]
theorem load_congr {rc : Nat → Nat} {x y : Nat → Int} {n : Nat} (h : ∀ i, i < n → x i = y i) : load rc x n = load rc y n := by
 funext r
 exact sumTo_congr fun i hi => by rw [h i hi]
theorem Btw.congr {ab co : Nat → Int} {rc : Nat → Nat} {n m : Nat} {W : Int} {lo hi lo' hi' : Nat → Int} (h1 : ∀ i, i < n → lo i = lo' i) (h2 : ∀ i, i < n → hi i = hi' i) : Btw ab co rc n m W lo hi ↔ Btw ab co rc n m W lo' hi' := by
 unfold Btw
 rw [load_congr h1, load_congr h2, sumTo_congr h2]
theorem FairF.congr {rs : List Rch} {ps : List Pay} {x y : Nat → Int} (h : ∀ i, i < ps.length → x i = y i) (hf : FairF rs ps x) : FairF rs ps y := by
 unfold FairF at *
 rw [← load_congr h, ← sumTo_congr h]
 exact hf
def floN (rs : List Rch) (ps : List Pay) (i : Nat) : Nat := ratN (shN rs ps i) lcmT / ratD (shN rs ps i) lcmT
def remN (rs : List Rch) (ps : List Pay) (i : Nat) : Nat := ratN (shN rs ps i) lcmT % ratD (shN rs ps i) lcmT
def loI (rs : List Rch) (ps : List Pay) (i : Nat) : Int := floN rs ps i
def hiI (rs : List Rch) (ps : List Pay) (i : Nat) : Int := floN rs ps i + min 1 (remN rs ps i : Int)
section
variable {rs : List Rch} {ps : List Pay}
theorem lcmT_pos : 0 < lcmT := by decide
theorem shN_le (ok : RsOk rs) (pk : PsOk rs ps) {i : Nat} (hi : i < ps.length) : shN rs ps i ≤ 24 * (65536 * lcmT) := by
 have h1 := sN_le ok pk hi (way (abF rs) (yAt ps i).rc) fun r hr => ⟨(way_lt ok.ab _ (pk.rc i hi).2 r hr).2, (way_us ok pk hi r).1 hr⟩
 have h2 := way_len ok.ab rs.length (yAt ps i).rc (pk.rc i hi).2 (pk.rc i hi).2
 exact Nat.le_trans h1 (Nat.mul_le_mul_right _ (Nat.le_trans h2 ok.n))
theorem loI_rng (ok : RsOk rs) (pk : PsOk rs ps) {i : Nat} (hi : i < ps.length) : 0 ≤ loI rs ps i ∧ loI rs ps i ≤ hiI rs ps i ∧ hiI rs ps i ≤ loI rs ps i + 1 ∧ loI rs ps i ≤ 1572864 := by
 have h1 := shN_le ok pk hi
 have h2 := (rat_floor (S := shN rs ps i) lcmT_pos).1
 have h3 : shN rs ps i / lcmT ≤ 24 * 65536 := by
  refine Nat.div_le_of_le_mul ?_
  rw [Nat.mul_comm lcmT, Nat.mul_assoc]
  exact h1
 have h4 : floN rs ps i = shN rs ps i / lcmT := h2
 unfold loI hiI
 omega
theorem pence_btw (ok : RsOk rs) (pk : PsOk rs ps) : Btw (abF rs) (coF rs) (rcF ps) ps.length rs.length (wholeF rs ps) (loI rs ps) (hiI rs ps) := by
 refine share_btw ok pk (fun i hi => ?_) (fun i hi => ?_)
 ·have h := (rat_floor (S := shN rs ps i) lcmT_pos).2.2.1
  rw [← shN_cast ok pk hi]
  unfold loI floN
  exact_mod_cast h
 ·have h := (rat_floor (S := shN rs ps i) lcmT_pos).2.2.2
  rw [← shN_cast ok pk hi]
  have h2 : ((shN rs ps i : Nat) : Int) ≤ ((lcmT * (ratN (shN rs ps i) lcmT / ratD (shN rs ps i) lcmT + min 1 (ratN (shN rs ps i) lcmT % ratD (shN rs ps i) lcmT)) : Nat) : Int) := by exact_mod_cast h
  rw [Int.natCast_mul, Int.natCast_add] at h2
  unfold hiI floN remN
  rw [show min 1 ((ratN (shN rs ps i) lcmT % ratD (shN rs ps i) lcmT : Nat) : Int) = ((min 1 (ratN (shN rs ps i) lcmT % ratD (shN rs ps i) lcmT) : Nat) : Int) by omega]
  exact h2
noncomputable abbrev penR (rs : List Rch) (ps : List Pay) (k : Nat) : (Nat → Int) × (Nat → Int) := rnd (Btw (abF rs) (coF rs) (rcF ps) ps.length rs.length (wholeF rs ps)) (loI rs ps) (hiI rs ps) k
theorem penR_ok (ok : RsOk rs) (pk : PsOk rs ps) {k : Nat} (hk : k ≤ ps.length) : Btw (abF rs) (coF rs) (rcF ps) ps.length rs.length (wholeF rs ps) (penR rs ps k).1 (penR rs ps k).2 ∧ (∀ j, j < k → (penR rs ps k).1 j = (penR rs ps k).2 j ∧ loI rs ps j ≤ (penR rs ps k).1 j ∧ (penR rs ps k).1 j ≤ hiI rs ps j) ∧ (∀ j, k ≤ j → (penR rs ps k).1 j = loI rs ps j ∧ (penR rs ps k).2 j = hiI rs ps j) :=
 rnd_ok ok.ab pk.rcl (fun _ hj => ⟨(loI_rng ok pk hj).2.1, (loI_rng ok pk hj).2.2.1⟩) (pence_btw ok pk) k hk
theorem penR_rng (ok : RsOk rs) (pk : PsOk rs ps) {k : Nat} (hk : k ≤ ps.length) {i : Nat} (hi : i < ps.length) : (0 ≤ (penR rs ps k).1 i ∧ (penR rs ps k).1 i ≤ 1572865) ∧ (0 ≤ (penR rs ps k).2 i ∧ (penR rs ps k).2 i ≤ 1572865) := by
 obtain ⟨_, h2, h3⟩ := penR_ok ok pk hk
 have h4 := loI_rng ok pk hi
 by_cases h : i < k
 ·have := h2 i h
  omega
 ·have := h3 i (by omega)
  omega
theorem penR_fair (ok : RsOk rs) (pk : PsOk rs ps) : FairF rs ps (penR rs ps ps.length).1 := by
 obtain ⟨h1, h2, _⟩ := penR_ok ok pk (Nat.le_refl ps.length)
 exact fair_of_btw ok pk ((Btw.congr (fun _ _ => rfl) (fun i hi => ((h2 i hi).1).symm)).1 h1)
theorem penR_yes {k : Nat} (h : Btw (abF rs) (coF rs) (rcF ps) ps.length rs.length (wholeF rs ps) (setI (penR rs ps k).1 k ((penR rs ps k).2 k)) (penR rs ps k).2) : penR rs ps (k + 1) = (setI (penR rs ps k).1 k ((penR rs ps k).2 k), (penR rs ps k).2) := if_pos h
theorem penR_no {k : Nat} (h : ¬ Btw (abF rs) (coF rs) (rcF ps) ps.length rs.length (wholeF rs ps) (setI (penR rs ps k).1 k ((penR rs ps k).2 k)) (penR rs ps k).2) : penR rs ps (k + 1) = ((penR rs ps k).1, setI (penR rs ps k).2 k ((penR rs ps k).1 k)) := if_neg h
end
end Go.Proofs.YtegmniphgahblaaGreat
