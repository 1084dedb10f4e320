/- Plain: the shares of a tree; fair pence between their floors and ceilings. No program here. | Plain: how levy finds by how much a group pays too much: reach by reach from the last one. No program here. | Plain: a payer's share, as a fraction over one denominator. No program here. -/
import Derived.Test.YtegmniphgahblaaGreatW2
import Derived.Test.YtegmniphgahblaaGreatF8
namespace Go.Proofs.YtegmniphgahblaaGreat

def rcF (ps : List Pay) (i : Nat) : Nat := (yAt ps i).rc.toNat
def wtF (ps : List Pay) (i : Nat) : Int := (yAt ps i).wt
def usF (rs : List Rch) (ps : List Pay) (i r : Nat) : Bool := isUp (abF rs) (rcF ps i) r
/-- The weights of the first k payers who use a reach. -/
def allTo (rs : List Rch) (ps : List Pay) (k r : Nat) : Int := sumTo (fun i => if usF rs ps i r = true then wtF ps i else 0) k
def allF (rs : List Rch) (ps : List Pay) (r : Nat) : Int := allTo rs ps ps.length r
def usedB (rs : List Rch) (ps : List Pay) (r : Nat) : Bool := decide (0 < allF rs ps r)
/-- What a reach costs, if somebody uses it. -/
def cuF (rs : List Rch) (ps : List Pay) (r : Nat) : Int := if usedB rs ps r = true then coF rs r else 0
def wholeF (rs : List Rch) (ps : List Pay) : Int := sumTo (cuF rs ps) rs.length
/-- Payers that are right. -/
structure PsOk (rs : List Rch) (ps : List Pay) : Prop where
 n : ps.length ≤ 24
 rc : ∀ i, i < ps.length → 0 ≤ (yAt ps i).rc ∧ (yAt ps i).rc < rs.length
 wt : ∀ i, i < ps.length → 1 ≤ (yAt ps i).wt
 id : ∀ i, i < ps.length → 1 ≤ (yAt ps i).id ∧ (yAt ps i).id ≤ 1099511627776
 ids : ∀ i j, i < ps.length → j < ps.length → (yAt ps i).id = (yAt ps j).id → i = j
 sum : sumTo (wtF ps) ps.length ≤ 24
section
variable {rs : List Rch} {ps : List Pay}
theorem PsOk.rcl (h : PsOk rs ps) : ∀ i, i < ps.length → rcF ps i < rs.length := fun i hi => by
 have := h.rc i hi
 unfold rcF
 omega
theorem allTo_mono (h : PsOk rs ps) (r : Nat) : ∀ {k n : Nat}, k ≤ n → n ≤ ps.length → 0 ≤ allTo rs ps k r ∧ allTo rs ps k r ≤ allTo rs ps n r ∧ allTo rs ps n r ≤ sumTo (wtF ps) n
 | k, 0, hk, _ => by
  obtain rfl : k = 0 := by omega
  exact ⟨Int.le_refl _, Int.le_refl _, Int.le_refl _⟩
 | k, n + 1, hk, hn => by
  have hw := h.wt n (by omega)
  have e : allTo rs ps (n + 1) r = allTo rs ps n r + (if usF rs ps n r = true then wtF ps n else 0) := rfl
  have e2 : sumTo (wtF ps) (n + 1) = sumTo (wtF ps) n + wtF ps n := rfl
  have h3 : wtF ps n = (yAt ps n).wt := rfl
  by_cases hkn : k = n + 1
  ·subst hkn
   have ih := allTo_mono h r (Nat.le_refl n) (show n ≤ ps.length by omega)
   refine ⟨?_, Int.le_refl _, ?_⟩ <;> rw [e] <;> split <;> omega
  ·have ih := allTo_mono h r (show k ≤ n by omega) (show n ≤ ps.length by omega)
   refine ⟨ih.1, ?_, ?_⟩ <;> rw [e] <;> split <;> omega
theorem allF_rng (h : PsOk rs ps) (r : Nat) : 0 ≤ allF rs ps r ∧ allF rs ps r ≤ 24 := by
 have := allTo_mono h r (Nat.le_refl ps.length) (Nat.le_refl _)
 have := h.sum
 unfold allF
 omega
theorem used_of (h : PsOk rs ps) {i r : Nat} (hi : i < ps.length) (hu : usF rs ps i r = true) : usedB rs ps r = true := by
 have h1 := allTo_mono h r (show i + 1 ≤ ps.length by omega) (Nat.le_refl _)
 have h0 := allTo_mono h r (show i ≤ ps.length by omega) (Nat.le_refl _)
 have e : allTo rs ps (i + 1) r = allTo rs ps i r + (if usF rs ps i r = true then wtF ps i else 0) := rfl
 rw [if_pos hu] at e
 have := h.wt i hi
 have h3 : wtF ps i = (yAt ps i).wt := rfl
 refine decide_eq_true ?_
 unfold allF
 omega
theorem used_by (r : Nat) : ∀ {k : Nat}, 0 < allTo rs ps k r → ∃ i, i < k ∧ usF rs ps i r = true
 | 0, h => absurd h (by show ¬ (0 : Int) < 0; omega)
 | k + 1, h => by
  have e : allTo rs ps (k + 1) r = allTo rs ps k r + (if usF rs ps k r = true then wtF ps k else 0) := rfl
  by_cases hu : usF rs ps k r = true
  ·exact ⟨k, by omega, hu⟩
  ·rw [e, if_neg hu] at h
   obtain ⟨i, hi, hj⟩ := used_by r (k := k) (by omega)
   exact ⟨i, by omega, hj⟩
theorem used_upC (hr : RsOk rs) (h : PsOk rs ps) : UpC (abF rs) rs.length (usedB rs ps) := fun r a hlt hu e => by
 obtain ⟨i, hi, hj⟩ := used_by r (of_decide_eq_true hu)
 refine used_of h hi (isUp_trans hr.ab _ (h.rcl i hi) hj ?_)
 rw [isUp_step hr.ab hlt, Bool.or_eq_true, Bool.and_eq_true]
 refine .inr ⟨decide_eq_true (by omega), ?_⟩
 rw [show (abF rs r).toNat = a by omega]
 exact isUp_self a
theorem used_rc (h : PsOk rs ps) : ∀ i, i < ps.length → usedB rs ps (rcF ps i) = true := fun _ hi => used_of h hi (isUp_self _)
theorem cuF_rng (hr : RsOk rs) : ∀ r, r < rs.length → 0 ≤ cuF rs ps r ∧ cuF rs ps r ≤ coF rs r := fun r hlt => by
 have : 0 ≤ coF rs r := (hr.co r hlt).1
 unfold cuF
 split <;> omega
/-- What a payer pays of a reach, lcmT times. -/
def dF (rs : List Rch) (ps : List Pay) (i r : Nat) : Int := if usF rs ps i r = true then coF rs r * wtF ps i * ((lcmT : Int) / allF rs ps r) else 0
def shF (rs : List Rch) (ps : List Pay) (i : Nat) : Int := sumTo (fun r => dF rs ps i r) rs.length
theorem lcmT_div (h : PsOk rs ps) {r : Nat} (hu : usedB rs ps r = true) : (lcmT : Int) / allF rs ps r * allF rs ps r = lcmT ∧ 0 ≤ (lcmT : Int) / allF rs ps r := by
 have h1 := allF_rng h r
 have h2 : 0 < allF rs ps r := of_decide_eq_true hu
 generalize allF rs ps r = a at *
 have e : a = (a.toNat : Int) := by omega
 have d := lcmT_dvd a.toNat (by omega) (by omega)
 rw [e]
 exact ⟨Int.ediv_mul_cancel (Int.natCast_dvd_natCast.2 d), Int.ediv_nonneg (by decide) (by omega)⟩
theorem dF_pos (hr : RsOk rs) (h : PsOk rs ps) (i r : Nat) (hi : i < ps.length) (hlt : r < rs.length) : 0 ≤ dF rs ps i r := by
 unfold dF
 split
 ·rename_i hu
  have h1 := (hr.co r hlt).1
  have h2 := h.wt i hi
  have h3 := (lcmT_div h (used_of h hi hu)).2
  exact Int.mul_nonneg (Int.mul_nonneg h1 (by unfold wtF; omega)) h3
 ·exact Int.le_refl _
theorem d_col (h : PsOk rs ps) (r : Nat) : sumTo (fun i => dF rs ps i r) ps.length = lcmT * cuF rs ps r := by
 have e : sumTo (fun i => dF rs ps i r) ps.length = sumTo (fun i => (coF rs r * ((lcmT : Int) / allF rs ps r)) * (if usF rs ps i r = true then wtF ps i else 0)) ps.length := sumTo_congr fun i _ => by
  unfold dF
  split
  ·rw [Int.mul_assoc, Int.mul_assoc, Int.mul_comm (wtF ps i)]
  ·rw [Int.mul_zero]
 rw [e, sumTo_mul]
 show coF rs r * ((lcmT : Int) / allF rs ps r) * allF rs ps r = _
 unfold cuF
 by_cases hu : usedB rs ps r = true
 ·rw [if_pos hu, Int.mul_assoc, (lcmT_div h hu).1, Int.mul_comm]
 ·have h1 := allF_rng h r
  have h2 : ¬ 0 < allF rs ps r := fun k => hu (decide_eq_true k)
  rw [if_neg hu, show allF rs ps r = 0 by omega, Int.mul_zero, Int.mul_zero]
/-- A tree, for the laws on sums over its reaches. -/
def dG (rs : List Rch) (ps : List Pay) (i r : Nat) : Int := if i < ps.length ∧ r < rs.length then dF rs ps i r else 0
theorem share_btw (hr : RsOk rs) (h : PsOk rs ps) {lo hi : Nat → Int} (hlo : ∀ i, i < ps.length → lcmT * lo i ≤ shF rs ps i) (hhi : ∀ i, i < ps.length → shF rs ps i ≤ lcmT * hi i) : Btw (abF rs) (coF rs) (rcF ps) ps.length rs.length (wholeF rs ps) lo hi := by
 have row : ∀ i, i < ps.length → sumTo (fun r => dG rs ps i r) rs.length = shF rs ps i := fun i hi => sumTo_congr fun r hr => if_pos ⟨hi, hr⟩
 refine div_btw (K := lcmT) (D := dG rs ps) (cu := cuF rs ps) hr.ab h.rcl (by decide) (fun i r => ?_) (fun i r hi hlt hu => ?_) (cuF_rng hr) (fun r hlt => ?_) (fun i hi => by rw [row i hi]; exact hlo i hi) (fun i hi => by rw [row i hi]; exact hhi i hi)
 ·unfold dG
  split
  ·rename_i k; exact dF_pos hr h i r k.1 k.2
  ·exact Int.le_refl _
 ·unfold dG
  rw [if_pos ⟨hi, hlt⟩]
  exact if_neg (by unfold usF; rw [hu]; decide)
 ·rw [← d_col h]
  exact sumTo_congr fun i hi => if_pos ⟨hi, hlt⟩
/-- What a list of pence says when it is fair. -/
def FairF (rs : List Rch) (ps : List Pay) (x : Nat → Int) : Prop := sumTo x ps.length = wholeF rs ps ∧ obj (abF rs) (coF rs) rs.length (load (rcF ps) x ps.length) = 0
theorem fair_of_btw (hr : RsOk rs) (h : PsOk rs ps) {x : Nat → Int} (hb : Btw (abF rs) (coF rs) (rcF ps) ps.length rs.length (wholeF rs ps) x x) : FairF rs ps x := by
 refine btw_fair hr.ab (used_upC hr h) ?_ hb
 rw [sumIn_sub, load_sum h.rcl]
 congr 1
 exact sumTo_congr fun i hi => if_pos (used_rc h i hi)
end
end Go.Proofs.YtegmniphgahblaaGreat
namespace Go.Proofs.YtegmniphgahblaaGreat

section
variable (ab co : Nat → Int) (m : Nat) (at0 : Nat → Int)
/-- What is at each reach when the last j ones are done. -/
def atS : Nat → Nat → Int
 | 0 => at0
 | j + 1 => fun r => if 0 ≤ ab (m - 1 - j) ∧ r = (ab (m - 1 - j)).toNat then atS j r + max 0 (atS j (m - 1 - j) - co (m - 1 - j)) else atS j r
/-- What is too much from a reach on. -/
def outS (r : Nat) : Int := max 0 (atS ab co m at0 (m - 1 - r) r - co r)
end
section
variable {ab co : Nat → Int} {m : Nat} {at0 : Nat → Int}
theorem obj_run (hab : ∀ r, r < m → ab r < r) : ∀ j, j ≤ m → obj ab co m at0 = sumTo (fun r => if m - j ≤ r ∧ ab r < 0 then outS ab co m at0 r else 0) m + obj ab co (m - j) (atS ab co m at0 j)
 | 0, _ => by
  have e : sumTo (fun r => if m - 0 ≤ r ∧ ab r < 0 then outS ab co m at0 r else 0) m = 0 := (sumTo_congr (g := fun _ => 0) fun r hr => if_neg (by omega)).trans (sumTo_zero m)
  rw [e]
  show _ = 0 + obj ab co (m - 0) at0
  rw [Nat.sub_zero]; omega
 | j + 1, hj => by
  rw [obj_run hab j (by omega)]
  have hk : m - j = (m - 1 - j) + 1 := by omega
  have hk2 : m - (j + 1) = m - 1 - j := by omega
  have hout : outS ab co m at0 (m - 1 - j) = max 0 (atS ab co m at0 j (m - 1 - j) - co (m - 1 - j)) := by
   unfold outS
   rw [show m - 1 - (m - 1 - j) = j by omega]
  have one := sumTo_one (m - 1 - j) (if ab (m - 1 - j) < 0 then outS ab co m at0 (m - 1 - j) else 0) m
  rw [if_pos (show m - 1 - j < m by omega)] at one
  have add := sumTo_add (fun r => if m - j ≤ r ∧ ab r < 0 then outS ab co m at0 r else 0) (fun r => if r = m - 1 - j then (if ab (m - 1 - j) < 0 then outS ab co m at0 (m - 1 - j) else 0) else 0) m
  have e : sumTo (fun r => (if m - j ≤ r ∧ ab r < 0 then outS ab co m at0 r else 0) + (if r = m - 1 - j then (if ab (m - 1 - j) < 0 then outS ab co m at0 (m - 1 - j) else 0) else 0)) m = sumTo (fun r => if m - (j + 1) ≤ r ∧ ab r < 0 then outS ab co m at0 r else 0) m := sumTo_congr fun r _ => by
   by_cases h : r = m - 1 - j
   ·subst h
    rw [if_neg (show ¬ (m - j ≤ m - 1 - j ∧ ab (m - 1 - j) < 0) by omega), if_pos rfl, Int.zero_add]
    by_cases h2 : ab (m - 1 - j) < 0
    ·rw [if_pos h2, if_pos ⟨by omega, h2⟩]
    ·rw [if_neg h2, if_neg (fun h => h2 h.2)]
   ·rw [if_neg h, Int.add_zero]
    by_cases h2 : m - j ≤ r ∧ ab r < 0
    ·rw [if_pos h2, if_pos ⟨by omega, h2.2⟩]
    ·rw [if_neg h2, if_neg (fun h3 => h2 ⟨by omega, h3.2⟩)]
  have step : obj ab co (m - j) (atS ab co m at0 j) = (if ab (m - 1 - j) < 0 then outS ab co m at0 (m - 1 - j) else 0) + obj ab co (m - (j + 1)) (atS ab co m at0 (j + 1)) := by
   rw [hk, hk2]
   show (if ab (m - 1 - j) < 0 then _ else _) = _
   by_cases h : ab (m - 1 - j) < 0
   ·rw [if_pos h, if_pos h, hout]
    congr 1
    congr 1
    funext r
    show _ = if _ then _ else _
    rw [if_neg (by omega)]
   ·rw [if_neg h, if_neg h, Int.zero_add]
    congr 1
    funext r
    show _ = if _ then _ else _
    by_cases h2 : r = (ab (m - 1 - j)).toNat
    ·rw [if_pos h2, if_pos ⟨by omega, h2⟩]
    ·rw [if_neg h2, if_neg (fun h3 => h2 h3.2)]
  omega
theorem obj_out (hab : ∀ r, r < m → ab r < r) : obj ab co m at0 = sumTo (fun r => if ab r < 0 then outS ab co m at0 r else 0) m := by
 rw [obj_run hab m (Nat.le_refl _), Nat.sub_self]
 show _ + (0 : Int) = _
 rw [Int.add_zero]
 exact sumTo_congr fun r _ => by
  by_cases h : ab r < 0
  ·rw [if_pos h, if_pos ⟨Nat.zero_le _, h⟩]
  ·rw [if_neg h, if_neg (fun k => h k.2)]
/-- No number gets out of bounds. -/
theorem atS_rng (hab : ∀ r, r < m → ab r < r) (hco : ∀ r, r < m → 0 ≤ co r) {C : Int} (h0 : ∀ r, r < m → 0 ≤ at0 r) (hC : sumTo at0 m ≤ C) : ∀ j, j ≤ m → (∀ r, r < m - j → 0 ≤ atS ab co m at0 j r) ∧ sumTo (atS ab co m at0 j) (m - j) ≤ C
 | 0, _ => ⟨fun r hr => h0 r (by omega), by rw [Nat.sub_zero]; exact hC⟩
 | j + 1, hj => by
  obtain ⟨i1, i2⟩ := atS_rng hab hco h0 hC j (by omega)
  have hk : m - j = (m - 1 - j) + 1 := by omega
  have hk2 : m - (j + 1) = m - 1 - j := by omega
  rw [hk] at i1 i2
  rw [hk2]
  have hA := i1 (m - 1 - j) (by omega)
  have hc := hco (m - 1 - j) (by omega)
  have e2 : sumTo (atS ab co m at0 j) (m - 1 - j + 1) = sumTo (atS ab co m at0 j) (m - 1 - j) + atS ab co m at0 j (m - 1 - j) := rfl
  have ho : 0 ≤ max 0 (atS ab co m at0 j (m - 1 - j) - co (m - 1 - j)) ∧ max 0 (atS ab co m at0 j (m - 1 - j) - co (m - 1 - j)) ≤ atS ab co m at0 j (m - 1 - j) := by omega
  have hdef : ∀ r, atS ab co m at0 (j + 1) r = if 0 ≤ ab (m - 1 - j) ∧ r = (ab (m - 1 - j)).toNat then atS ab co m at0 j r + max 0 (atS ab co m at0 j (m - 1 - j) - co (m - 1 - j)) else atS ab co m at0 j r := fun _ => rfl
  generalize max 0 (atS ab co m at0 j (m - 1 - j) - co (m - 1 - j)) = o at *
  refine ⟨fun r hr => ?_, ?_⟩
  ·have := i1 r (by omega)
   rw [hdef]
   split <;> omega
  ·have one := sumTo_one (ab (m - 1 - j)).toNat o (m - 1 - j)
   have add := sumTo_add (atS ab co m at0 j) (fun r => if r = (ab (m - 1 - j)).toNat then o else 0) (m - 1 - j)
   have le : sumTo (atS ab co m at0 (j + 1)) (m - 1 - j) ≤ sumTo (fun r => atS ab co m at0 j r + (if r = (ab (m - 1 - j)).toNat then o else 0)) (m - 1 - j) := sumTo_le fun r _ => by
    rw [hdef]
    by_cases h : r = (ab (m - 1 - j)).toNat
    ·rw [if_pos h]; split <;> omega
    ·rw [if_neg h, if_neg (fun k => h k.2)]; omega
   split at one <;> omega
theorem sumTo_ge {f : Nat → Int} : ∀ {n : Nat}, (∀ r, r < n → 0 ≤ f r) → ∀ {k : Nat}, k < n → f k ≤ sumTo f n
 | n + 1, h, k, hk => by
  have h1 := h n (by omega)
  have e : sumTo f (n + 1) = sumTo f n + f n := rfl
  by_cases hkn : k = n
  ·subst hkn
   have := sumTo_nonneg (n := k) (f := f) fun r hr => h r (by omega)
   omega
  ·have := sumTo_ge (n := n) (fun r hr => h r (by omega)) (k := k) (by omega)
   omega
theorem atS_le (hab : ∀ r, r < m → ab r < r) (hco : ∀ r, r < m → 0 ≤ co r) {C : Int} (h0 : ∀ r, r < m → 0 ≤ at0 r) (hC : sumTo at0 m ≤ C) {j r : Nat} (hj : j ≤ m) (hr : r < m - j) : 0 ≤ atS ab co m at0 j r ∧ atS ab co m at0 j r ≤ C := by
 obtain ⟨h1, h2⟩ := atS_rng hab hco h0 hC j hj
 exact ⟨h1 r hr, Int.le_trans (sumTo_ge h1 hr) h2⟩
theorem load_total {rc : Nat → Nat} {x : Nat → Int} {n : Nat} (h : ∀ i, i < n → rc i < m) : sumTo (load rc x n) m = sumTo x n := by
 have e := load_sum (x := x) (T := fun _ => true) h
 simpa [sumIn] using e
end
end Go.Proofs.YtegmniphgahblaaGreat
namespace Go.Proofs.YtegmniphgahblaaGreat

/-- What a payer pays of a reach that it uses, lcmT times. -/
def stN (rs : List Rch) (ps : List Pay) (i r : Nat) : Nat := (coF rs r).toNat * (wtF ps i).toNat * (lcmT / (allF rs ps r).toNat)
def sN (rs : List Rch) (ps : List Pay) (i : Nat) (pre : List Nat) : Nat := (pre.map (stN rs ps i)).sum
def shN (rs : List Rch) (ps : List Pay) (i : Nat) : Nat := sN rs ps i (way (abF rs) (yAt ps i).rc)
theorem sN_snoc (rs : List Rch) (ps : List Pay) (i : Nat) (pre : List Nat) (x : Nat) : sN rs ps i (pre ++ [x]) = sN rs ps i pre + stN rs ps i x := by simp [sN]
section
variable {rs : List Rch} {ps : List Pay}
theorem wt_le_all (h : PsOk rs ps) {i r : Nat} (hi : i < ps.length) (hu : usF rs ps i r = true) : 1 ≤ wtF ps i ∧ wtF ps i ≤ allF rs ps r ∧ allF rs ps r ≤ 24 := by
 have h1 := allTo_mono h r (show i + 1 ≤ ps.length by omega) (Nat.le_refl _)
 have h0 := allTo_mono h r (show i ≤ ps.length by omega) (Nat.le_refl _)
 have h2 := allF_rng h r
 have e : allTo rs ps (i + 1) r = allTo rs ps i r + (if usF rs ps i r = true then wtF ps i else 0) := rfl
 rw [if_pos hu] at e
 have := h.wt i hi
 have h3 : wtF ps i = (yAt ps i).wt := rfl
 have h4 : allF rs ps r = allTo rs ps ps.length r := rfl
 omega
theorem stN_le (hr : RsOk rs) (h : PsOk rs ps) {i r : Nat} (hi : i < ps.length) (hlt : r < rs.length) (hu : usF rs ps i r = true) : stN rs ps i r ≤ 65536 * lcmT := by
 have h1 := wt_le_all h hi hu
 have h2 := hr.co r hlt
 have h3 : coF rs r = (rAt rs r).co := rfl
 unfold stN
 rw [Nat.mul_assoc]
 refine Nat.mul_le_mul (by omega) ?_
 refine Nat.le_trans (Nat.mul_le_mul_right _ (show (wtF ps i).toNat ≤ (allF rs ps r).toNat by omega)) ?_
 exact Nat.mul_div_le _ _
theorem sN_le (hr : RsOk rs) (h : PsOk rs ps) {i : Nat} (hi : i < ps.length) : ∀ (pre : List Nat), (∀ r ∈ pre, r < rs.length ∧ usF rs ps i r = true) → sN rs ps i pre ≤ pre.length * (65536 * lcmT)
 | [], _ => Nat.le_of_eq (by simp [sN])
 | x :: pre, hp => by
  have h1 := sN_le hr h hi pre fun r hm => hp r (List.mem_cons_of_mem _ hm)
  have h2 := hp x List.mem_cons_self
  have h3 := stN_le hr h hi h2.1 h2.2
  show sN rs ps i (x :: pre) ≤ (pre.length + 1) * _
  rw [Nat.add_mul, Nat.one_mul]
  simp only [sN, List.map_cons, List.sum_cons] at h1 ⊢
  omega
theorem stN_cast (hr : RsOk rs) (h : PsOk rs ps) {i r : Nat} (hi : i < ps.length) (hlt : r < rs.length) (hu : usF rs ps i r = true) : (stN rs ps i r : Int) = dF rs ps i r := by
 have h1 := wt_le_all h hi hu
 have h2 := hr.co r hlt
 have h3 : coF rs r = (rAt rs r).co := rfl
 unfold stN dF
 rw [if_pos hu, Int.natCast_mul, Int.natCast_mul, Int.natCast_ediv, Int.toNat_of_nonneg (by omega), Int.toNat_of_nonneg (by omega), Int.toNat_of_nonneg (by omega)]
theorem sum_mem (f : Nat → Int) (m : Nat) : ∀ (l : List Nat), l.Pairwise (fun a b => b < a) → (∀ r ∈ l, r < m) → sumTo (fun r => if r ∈ l then f r else 0) m = (l.map f).sum
 | [], _, _ => (sumTo_congr (g := fun _ => 0) fun r _ => if_neg (by simp)).trans (sumTo_zero m)
 | x :: l, hp, hm => by
  obtain ⟨h1, h2⟩ := List.pairwise_cons.1 hp
  have ih := sum_mem f m l h2 fun r hr => hm r (List.mem_cons_of_mem _ hr)
  have one := sumTo_one x (f x) m
  rw [if_pos (hm x List.mem_cons_self)] at one
  have add := sumTo_add (fun r => if r = x then f x else 0) (fun r => if r ∈ l then f r else 0) m
  have e : sumTo (fun r => (if r = x then f x else 0) + (if r ∈ l then f r else 0)) m = sumTo (fun r => if r ∈ x :: l then f r else 0) m := sumTo_congr fun r _ => by
   by_cases h : r = x
   ·subst h
    have : ¬ r ∈ l := fun e => by have := h1 r e; omega
    rw [if_pos rfl, if_neg this, if_pos List.mem_cons_self]; omega
   ·rw [if_neg h]
    by_cases hl : r ∈ l
    ·rw [if_pos hl, if_pos (List.mem_cons_of_mem _ hl)]; omega
    ·rw [if_neg hl, if_neg (fun e => (List.mem_cons.1 e).elim h hl)]; rfl
  rw [List.map_cons, List.sum_cons]
  omega
theorem way_us (hr : RsOk rs) (h : PsOk rs ps) {i : Nat} (hi : i < ps.length) (r : Nat) : r ∈ way (abF rs) (yAt ps i).rc ↔ usF rs ps i r = true := by
 rw [show (yAt ps i).rc = (rcF ps i : Int) by have := h.rc i hi; unfold rcF; omega]
 exact way_mem hr.ab _ (h.rcl i hi)
theorem shN_cast (hr : RsOk rs) (h : PsOk rs ps) {i : Nat} (hi : i < ps.length) : (shN rs ps i : Int) = shF rs ps i := by
 have hrc := h.rc i hi
 have hlt := way_lt hr.ab (yAt ps i).rc hrc.2
 have e1 := sum_mem (fun r => dF rs ps i r) rs.length (way (abF rs) (yAt ps i).rc) (way_desc hr.ab ((yAt ps i).rc.toNat + 1) _ hrc.2 (by omega)) fun r hm => (hlt r hm).2
 have e2 : sumTo (fun r => if r ∈ way (abF rs) (yAt ps i).rc then dF rs ps i r else 0) rs.length = shF rs ps i := sumTo_congr fun r _ => by
  by_cases hm : r ∈ way (abF rs) (yAt ps i).rc
  ·rw [if_pos hm]
  ·rw [if_neg hm]
   exact (if_neg fun e => hm ((way_us hr h hi r).2 e)).symm
 rw [← e2, e1]
 have key : ∀ l : List Nat, (∀ r ∈ l, r < rs.length ∧ usF rs ps i r = true) → ((sN rs ps i l : Nat) : Int) = (l.map (fun r => dF rs ps i r)).sum := fun l => by
  induction l with
  | nil => intro _; rfl
  | cons x l ih =>
   intro hl
   have h1 := ih fun r hm => hl r (List.mem_cons_of_mem _ hm)
   have h2 := hl x List.mem_cons_self
   have h3 := stN_cast hr h hi h2.1 h2.2
   simp only [sN, List.map_cons, List.sum_cons] at h1 ⊢
   rw [Int.natCast_add, h1, h3]
 exact key _ fun r hm => ⟨(hlt r hm).2, (way_us hr h hi r).1 hm⟩
end
end Go.Proofs.YtegmniphgahblaaGreat
