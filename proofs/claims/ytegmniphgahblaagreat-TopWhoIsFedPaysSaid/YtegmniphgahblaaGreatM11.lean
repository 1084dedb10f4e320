/- Plain: what a tree of reaches asks of a group, at most: over sets that are closed upwards. No program here. | Plain: between two lists of pence there are fair ones: the exchange. No program here. | Plain: rounding the shares to whole pence, one after the other. No program here. | Plain: the whole pence are fair. No program here. | Plain: the reaches above a reach. No program here. | Plain: shares that are divided on the reaches lie in the core; so between their floors and their ceilings there are fair pence. No program here. | Plain: fair pence can be divided on the reaches, from the last one. No program here. -/

namespace Go.Proofs.YtegmniphgahblaaGreat

/-- The sum of the first n. -/
def sumTo (f : Nat → Int) : Nat → Int
 | 0 => 0
 | n + 1 => sumTo f n + f n
/-- The sum of those of the first n that are in a set. -/
def sumIn (T : Nat → Bool) (f : Nat → Int) (n : Nat) : Int := sumTo (fun r => if T r = true then f r else 0) n
theorem sumTo_congr {f g : Nat → Int} : ∀ {n : Nat}, (∀ r, r < n → f r = g r) → sumTo f n = sumTo g n
 | 0, _ => rfl
 | n + 1, h => by
  have h1 := sumTo_congr (n := n) (fun r hr => h r (by omega))
  have h2 := h n (by omega)
  simp only [sumTo]
  omega
theorem sumTo_add (f g : Nat → Int) : ∀ n, sumTo (fun r => f r + g r) n = sumTo f n + sumTo g n
 | 0 => rfl
 | n + 1 => by
  have := sumTo_add f g n
  simp only [sumTo]
  omega
theorem sumTo_le {f g : Nat → Int} : ∀ {n : Nat}, (∀ r, r < n → f r ≤ g r) → sumTo f n ≤ sumTo g n
 | 0, _ => Int.le_refl _
 | n + 1, h => by
  have h1 := sumTo_le (n := n) (fun r hr => h r (by omega))
  have h2 := h n (by omega)
  simp only [sumTo]
  omega
theorem sumTo_one (a : Nat) (o : Int) : ∀ n, sumTo (fun r => if r = a then o else 0) n = if a < n then o else 0
 | 0 => rfl
 | n + 1 => by
  have := sumTo_one a o n
  simp only [sumTo, this]
  by_cases h1 : a < n
  ·rw [if_pos h1, if_neg (by omega), if_pos (by omega)]; omega
  ·by_cases h2 : n = a
   ·rw [if_neg h1, if_pos h2, if_pos (by omega)]; omega
   ·rw [if_neg h1, if_neg h2, if_neg (by omega)]; omega
/-- A set of reaches that is closed upwards. -/
def UpC (ab : Nat → Int) (n : Nat) (T : Nat → Bool) : Prop := ∀ r a : Nat, r < n → T r = true → ab r = (a : Int) → T a = true
/-- By how much a group pays too much at most: reaches from the last. -/
def obj (ab co : Nat → Int) : Nat → (Nat → Int) → Int
 | 0, _ => 0
 | k + 1, at_ => if ab k < 0 then max 0 (at_ k - co k) + obj ab co k at_ else obj ab co k (fun r => if r = (ab k).toNat then at_ r + max 0 (at_ k - co k) else at_ r)
theorem sumIn_put (T : Nat → Bool) (at_ co : Nat → Int) (a k : Nat) (o : Int) (ha : a < k) : sumIn T (fun r => (if r = a then at_ r + o else at_ r) - co r) k = sumIn T (fun r => at_ r - co r) k + (if T a = true then o else 0) := by
 have h := sumTo_add (fun r => if T r = true then at_ r - co r else 0) (fun r => if r = a then (if T a = true then o else 0) else 0) k
 rw [sumTo_one, if_pos ha] at h
 unfold sumIn
 rw [← h]
 refine sumTo_congr fun r _ => ?_
 by_cases e : r = a
 ·subst e
  by_cases t : T r = true
  ·simp only [t, if_true]; omega
  ·simp only [t, if_true]; simp
 ·simp only [if_neg e]; omega
theorem obj_ge {ab co : Nat → Int} : ∀ (k : Nat) (at_ : Nat → Int) (T : Nat → Bool), (∀ r, r < k → ab r < r) → UpC ab k T → sumIn T (fun r => at_ r - co r) k ≤ obj ab co k at_
 | 0, _, _, _, _ => Int.le_refl _
 | k + 1, at_, T, hab, hT => by
  have hT' : UpC ab k T := fun r a hr => hT r a (by omega)
  have hab' : ∀ r, r < k → ab r < r := fun r hr => hab r (by omega)
  have e : sumIn T (fun r => at_ r - co r) (k + 1) = sumIn T (fun r => at_ r - co r) k + (if T k = true then at_ k - co k else 0) := rfl
  rw [e]
  unfold obj
  by_cases h0 : ab k < 0
  ·rw [if_pos h0]
   have := obj_ge (co := co) k at_ T hab' hT'
   by_cases t : T k = true
   ·rw [if_pos t]; omega
   ·rw [if_neg t]; omega
  ·rw [if_neg h0]
   have hk := hab k (by omega)
   have ha : (ab k).toNat < k := by omega
   have := obj_ge (co := co) k (fun r => if r = (ab k).toNat then at_ r + max 0 (at_ k - co k) else at_ r) T hab' hT'
   rw [sumIn_put T at_ co _ k _ ha] at this
   by_cases t : T k = true
   ·have ta := hT k (ab k).toNat (by omega) t (by omega)
    rw [if_pos ta] at this
    rw [if_pos t]
    omega
   ·rw [if_neg t]
    by_cases ta : T (ab k).toNat = true
    ·rw [if_pos ta] at this; omega
    ·rw [if_neg ta] at this; omega
theorem obj_eq {ab co : Nat → Int} : ∀ (k : Nat) (at_ : Nat → Int), (∀ r, r < k → ab r < r) → ∃ T, UpC ab k T ∧ sumIn T (fun r => at_ r - co r) k = obj ab co k at_
 | 0, _, _ => ⟨fun _ => false, fun _ _ h => absurd h (Nat.not_lt_zero _), rfl⟩
 | k + 1, at_, hab => by
  have hab' : ∀ r, r < k → ab r < r := fun r hr => hab r (by omega)
  have hk := hab k (by omega)
  have key : ∀ (T : Nat → Bool) (b : Bool) (f : Nat → Int), sumIn (fun r => if r = k then b else T r) f (k + 1) = sumIn T f k + (if b = true then f k else 0) := fun T b f => by
   show sumTo _ k + _ = _
   congr 1
   ·exact sumTo_congr fun r hr => by simp only [if_neg (show ¬ r = k by omega)]
   ·simp
  unfold obj
  by_cases h0 : ab k < 0
  ·rw [if_pos h0]
   obtain ⟨T, h1, h2⟩ := obj_eq (co := co) k at_ hab'
   refine ⟨fun r => if r = k then decide (0 < at_ k - co k) else T r, fun r a hr ht he => ?_, ?_⟩
   ·by_cases e : r = k
    ·subst e; omega
    ·have := hab' r (by omega)
     simp only [if_neg e] at ht
     show (if a = k then _ else T a) = true
     rw [if_neg (by omega)]
     exact h1 r a (by omega) ht he
   ·rw [key, h2]
    by_cases h : 0 < at_ k - co k
    ·rw [if_pos (decide_eq_true h)]; omega
    ·rw [decide_eq_false h, if_neg (by simp)]; omega
  ·rw [if_neg h0]
   have ha : (ab k).toNat < k := by omega
   obtain ⟨T, h1, h2⟩ := obj_eq (co := co) k (fun r => if r = (ab k).toNat then at_ r + max 0 (at_ k - co k) else at_ r) hab'
   rw [sumIn_put T at_ co _ k _ ha] at h2
   refine ⟨fun r => if r = k then T (ab k).toNat && decide (0 < at_ k - co k) else T r, fun r a hr ht he => ?_, ?_⟩
   ·by_cases e : r = k
    ·subst e
     simp only [if_true, Bool.and_eq_true] at ht
     show (if a = r then _ else T a) = true
     rw [if_neg (by omega), show a = (ab r).toNat by omega]
     exact ht.1
    ·have := hab' r (by omega)
     simp only [if_neg e] at ht
     show (if a = k then _ else T a) = true
     rw [if_neg (by omega)]
     exact h1 r a (by omega) ht he
   ·rw [key, ← h2]
    congr 1
    by_cases t : T (ab k).toNat = true
    ·rw [if_pos t, t, Bool.true_and]
     by_cases h : 0 < at_ k - co k
     ·rw [if_pos (decide_eq_true h)]; omega
     ·rw [decide_eq_false h, if_neg (by simp)]; omega
    ·rw [if_neg t, if_neg (by rw [Bool.and_eq_true]; exact fun h => t h.1)]
end Go.Proofs.YtegmniphgahblaaGreat
namespace Go.Proofs.YtegmniphgahblaaGreat

theorem sumIn_le {f g : Nat → Int} {T : Nat → Bool} {n : Nat} (h : ∀ r, r < n → T r = true → f r ≤ g r) : sumIn T f n ≤ sumIn T g n := sumTo_le fun r hr => by
 by_cases t : T r = true
 ·simp only [t, if_true]; exact h r hr t
 ·simp only [if_neg t]; exact Int.le_refl _
theorem sumIn_union (S T : Nat → Bool) (f : Nat → Int) (n : Nat) : sumIn (fun r => S r || T r) f n + sumIn (fun r => S r && T r) f n = sumIn S f n + sumIn T f n := by
 unfold sumIn
 rw [← sumTo_add, ← sumTo_add]
 refine sumTo_congr fun r _ => ?_
 cases hs : S r <;> cases ht : T r <;> simp [hs, ht]
theorem sumIn_diff (S T : Nat → Bool) (f : Nat → Int) (n : Nat) : sumIn (fun r => S r && !T r) f n + sumIn (fun r => S r && T r) f n = sumIn S f n := by
 unfold sumIn
 rw [← sumTo_add]
 refine sumTo_congr fun r _ => ?_
 cases hs : S r <;> cases ht : T r <;> simp [hs, ht]
theorem upC_union {ab : Nat → Int} {n : Nat} {S T : Nat → Bool} (hS : UpC ab n S) (hT : UpC ab n T) : UpC ab n (fun r => S r || T r) := fun r a hr h e => by
 rw [Bool.or_eq_true] at h ⊢
 exact h.imp (fun h => hS r a hr h e) (fun h => hT r a hr h e)
theorem upC_inter {ab : Nat → Int} {n : Nat} {S T : Nat → Bool} (hS : UpC ab n S) (hT : UpC ab n T) : UpC ab n (fun r => S r && T r) := fun r a hr h e => by
 rw [Bool.and_eq_true] at h ⊢
 exact ⟨hS r a hr h.1 e, hT r a hr h.2 e⟩
/-- A set tight for the least, and one tight for the most without its reach: they can't differ there. -/
theorem exchange {ab co lo hi : Nat → Int} {n i : Nat} {M : Int} {S T : Nat → Bool} (hS : UpC ab n S) (hT : UpC ab n T) (hlo : ∀ U, UpC ab n U → sumIn U (fun r => lo r - co r) n ≤ 0) (hhi : ∀ U, UpC ab n U → sumIn U (fun r => hi r - co r) n ≤ M)
  (hle : ∀ r, r < n → lo r ≤ hi r) (hi' : lo i < hi i) (hin : i < n) (iS : S i = true) (iT : T i = false) (tS : 0 ≤ sumIn S (fun r => lo r - co r) n) (tT : M ≤ sumIn T (fun r => hi r - co r) n) : False := by
 have h1 := hlo _ (upC_inter hS hT)
 have h2 := hhi _ (upC_union hS hT)
 have h3 := sumIn_union S T (fun r => hi r - co r) n
 have h4 := sumIn_diff S T (fun r => hi r - co r) n
 have h5 := sumIn_diff S T (fun r => lo r - co r) n
 have h6 : sumIn (fun r => S r && !T r) (fun r => lo r - co r) n + 1 ≤ sumIn (fun r => S r && !T r) (fun r => hi r - co r) n := by
  have e := sumTo_one i 1 n
  rw [if_pos hin] at e
  have h := sumTo_le (n := n) (f := fun r => (if (S r && !T r) = true then lo r - co r else 0) + (if r = i then 1 else 0)) (g := fun r => if (S r && !T r) = true then hi r - co r else 0) (fun r hr => by
   have := hle r hr
   by_cases e : r = i
   ·subst e
    simp only [iS, iT, Bool.not_false, Bool.and_self, if_true]
    omega
   ·rw [if_neg e]
    by_cases t : (S r && !T r) = true
    ·rw [if_pos t, if_pos t]; omega
    ·rw [if_neg t, if_neg t]; omega)
  rw [sumTo_add, e] at h
  exact h
 omega
end Go.Proofs.YtegmniphgahblaaGreat
namespace Go.Proofs.YtegmniphgahblaaGreat

/-- What those at a reach pay. -/
def load (rc : Nat → Nat) (x : Nat → Int) (n r : Nat) : Int := sumTo (fun i => if rc i = r then x i else 0) n
def setI (x : Nat → Int) (i : Nat) (v : Int) : Nat → Int := fun j => if j = i then v else x j
theorem load_setI (rc : Nat → Nat) (x : Nat → Int) (n i r : Nat) (v : Int) (h : i < n) : load rc (setI x i v) n r = load rc x n r + (if r = rc i then v - x i else 0) := by
 have e := sumTo_one i (if r = rc i then v - x i else 0) n
 rw [if_pos h] at e
 rw [← e]
 unfold load
 rw [← sumTo_add]
 refine sumTo_congr fun j _ => ?_
 unfold setI
 by_cases hj : j = i
 ·subst hj
  by_cases hr : rc j = r
  ·subst hr; simp only [if_true]; omega
  ·rw [if_neg hr, if_neg hr, if_pos rfl, if_neg (fun e => hr e.symm)]; rfl
 ·rw [if_neg hj, if_neg hj]; omega
theorem sumIn_setI (rc : Nat → Nat) (x co : Nat → Int) (n m i : Nat) (v : Int) (T : Nat → Bool) (h : i < n) (hm : rc i < m) : sumIn T (fun r => load rc (setI x i v) n r - co r) m = sumIn T (fun r => load rc x n r - co r) m + (if T (rc i) = true then v - x i else 0) := by
 rw [← sumIn_put T (fun r => load rc x n r) co (rc i) m (v - x i) hm]
 unfold sumIn
 refine sumTo_congr fun r _ => ?_
 dsimp only
 rw [load_setI rc x n i r v h]
 by_cases hr : r = rc i
 ·simp only [if_pos hr]
 ·simp only [if_neg hr, Int.add_zero]
theorem load_le {rc : Nat → Nat} {x y : Nat → Int} {n : Nat} (h : ∀ i, i < n → x i ≤ y i) (r : Nat) : load rc x n r ≤ load rc y n r := sumTo_le fun i hi => by
 by_cases hr : rc i = r
 ·rw [if_pos hr, if_pos hr]; exact h i hi
 ·rw [if_neg hr, if_neg hr]; exact Int.le_refl _
/-- There are fair pence between two lists. -/
def Btw (ab co : Nat → Int) (rc : Nat → Nat) (n m : Nat) (W : Int) (lo hi : Nat → Int) : Prop := obj ab co m (load rc lo n) = 0 ∧ obj ab co m (load rc hi n) ≤ sumTo hi n - W
theorem sumTo_setI (x : Nat → Int) (n i : Nat) (v : Int) (h : i < n) : sumTo (setI x i v) n = sumTo x n + (v - x i) := by
 have e := sumTo_one i (v - x i) n
 rw [if_pos h] at e
 rw [← e, ← sumTo_add]
 refine sumTo_congr fun j _ => ?_
 unfold setI
 by_cases hj : j = i
 ·subst hj; simp only [if_true]; omega
 ·rw [if_neg hj, if_neg hj]; omega
theorem round_step {ab co : Nat → Int} {rc : Nat → Nat} {n m i : Nat} {W : Int} {lo hi : Nat → Int} (hab : ∀ r, r < m → ab r < r) (hrc : ∀ i, i < n → rc i < m) (hin : i < n) (hle : ∀ j, j < n → lo j ≤ hi j) (h1 : hi i ≤ lo i + 1) (hb : Btw ab co rc n m W lo hi) (hno : ¬ Btw ab co rc n m W (setI lo i (hi i)) hi) : Btw ab co rc n m W lo (setI hi i (lo i)) := by
 refine ⟨hb.1, Classical.byContradiction fun hc => ?_⟩
 have hlo : ∀ U, UpC ab m U → sumIn U (fun r => load rc lo n r - co r) m ≤ 0 := fun U hU => hb.1 ▸ obj_ge m _ U hab hU
 have hhi : ∀ U, UpC ab m U → sumIn U (fun r => load rc hi n r - co r) m ≤ sumTo hi n - W := fun U hU => Int.le_trans (obj_ge m _ U hab hU) hb.2
 have hi0 := hrc i hin
 obtain ⟨S, hS, eS⟩ := obj_eq (co := co) m (load rc (setI lo i (hi i)) n) hab
 obtain ⟨T, hT, eT⟩ := obj_eq (co := co) m (load rc (setI hi i (lo i)) n) hab
 rw [sumIn_setI rc lo co n m i (hi i) S hin hi0] at eS
 rw [sumIn_setI rc hi co n m i (lo i) T hin hi0] at eT
 have hz := obj_ge (co := co) m (load rc (setI lo i (hi i)) n) (fun _ => false) hab (fun _ _ _ h => by cases h)
 have hz0 : sumIn (fun _ => false) (fun r => load rc (setI lo i (hi i)) n r - co r) m = 0 := by
  have : ∀ k, sumIn (fun _ => false) (fun r => load rc (setI lo i (hi i)) n r - co r) k = 0 := fun k => by
   induction k with
   | zero => rfl
   | succ k ih => show sumIn _ _ k + (if false = true then _ else 0) = 0; rw [ih, if_neg (by decide)]; rfl
  exact this m
 have hS0 : obj ab co m (load rc (setI lo i (hi i)) n) ≠ 0 := fun e => hno ⟨e, hb.2⟩
 have hsum := sumTo_setI hi n i (lo i) hin
 have s1 := hlo S hS
 have s2 := hhi T hT
 have hl := hle i hin
 have iS : S (rc i) = true := by
  cases e : S (rc i)
  ·rw [e, if_neg (by decide)] at eS; omega
  ·rfl
 have iT : T (rc i) = false := by
  cases e : T (rc i)
  ·rfl
  ·rw [e, if_pos rfl] at eT; omega
 rw [iS, if_pos rfl] at eS
 rw [iT, if_neg (by decide)] at eT
 have hlt : load rc lo n (rc i) < load rc hi n (rc i) := by
  have e := load_le (rc := rc) (x := setI lo i (hi i)) (y := hi) (n := n) (fun j hj => by unfold setI; by_cases e : j = i; (· rw [if_pos e, e]; exact Int.le_refl _); (· rw [if_neg e]; exact hle j hj)) (rc i)
  rw [load_setI rc lo n i (rc i) (hi i) hin, if_pos rfl] at e
  omega
 exact exchange hS hT hlo hhi (fun r _ => load_le hle r) hlt hi0 iS iT (by omega) (by omega)
end Go.Proofs.YtegmniphgahblaaGreat
namespace Go.Proofs.YtegmniphgahblaaGreat

open Classical in
/-- The two lists after the first k payers were asked. -/
noncomputable def rnd (B : (Nat → Int) → (Nat → Int) → Prop) (lo hi : Nat → Int) : Nat → (Nat → Int) × (Nat → Int)
 | 0 => (lo, hi)
 | k + 1 => let p := rnd B lo hi k
  if B (setI p.1 k (p.2 k)) p.2 then (setI p.1 k (p.2 k), p.2) else (p.1, setI p.2 k (p.1 k))
theorem setI_at (x : Nat → Int) (i : Nat) (v : Int) : setI x i v i = v := if_pos rfl
theorem setI_ne (x : Nat → Int) {i j : Nat} (v : Int) (h : j ≠ i) : setI x i v j = x j := if_neg h
theorem rnd_ok {ab co : Nat → Int} {rc : Nat → Nat} {n m : Nat} {W : Int} {lo hi : Nat → Int} (hab : ∀ r, r < m → ab r < r) (hrc : ∀ i, i < n → rc i < m) (hle : ∀ j, j < n → lo j ≤ hi j ∧ hi j ≤ lo j + 1) (hb : Btw ab co rc n m W lo hi) :
  ∀ k, k ≤ n → Btw ab co rc n m W (rnd (Btw ab co rc n m W) lo hi k).1 (rnd (Btw ab co rc n m W) lo hi k).2 ∧ (∀ j, j < k → (rnd (Btw ab co rc n m W) lo hi k).1 j = (rnd (Btw ab co rc n m W) lo hi k).2 j ∧ lo j ≤ (rnd (Btw ab co rc n m W) lo hi k).1 j ∧ (rnd (Btw ab co rc n m W) lo hi k).1 j ≤ hi j) ∧ (∀ j, k ≤ j → (rnd (Btw ab co rc n m W) lo hi k).1 j = lo j ∧ (rnd (Btw ab co rc n m W) lo hi k).2 j = hi j)
 | 0, _ => ⟨hb, fun j hj => absurd hj (Nat.not_lt_zero _), fun _ _ => ⟨rfl, rfl⟩⟩
 | k + 1, hk => by
  obtain ⟨h1, h2, h3⟩ := rnd_ok hab hrc hle hb k (by omega)
  have hle' : ∀ j, j < n → (rnd (Btw ab co rc n m W) lo hi k).1 j ≤ (rnd (Btw ab co rc n m W) lo hi k).2 j := fun j hj => by
   by_cases e : j < k
   ·rw [(h2 j e).1]; exact Int.le_refl _
   ·rw [(h3 j (by omega)).1, (h3 j (by omega)).2]; exact (hle j hj).1
  have hk1 := h3 k (Nat.le_refl _)
  have hlk := hle k (by omega)
  unfold rnd
  generalize rnd (Btw ab co rc n m W) lo hi k = p at *
  dsimp only
  by_cases hq : Btw ab co rc n m W (setI p.1 k (p.2 k)) p.2
  ·rw [if_pos hq]
   refine ⟨hq, fun j hj => ?_, fun j hj => ?_⟩
   ·by_cases e : j = k
    ·subst e; simp only [setI_at]; rw [hk1.2]; exact ⟨trivial, hlk.1, Int.le_refl _⟩
    ·simp only [setI_ne _ _ e]; exact h2 j (by omega)
   ·simp only [setI_ne _ _ (show j ≠ k by omega)]; exact h3 j (by omega)
  ·rw [if_neg hq]
   refine ⟨round_step hab hrc (by omega) hle' (by rw [hk1.1, hk1.2]; exact hlk.2) h1 hq, fun j hj => ?_, fun j hj => ?_⟩
   ·by_cases e : j = k
    ·subst e; simp only [setI_at]; rw [hk1.1]; exact ⟨trivial, Int.le_refl _, hlk.1⟩
    ·simp only [setI_ne _ _ e]; exact h2 j (by omega)
   ·simp only [setI_ne _ _ (show j ≠ k by omega)]; exact h3 j (by omega)
/-- Pence are fair: nobody pays more than alone, and all pay what all cost. -/
theorem btw_fair {ab co : Nat → Int} {rc : Nat → Nat} {n m : Nat} {W : Int} {x : Nat → Int} {U : Nat → Bool} (hab : ∀ r, r < m → ab r < r) (hU : UpC ab m U) (hsum : sumIn U (fun r => load rc x n r - co r) m = sumTo x n - W) (hb : Btw ab co rc n m W x x) : sumTo x n = W ∧ obj ab co m (load rc x n) = 0 := by
 have h := obj_ge (co := co) m (load rc x n) U hab hU
 rw [hsum] at h
 have h1 := hb.1
 have h2 := hb.2
 rw [h1] at h h2
 exact ⟨by omega, h1⟩
end Go.Proofs.YtegmniphgahblaaGreat
namespace Go.Proofs.YtegmniphgahblaaGreat

def upB (ab : Nat → Int) : Nat → Nat → Nat → Bool
 | 0, _, _ => false
 | f + 1, x, r => decide (x = r) || (decide (0 ≤ ab x) && upB ab f (ab x).toNat r)
/-- Is r on the way from x up to the river? -/
def isUp (ab : Nat → Int) (x r : Nat) : Bool := upB ab (x + 1) x r
section
variable {ab : Nat → Int} {m : Nat}
theorem upB_fuel (hab : ∀ r, r < m → ab r < r) (r : Nat) : ∀ (f g x : Nat), x < m → x < f → x < g → upB ab f x r = upB ab g x r
 | 0, _, _, _, h, _ => absurd h (Nat.not_lt_zero _)
 | _ + 1, 0, _, _, _, h => absurd h (Nat.not_lt_zero _)
 | f + 1, g + 1, x, hx, hf, hg => by
  unfold upB
  by_cases h : 0 ≤ ab x
  ·have := hab x hx
   rw [upB_fuel hab r f g (ab x).toNat (by omega) (by omega) (by omega)]
  ·rw [decide_eq_false h, Bool.false_and, Bool.false_and]
theorem isUp_self (x : Nat) : isUp ab x x = true := by
 unfold isUp upB
 rw [decide_eq_true rfl, Bool.true_or]
theorem isUp_step (hab : ∀ r, r < m → ab r < r) {x r : Nat} (hx : x < m) : isUp ab x r = (decide (x = r) || (decide (0 ≤ ab x) && isUp ab (ab x).toNat r)) := by
 show upB ab (x + 1) x r = _
 unfold upB
 by_cases h : 0 ≤ ab x
 ·have := hab x hx
  rw [upB_fuel hab r x ((ab x).toNat + 1) (ab x).toNat (by omega) (by omega) (by omega)]
  rfl
 ·rw [decide_eq_false h, Bool.false_and, Bool.false_and]
theorem isUp_le (hab : ∀ r, r < m → ab r < r) {r : Nat} : ∀ (x : Nat), x < m → isUp ab x r = true → r ≤ x := by
 intro x
 induction x using Nat.strongRecOn with
 | _ x ih =>
  intro hx h
  rw [isUp_step hab hx, Bool.or_eq_true, Bool.and_eq_true, decide_eq_true_eq, decide_eq_true_eq] at h
  rcases h with h | ⟨h, h2⟩
  ·omega
  ·have := hab x hx
   have := ih (ab x).toNat (by omega) (by omega) h2
   omega
/-- Of two reaches on one way the lesser one lies above the other one. -/
theorem isUp_two (hab : ∀ r, r < m → ab r < r) {r k : Nat} : ∀ (x : Nat), x < m → isUp ab x r = true → isUp ab x k = true → r ≤ k → isUp ab k r = true := by
 intro x
 induction x using Nat.strongRecOn with
 | _ x ih =>
  intro hx hr hk hle
  have hr0 := hr
  rw [isUp_step hab hx, Bool.or_eq_true, Bool.and_eq_true, decide_eq_true_eq, decide_eq_true_eq] at hr hk
  rcases hk with hk | ⟨h, h2⟩
  ·subst hk; exact hr0
  ·have := hab x hx
   rcases hr with hr | ⟨_, h1⟩
   ·have := isUp_le hab _ (show (ab x).toNat < m by omega) h2
    omega
   ·exact ih (ab x).toNat (by omega) (by omega) h1 h2 hle
theorem isUp_trans (hab : ∀ r, r < m → ab r < r) {r k : Nat} : ∀ (x : Nat), x < m → isUp ab x k = true → isUp ab k r = true → isUp ab x r = true := by
 intro x
 induction x using Nat.strongRecOn with
 | _ x ih =>
  intro hx hk hr
  rw [isUp_step hab hx, Bool.or_eq_true, Bool.and_eq_true, decide_eq_true_eq, decide_eq_true_eq] at hk
  rcases hk with hk | ⟨h, h2⟩
  ·subst hk; exact hr
  ·have := hab x hx
   rw [isUp_step hab hx, Bool.or_eq_true, Bool.and_eq_true]
   exact .inr ⟨decide_eq_true h, ih (ab x).toNat (by omega) (by omega) h2 hr⟩
/-- What does not lie behind a reach is closed upwards. -/
theorem rest_upC (hab : ∀ r, r < m → ab r < r) (r : Nat) : UpC ab m (fun x => !isUp ab x r) := fun x a hx h e => by
 dsimp only at h ⊢
 cases ha : isUp ab a r
 ·rfl
 ·have : isUp ab x r = true := by
   rw [isUp_step hab hx, Bool.or_eq_true, Bool.and_eq_true]
   exact .inr ⟨decide_eq_true (by omega), by rw [show (ab x).toNat = a by omega]; exact ha⟩
  rw [this] at h
  exact absurd h (by decide)
/-- A set that is closed upwards holds the ways of what it holds. -/
theorem upC_way (hab : ∀ r, r < m → ab r < r) {T : Nat → Bool} (hT : UpC ab m T) {r : Nat} : ∀ (x : Nat), x < m → T x = true → isUp ab x r = true → T r = true := by
 intro x
 induction x using Nat.strongRecOn with
 | _ x ih =>
  intro hx ht hr
  rw [isUp_step hab hx, Bool.or_eq_true, Bool.and_eq_true, decide_eq_true_eq, decide_eq_true_eq] at hr
  rcases hr with hr | ⟨h, h2⟩
  ·subst hr; exact ht
  ·have := hab x hx
   exact ih (ab x).toNat (by omega) (by omega) (hT x _ hx ht (by omega)) h2
end
end Go.Proofs.YtegmniphgahblaaGreat
namespace Go.Proofs.YtegmniphgahblaaGreat

theorem sumTo_zero : ∀ n, sumTo (fun _ => 0) n = 0
 | 0 => rfl
 | n + 1 => by simp only [sumTo, sumTo_zero n]; rfl
theorem sumTo_mul (K : Int) (f : Nat → Int) : ∀ n, sumTo (fun r => K * f r) n = K * sumTo f n
 | 0 => by simp [sumTo]
 | n + 1 => by simp only [sumTo, sumTo_mul K f n, Int.mul_add]
theorem sumTo_nonneg {f : Nat → Int} {n : Nat} (h : ∀ r, r < n → 0 ≤ f r) : 0 ≤ sumTo f n := by
 have := sumTo_le (n := n) (f := fun _ => 0) (g := f) h
 rwa [sumTo_zero] at this
theorem sumTo_swap (D : Nat → Nat → Int) (n : Nat) : ∀ m, sumTo (fun i => sumTo (fun r => D i r) m) n = sumTo (fun r => sumTo (fun i => D i r) n) m
 | 0 => by simp only [sumTo]; exact sumTo_zero n
 | m + 1 => by
  simp only [sumTo]
  rw [sumTo_add, sumTo_swap D n m]
theorem load_sum {rc : Nat → Nat} {x : Nat → Int} {m : Nat} {T : Nat → Bool} : ∀ {n : Nat}, (∀ i, i < n → rc i < m) → sumIn T (load rc x n) m = sumTo (fun i => if T (rc i) = true then x i else 0) n
 | 0, _ => by
  show sumTo _ m = 0
  refine (sumTo_congr (g := fun _ => 0) fun r _ => ?_).trans (sumTo_zero m)
  show (if _ then (0 : Int) else 0) = 0
  split <;> rfl
 | n + 1, h => by
  have ih := load_sum (x := x) (T := T) (n := n) fun i hi => h i (by omega)
  have e := sumTo_one (rc n) (if T (rc n) = true then x n else 0) m
  rw [if_pos (h n (by omega))] at e
  show _ = sumTo _ n + (if T (rc n) = true then x n else 0)
  rw [← ih, ← e]
  unfold sumIn
  rw [← sumTo_add]
  refine sumTo_congr fun r _ => ?_
  show (if T r = true then load rc x n r + (if rc n = r then x n else 0) else 0) = _
  by_cases hr : r = rc n
  ·subst hr
   by_cases ht : T (rc n) = true
   ·simp only [ht, if_true]
   ·simp only [if_neg ht]; simp
  ·simp only [if_neg hr, if_neg (show ¬ rc n = r from fun e => hr e.symm), Int.add_zero]
theorem sumIn_sub (T : Nat → Bool) (f g : Nat → Int) (n : Nat) : sumIn T (fun r => f r - g r) n = sumIn T f n - sumIn T g n := by
 have h := sumTo_add (fun r => if T r = true then f r - g r else 0) (fun r => if T r = true then g r else 0) n
 have e : sumTo (fun r => (if T r = true then f r - g r else 0) + (if T r = true then g r else 0)) n = sumIn T f n := sumTo_congr fun r _ => by
  by_cases t : T r = true
  ·simp only [if_pos t]; omega
  ·simp only [if_neg t]; rfl
 unfold sumIn at *
 dsimp only at *
 omega
theorem obj_pos {ab co : Nat → Int} (m : Nat) (at_ : Nat → Int) (hab : ∀ r, r < m → ab r < r) : 0 ≤ obj ab co m at_ := by
 have h := obj_ge (co := co) m at_ (fun _ => false) hab (fun _ _ _ h => by cases h)
 have e : sumIn (fun _ => false) (fun r => at_ r - co r) m = 0 := (sumTo_congr (g := fun _ => 0) fun r _ => if_neg (fun h => by cases h)).trans (sumTo_zero m)
 rw [e] at h
 exact h
section
variable {ab co cu lo hi : Nat → Int} {rc : Nat → Nat} {n m : Nat} {K : Int} {D : Nat → Nat → Int}
theorem scale {a b K : Int} (hK : 0 < K) (h : K * a ≤ K * b) : a ≤ b := Int.le_of_mul_le_mul_left h hK
/-- What is paid by those who are in a set is paid of the set. -/
theorem div_in (hab : ∀ r, r < m → ab r < r) (hrc : ∀ i, i < n → rc i < m) (hD : ∀ i r, 0 ≤ D i r) (hu : ∀ i r, i < n → r < m → isUp ab (rc i) r = false → D i r = 0) {T : Nat → Bool} (hT : UpC ab m T) :
  sumTo (fun i => if T (rc i) = true then sumTo (fun r => D i r) m else 0) n ≤ sumTo (fun r => if T r = true then sumTo (fun i => D i r) n else 0) m := by
 have e1 : sumTo (fun r => if T r = true then sumTo (fun i => D i r) n else 0) m = sumTo (fun r => sumTo (fun i => if T r = true then D i r else 0) n) m := sumTo_congr fun r _ => by
  by_cases t : T r = true
  ·simp only [if_pos t]
  ·simp only [if_neg t]; exact (sumTo_zero n).symm
 rw [e1, ← sumTo_swap (fun i r => if T r = true then D i r else 0)]
 refine sumTo_le fun i hi => ?_
 by_cases t : T (rc i) = true
 ·rw [if_pos t]
  refine sumTo_le fun r hr => ?_
  by_cases u : T r = true
  ·rw [if_pos u]; exact Int.le_refl _
  ·rw [if_neg u, hu i r hi hr]
   ·exact Int.le_refl _
   ·cases e : isUp ab (rc i) r
    ·rfl
    ·exact absurd (upC_way hab hT _ (hrc i hi) t e) u
 ·rw [if_neg t]
  refine sumTo_nonneg fun r _ => ?_
  split
  ·exact hD _ _
  ·exact Int.le_refl _
theorem div_out (hab : ∀ r, r < m → ab r < r) (hrc : ∀ i, i < n → rc i < m) (hD : ∀ i r, 0 ≤ D i r) (hu : ∀ i r, i < n → r < m → isUp ab (rc i) r = false → D i r = 0) {T : Nat → Bool} (hT : UpC ab m T) :
  sumTo (fun r => if T r = true then 0 else sumTo (fun i => D i r) n) m ≤ sumTo (fun i => if T (rc i) = true then 0 else sumTo (fun r => D i r) m) n := by
 have h := div_in hab hrc hD hu hT
 have s := sumTo_swap D n m
 have a1 := sumTo_add (fun r => if T r = true then 0 else sumTo (fun i => D i r) n) (fun r => if T r = true then sumTo (fun i => D i r) n else 0) m
 have a2 := sumTo_add (fun i => if T (rc i) = true then 0 else sumTo (fun r => D i r) m) (fun i => if T (rc i) = true then sumTo (fun r => D i r) m else 0) n
 have e1 : sumTo (fun r => (if T r = true then 0 else sumTo (fun i => D i r) n) + (if T r = true then sumTo (fun i => D i r) n else 0)) m = sumTo (fun r => sumTo (fun i => D i r) n) m := sumTo_congr fun r _ => by split <;> simp
 have e2 : sumTo (fun i => (if T (rc i) = true then 0 else sumTo (fun r => D i r) m) + (if T (rc i) = true then sumTo (fun r => D i r) m else 0)) n = sumTo (fun i => sumTo (fun r => D i r) m) n := sumTo_congr fun r _ => by split <;> simp
 omega
/-- Shares that are divided on the reaches that are used: between numbers below and above them there are fair ones. -/
theorem div_btw (hab : ∀ r, r < m → ab r < r) (hrc : ∀ i, i < n → rc i < m) (hK : 0 < K) (hD : ∀ i r, 0 ≤ D i r) (hu : ∀ i r, i < n → r < m → isUp ab (rc i) r = false → D i r = 0) (hcu : ∀ r, r < m → 0 ≤ cu r ∧ cu r ≤ co r) (hcol : ∀ r, r < m → sumTo (fun i => D i r) n = K * cu r)
  (hlo : ∀ i, i < n → K * lo i ≤ sumTo (fun r => D i r) m) (hhi : ∀ i, i < n → sumTo (fun r => D i r) m ≤ K * hi i) : Btw ab co rc n m (sumTo cu m) lo hi := by
 refine ⟨?_, ?_⟩
 ·have h0 := obj_pos (co := co) m (load rc lo n) hab
  obtain ⟨T, hT, eT⟩ := obj_eq (co := co) m (load rc lo n) hab
  rw [sumIn_sub, load_sum hrc] at eT
  have h := div_in hab hrc hD hu hT
  have h1 : sumTo (fun i => K * if T (rc i) = true then lo i else 0) n ≤ sumTo (fun i => if T (rc i) = true then sumTo (fun r => D i r) m else 0) n := sumTo_le fun i hi => by
   by_cases t : T (rc i) = true
   ·rw [if_pos t, if_pos t]; exact hlo i hi
   ·rw [if_neg t, if_neg t]; simp
  have h2 : sumTo (fun r => if T r = true then sumTo (fun i => D i r) n else 0) m ≤ sumTo (fun r => K * if T r = true then co r else 0) m := sumTo_le fun r hr => by
   by_cases t : T r = true
   ·rw [if_pos t, if_pos t, hcol r hr]; exact Int.mul_le_mul_of_nonneg_left (hcu r hr).2 (Int.le_of_lt hK)
   ·rw [if_neg t, if_neg t]; simp
  rw [sumTo_mul] at h1 h2
  have := scale hK (Int.le_trans h1 (Int.le_trans h h2))
  unfold sumIn at eT
  omega
 ·obtain ⟨T, hT, eT⟩ := obj_eq (co := co) m (load rc hi n) hab
  rw [sumIn_sub, load_sum hrc] at eT
  have h := div_out hab hrc hD hu hT
  have h1 : sumTo (fun i => if T (rc i) = true then 0 else sumTo (fun r => D i r) m) n ≤ sumTo (fun i => K * if T (rc i) = true then 0 else hi i) n := sumTo_le fun i hi => by
   by_cases t : T (rc i) = true
   ·rw [if_pos t, if_pos t]; simp
   ·rw [if_neg t, if_neg t]; exact hhi i hi
  have h2 : sumTo (fun r => K * if T r = true then 0 else cu r) m ≤ sumTo (fun r => if T r = true then 0 else sumTo (fun i => D i r) n) m := sumTo_le fun r hr => by
   by_cases t : T r = true
   ·rw [if_pos t, if_pos t]; simp
   ·rw [if_neg t, if_neg t, hcol r hr]; exact Int.le_refl _
  rw [sumTo_mul] at h1 h2
  have h3 := scale hK (Int.le_trans h2 (Int.le_trans h h1))
  have a1 := sumTo_add (fun r => if T r = true then 0 else cu r) (fun r => if T r = true then co r else 0) m
  have a2 := sumTo_add (fun i => if T (rc i) = true then 0 else hi i) (fun i => if T (rc i) = true then hi i else 0) n
  have e1 : sumTo cu m ≤ sumTo (fun r => (if T r = true then 0 else cu r) + (if T r = true then co r else 0)) m := sumTo_le fun r hr => by
   have := hcu r hr
   split <;> omega
  have e2 : sumTo (fun i => (if T (rc i) = true then 0 else hi i) + (if T (rc i) = true then hi i else 0)) n = sumTo hi n := sumTo_congr fun r _ => by split <;> simp
  unfold sumIn at eT
  omega
end
end Go.Proofs.YtegmniphgahblaaGreat
namespace Go.Proofs.YtegmniphgahblaaGreat

/-- What is still due of a reach when the first i of its users have paid. -/
def dueTo (us : Nat → Bool) (left : Nat → Int) (d : Int) : Nat → Int
 | 0 => d
 | i + 1 => dueTo us left d i - (if us i = true then min (dueTo us left d i) (left i) else 0)
/-- What user i pays of it. -/
def takes (us : Nat → Bool) (left : Nat → Int) (d : Int) (i : Nat) : Int := if us i = true then min (dueTo us left d i) (left i) else 0
theorem dueTo_succ (us : Nat → Bool) (left : Nat → Int) (d : Int) (i : Nat) : dueTo us left d (i + 1) = dueTo us left d i - takes us left d i := rfl
theorem takes_sum (us : Nat → Bool) (left : Nat → Int) (d : Int) : ∀ k, sumTo (takes us left d) k = d - dueTo us left d k
 | 0 => by show (0 : Int) = d - d; omega
 | k + 1 => by
  have := takes_sum us left d k
  rw [dueTo_succ]
  simp only [sumTo]
  omega
theorem dueTo_eq {us : Nat → Bool} {left : Nat → Int} {d : Int} (hd : 0 ≤ d) : ∀ k, (∀ i, i < k → 0 ≤ left i) → dueTo us left d k = max 0 (d - sumTo (fun i => if us i = true then left i else 0) k)
 | 0, _ => by show d = max 0 (d - 0); omega
 | k + 1, h => by
  have ih := dueTo_eq hd (us := us) k fun i hi => h i (by omega)
  have hk := h k (by omega)
  show dueTo us left d k - (if us k = true then min (dueTo us left d k) (left k) else 0) = max 0 (d - (sumTo _ k + (if us k = true then left k else 0)))
  rw [ih]
  by_cases u : us k = true
  ·rw [if_pos u, if_pos u]; omega
  ·rw [if_neg u, if_neg u]; omega
theorem dueTo_pos {us : Nat → Bool} {left : Nat → Int} {d : Int} (hd : 0 ≤ d) {k : Nat} (h : ∀ i, i < k → 0 ≤ left i) : 0 ≤ dueTo us left d k := by rw [dueTo_eq hd k h]; omega
theorem takes_rng {us : Nat → Bool} {left : Nat → Int} {d : Int} (hd : 0 ≤ d) {n : Nat} (h : ∀ i, i < n → 0 ≤ left i) {k : Nat} (hk : k < n) : 0 ≤ takes us left d k ∧ takes us left d k ≤ left k ∧ takes us left d k ≤ dueTo us left d k := by
 have h1 := dueTo_pos (us := us) hd (k := k) fun i hi => h i (by omega)
 have h2 := h k hk
 unfold takes
 split <;> omega
theorem takes_off {us : Nat → Bool} {left : Nat → Int} {d : Int} {k : Nat} (h : us k = false) : takes us left d k = 0 := by
 unfold takes
 rw [if_neg (by rw [h]; decide)]
section
variable (ab cu : Nat → Int) (rc : Nat → Nat) (m : Nat) (x : Nat → Int)
/-- What is left of the pence when the last k reaches are paid. -/
def lefts : Nat → Nat → Int
 | 0 => x
 | k + 1 => fun i => lefts k i - takes (fun i => isUp ab (rc i) (m - 1 - k)) (lefts k) (cu (m - 1 - k)) i
/-- What a payer pays of a reach. -/
def parts (r i : Nat) : Int := takes (fun i => isUp ab (rc i) r) (lefts ab cu rc m x (m - 1 - r)) (cu r) i
end
section
variable {ab co cu : Nat → Int} {rc : Nat → Nat} {n m : Nat} {x : Nat → Int} {used : Nat → Bool}
theorem lefts_succ (ab cu : Nat → Int) (rc : Nat → Nat) (m : Nat) (x : Nat → Int) {k : Nat} (hk : k < m) (i : Nat) : lefts ab cu rc m x (k + 1) i = lefts ab cu rc m x k i - parts ab cu rc m x (m - 1 - k) i := by
 unfold parts
 rw [show m - 1 - (m - 1 - k) = k by omega]
 rfl
/-- At each stage those behind a reach have left what the reaches still ask of them, and all have what all ask. -/
theorem lefts_ok (hab : ∀ r, r < m → ab r < r) (hrc : ∀ i, i < n → rc i < m) (hcu : ∀ r, r < m → 0 ≤ cu r) (hx : ∀ i, i < n → 0 ≤ x i) (h0 : ∀ r, r < m → sumTo (fun y => if isUp ab y r = true then cu y else 0) m ≤ sumTo (fun i => if isUp ab (rc i) r = true then x i else 0) n) (hs : sumTo x n = sumTo cu m) :
  ∀ k, k ≤ m → (∀ i, i < n → 0 ≤ lefts ab cu rc m x k i) ∧ (∀ r, r < m - k → sumTo (fun y => if isUp ab y r = true then cu y else 0) (m - k) ≤ sumTo (fun i => if isUp ab (rc i) r = true then lefts ab cu rc m x k i else 0) n) ∧ sumTo (lefts ab cu rc m x k) n = sumTo cu (m - k) ∧
   (∀ r, r < m → m - k ≤ r → dueTo (fun i => isUp ab (rc i) r) (lefts ab cu rc m x (m - 1 - r)) (cu r) n = 0)
 | 0, _ => ⟨hx, h0, hs, fun r h1 h2 => by omega⟩
 | k + 1, hk => by
  obtain ⟨i1, i2, i3, i4⟩ := lefts_ok hab hrc hcu hx h0 hs k (by omega)
  have hR : m - k = (m - 1 - k) + 1 := by omega
  have hRm : m - 1 - k < m := by omega
  have e0 : m - (k + 1) = m - 1 - k := by omega
  have e1 : m - 1 - (m - 1 - k) = k := by omega
  have hz := hcu (m - 1 - k) hRm
  have hL : ∀ i, lefts ab cu rc m x (k + 1) i = lefts ab cu rc m x k i - takes (fun i => isUp ab (rc i) (m - 1 - k)) (lefts ab cu rc m x k) (cu (m - 1 - k)) i := fun _ => rfl
  rw [hR] at i2 i3 i4
  rw [e0]
  generalize hLk : lefts ab cu rc m x k = L at *
  generalize m - 1 - k = R at *
  have hsub := i2 R (by omega)
  have hlow : cu R ≤ sumTo (fun i => if isUp ab (rc i) R = true then L i else 0) n := by
   refine Int.le_trans ?_ hsub
   show cu R ≤ sumTo _ R + (if isUp ab R R = true then cu R else 0)
   rw [if_pos (isUp_self R)]
   have := sumTo_nonneg (n := R) (f := fun y => if isUp ab y R = true then cu y else 0) fun y hy => by
    try dsimp only
    split
    ·exact hcu y (by omega)
    ·exact Int.le_refl _
   omega
  have hdue : dueTo (fun i => isUp ab (rc i) R) L (cu R) n = 0 := by
   rw [dueTo_eq hz n i1]
   omega
  have hsum := takes_sum (fun i => isUp ab (rc i) R) L (cu R) n
  rw [hdue] at hsum
  refine ⟨fun i hi => ?_, fun r hr => ?_, ?_, fun r h1 h2 => ?_⟩
  ·rw [hL]
   have := takes_rng (us := fun i => isUp ab (rc i) R) hz i1 hi
   omega
  ·have hb := i2 r (by omega)
   have eb : sumTo (fun y => if isUp ab y r = true then cu y else 0) (R + 1) = sumTo (fun y => if isUp ab y r = true then cu y else 0) R + (if isUp ab R r = true then cu R else 0) := rfl
   rw [eb] at hb
   have e2 := sumTo_add (fun i => if isUp ab (rc i) r = true then lefts ab cu rc m x (k + 1) i else 0) (fun i => if isUp ab (rc i) r = true then takes (fun i => isUp ab (rc i) R) L (cu R) i else 0) n
   have e3 : sumTo (fun i => (if isUp ab (rc i) r = true then lefts ab cu rc m x (k + 1) i else 0) + (if isUp ab (rc i) r = true then takes (fun i => isUp ab (rc i) R) L (cu R) i else 0)) n = sumTo (fun i => if isUp ab (rc i) r = true then L i else 0) n := sumTo_congr fun i _ => by
    try dsimp only
    rw [hL i]
    split <;> omega
   rw [e3] at e2
   have e4 : sumTo (fun i => if isUp ab (rc i) r = true then takes (fun i => isUp ab (rc i) R) L (cu R) i else 0) n = if isUp ab R r = true then cu R else 0 := by
    by_cases u : isUp ab R r = true
    ·rw [if_pos u]
     have : sumTo (fun i => if isUp ab (rc i) r = true then takes (fun i => isUp ab (rc i) R) L (cu R) i else 0) n = sumTo (takes (fun i => isUp ab (rc i) R) L (cu R)) n := sumTo_congr fun i hi => by
      try dsimp only
      by_cases v : isUp ab (rc i) r = true
      ·rw [if_pos v]
      ·rw [if_neg v]
       have : isUp ab (rc i) R = false := by
        cases e : isUp ab (rc i) R
        ·rfl
        ·exact absurd (isUp_trans hab _ (hrc i hi) e u) v
       exact (takes_off (us := fun i => isUp ab (rc i) R) this).symm
     omega
    ·rw [if_neg u]
     refine (sumTo_congr (g := fun _ => 0) fun i hi => ?_).trans (sumTo_zero n)
     try dsimp only
     by_cases v : isUp ab (rc i) r = true
     ·rw [if_pos v]
      refine takes_off ?_
      cases e : isUp ab (rc i) R
      ·rfl
      ·exact absurd (isUp_two hab _ (hrc i hi) v e (by omega)) u
     ·rw [if_neg v]
   omega
  ·have e2 := sumTo_add (lefts ab cu rc m x (k + 1)) (takes (fun i => isUp ab (rc i) R) L (cu R)) n
   have e3 : sumTo (fun i => lefts ab cu rc m x (k + 1) i + takes (fun i => isUp ab (rc i) R) L (cu R) i) n = sumTo L n := sumTo_congr fun i _ => by
    rw [hL i]
    omega
   have e5 : sumTo cu (R + 1) = sumTo cu R + cu R := rfl
   omega
  ·by_cases e : r = R
   ·subst e
    rw [e1, hLk]
    exact hdue
   ·exact i4 r h1 (by omega)
/-- Who pays fairly pays for what lies behind any reach. -/
theorem fair_sub (hab : ∀ r, r < m → ab r < r) (hrc : ∀ i, i < n → rc i < m) (hU : UpC ab m used) (hur : ∀ i, i < n → used (rc i) = true) (hcu : ∀ r, cu r = if used r = true then co r else 0) (hs : sumTo x n = sumTo cu m) (ho : obj ab co m (load rc x n) = 0) (r : Nat) :
  sumTo (fun y => if isUp ab y r = true then cu y else 0) m ≤ sumTo (fun i => if isUp ab (rc i) r = true then x i else 0) n := by
 have h := obj_ge (co := co) m (load rc x n) _ hab (upC_inter (rest_upC hab r) hU)
 rw [ho, sumIn_sub, load_sum hrc] at h
 have e1 : sumTo (fun i => if (!isUp ab (rc i) r && used (rc i)) = true then x i else 0) n = sumTo (fun i => if isUp ab (rc i) r = true then 0 else x i) n := sumTo_congr fun i hi => by
  rw [hur i hi, Bool.and_true]
  cases isUp ab (rc i) r <;> rfl
 have e2 : sumIn (fun y => !isUp ab y r && used y) co m = sumTo (fun y => if isUp ab y r = true then 0 else cu y) m := sumTo_congr fun y _ => by
  dsimp only
  rw [hcu]
  by_cases u : isUp ab y r = true
  ·by_cases v : used y = true <;> simp [u, v]
  ·by_cases v : used y = true <;> simp [u, v]
 have a1 := sumTo_add (fun i => if isUp ab (rc i) r = true then 0 else x i) (fun i => if isUp ab (rc i) r = true then x i else 0) n
 have a2 := sumTo_add (fun y => if isUp ab y r = true then 0 else cu y) (fun y => if isUp ab y r = true then cu y else 0) m
 have e3 : sumTo (fun i => (if isUp ab (rc i) r = true then 0 else x i) + (if isUp ab (rc i) r = true then x i else 0)) n = sumTo x n := sumTo_congr fun i _ => by split <;> omega
 have e4 : sumTo (fun y => (if isUp ab y r = true then 0 else cu y) + (if isUp ab y r = true then cu y else 0)) m = sumTo cu m := sumTo_congr fun i _ => by split <;> omega
 rw [e1, e2] at h
 omega
theorem sum_zero {n : Nat} {f : Nat → Int} (h : ∀ i, i < n → 0 ≤ f i) (e : sumTo f n = 0) (i : Nat) (hi : i < n) : f i = 0 := by
 induction n with
 | zero => exact absurd hi (Nat.not_lt_zero _)
 | succ n ih =>
  have h1 := sumTo_nonneg (n := n) (f := f) fun i hi => h i (by omega)
  have h2 := h n (by omega)
  have e' : sumTo f n + f n = 0 := e
  by_cases hn : i = n
  ·subst hn; omega
  ·exact ih (fun i hi => h i (by omega)) (by omega) (by omega)
theorem parts_sum (i : Nat) : ∀ k, k ≤ m → sumTo (fun r => if m - k ≤ r then parts ab cu rc m x r i else 0) m = x i - lefts ab cu rc m x k i
 | 0, _ => by
  refine (sumTo_congr (g := fun _ => 0) fun r hr => ?_).trans ((sumTo_zero m).trans ?_)
  ·exact if_neg (by omega)
  ·show (0 : Int) = x i - x i; omega
 | k + 1, hk => by
  have ih := parts_sum i k (by omega)
  have e := sumTo_one (m - 1 - k) (parts ab cu rc m x (m - 1 - k) i) m
  rw [if_pos (by omega)] at e
  have a := sumTo_add (fun r => if m - k ≤ r then parts ab cu rc m x r i else 0) (fun r => if r = m - 1 - k then parts ab cu rc m x (m - 1 - k) i else 0) m
  have c : sumTo (fun r => (if m - k ≤ r then parts ab cu rc m x r i else 0) + (if r = m - 1 - k then parts ab cu rc m x (m - 1 - k) i else 0)) m = sumTo (fun r => if m - (k + 1) ≤ r then parts ab cu rc m x r i else 0) m := sumTo_congr fun r _ => by
   by_cases h : r = m - 1 - k
   ·subst h; rw [if_neg (by omega), if_pos rfl, if_pos (by omega)]; omega
   ·rw [if_neg h]
    by_cases h' : m - k ≤ r
    ·rw [if_pos h', if_pos (by omega)]; omega
    ·rw [if_neg h', if_neg (by omega)]; rfl
  rw [lefts_succ ab cu rc m x (by omega)]
  omega
/-- A division of fair pence: each reach that is used is paid in full, by those who use it, and each pays what it pays. -/
theorem parts_ok (hab : ∀ r, r < m → ab r < r) (hrc : ∀ i, i < n → rc i < m) (hU : UpC ab m used) (hur : ∀ i, i < n → used (rc i) = true) (hco : ∀ r, r < m → 0 ≤ co r) (hcu : ∀ r, cu r = if used r = true then co r else 0) (hx : ∀ i, i < n → 0 ≤ x i) (hs : sumTo x n = sumTo cu m) (ho : obj ab co m (load rc x n) = 0) :
  (∀ r i, r < m → i < n → 0 ≤ parts ab cu rc m x r i) ∧ (∀ r i, isUp ab (rc i) r = false → parts ab cu rc m x r i = 0) ∧ (∀ r, r < m → sumTo (parts ab cu rc m x r) n = cu r) ∧ (∀ i, i < n → sumTo (fun r => parts ab cu rc m x r i) m = x i) := by
 have hcu0 : ∀ r, r < m → 0 ≤ cu r := fun r hr => by
  rw [hcu]
  split
  ·exact hco r hr
  ·exact Int.le_refl _
 have H := lefts_ok hab hrc hcu0 hx (fun r _ => fair_sub hab hrc hU hur hcu hs ho r) hs
 obtain ⟨m1, _, m3, m4⟩ := H m (Nat.le_refl _)
 rw [Nat.sub_self] at m3
 refine ⟨fun r i hr hi => ?_, fun r i h => takes_off h, fun r hr => ?_, fun i hi => ?_⟩
 ·exact (takes_rng (hcu0 r hr) (H (m - 1 - r) (by omega)).1 hi).1
 ·have e := takes_sum (fun i => isUp ab (rc i) r) (lefts ab cu rc m x (m - 1 - r)) (cu r) n
  rw [m4 r hr (by omega)] at e
  show sumTo (takes _ _ _) n = _
  omega
 ·have e := parts_sum (ab := ab) (cu := cu) (rc := rc) (x := x) i m (Nat.le_refl _)
  rw [sum_zero m1 m3 i hi] at e
  have c : sumTo (fun r => if m - m ≤ r then parts ab cu rc m x r i else 0) m = sumTo (fun r => parts ab cu rc m x r i) m := sumTo_congr fun r _ => if_pos (by omega)
  omega
end
end Go.Proofs.YtegmniphgahblaaGreat
