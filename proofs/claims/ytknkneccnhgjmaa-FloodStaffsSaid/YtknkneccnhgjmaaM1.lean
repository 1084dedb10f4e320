/- Plain: a limit, closed. -/
import Derived.Test.YtknkneccnhgjmaaB4
namespace Go.Proofs.Ytknkneccnhgjmaa

/-- The last part and the least sum of divisions of t whose last part is t itself or one of 1 .. k. -/
def minPart (L : List Int) (out : Nat → Int) (t : Nat) : Nat → Nat × Int
  | 0 => (t, nth L t)
  | k + 1 => if out (t - (k + 1)) + nth L (k + 1) < (minPart L out t k).2 then (k + 1, out (t - (k + 1)) + nth L (k + 1)) else minPart L out t k

theorem minPart_congr {L : List Int} {o o' : Nat → Int} {t : Nat} : ∀ (k : Nat), k < t ∨ k = 0 → (∀ j, j < t → o j = o' j) → minPart L o t k = minPart L o' t k
  | 0, _, _ => rfl
  | k + 1, hk, h => by
    have hk' : k + 1 < t := by omega
    unfold minPart
    rw [minPart_congr k (by omega) h, h (t - (k + 1)) (by omega)]

def closTo (L : List Int) : Nat → List Int
  | 0 => []
  | t + 1 => closTo L t ++ [if t = 0 then 0 else (minPart L (nth (closTo L t)) t (t - 1)).2]
theorem closTo_length (L : List Int) (t : Nat) : (closTo L t).length = t := by
  induction t with
  | zero => rfl
  | succ t ih => simp [closTo, ih]
def closAt (L : List Int) (t : Nat) : Int := nth (closTo L (t + 1)) t

theorem nth_append_left {xs ys : List Int} {i : Nat} (h : i < xs.length) : nth (xs ++ ys) i = nth xs i := by simp [nth, List.getD, List.getElem?_append_left h]
theorem nth_append_right (xs : List Int) (y : Int) : nth (xs ++ [y]) xs.length = y := by simp [nth, List.getD]

theorem nth_closTo (L : List Int) {t n : Nat} (h : t < n) : nth (closTo L n) t = closAt L t := by
  induction n with
  | zero => omega
  | succ n ih =>
    rcases Nat.lt_or_ge t n with e | e
    · unfold closTo
      rw [nth_append_left (by rw [closTo_length]; exact e)]
      exact ih e
    · obtain rfl : t = n := by omega
      rfl
theorem closAt_zero (L : List Int) : closAt L 0 = 0 := rfl
theorem closAt_eq (L : List Int) {t : Nat} (h : 0 < t) : closAt L t = (minPart L (closAt L) t (t - 1)).2 := by
  have h1 : closAt L t = (minPart L (nth (closTo L t)) t (t - 1)).2 := by
    show nth (closTo L t ++ [if t = 0 then 0 else (minPart L (nth (closTo L t)) t (t - 1)).2]) t = _
    have := nth_append_right (closTo L t) (if t = 0 then 0 else (minPart L (nth (closTo L t)) t (t - 1)).2)
    rw [closTo_length] at this
    rw [this, if_neg (by omega)]
  rw [h1, minPart_congr (t - 1) (by omega) (fun j hj => nth_closTo L hj)]

def lastAt (L : List Int) (t : Nat) : Nat := if t = 0 then 0 else (minPart L (closAt L) t (t - 1)).1

theorem minPart_bd {L : List Int} {o : Nat → Int} {t : Nat} (hL : ∀ i, 0 ≤ nth L i ∧ nth L i ≤ 1073741824) : ∀ (k : Nat), k < t ∨ k = 0 → (∀ j, j < t → 0 ≤ o j ∧ o j ≤ 1073741824) → 0 ≤ (minPart L o t k).2 ∧ (minPart L o t k).2 ≤ 1073741824
  | 0, _, _ => hL t
  | k + 1, hk, ho => by
    have ih := minPart_bd hL k (by omega) ho
    have h1 := ho (t - (k + 1)) (by omega)
    have h2 := hL (k + 1)
    unfold minPart
    split
    · dsimp only; omega
    · omega

theorem closAt_bd {L : List Int} (hL : ∀ i, 0 ≤ nth L i ∧ nth L i ≤ 1073741824) (t : Nat) : 0 ≤ closAt L t ∧ closAt L t ≤ 1073741824 := by
  induction t using Nat.strongRecOn with
  | _ t ih =>
    rcases Nat.eq_zero_or_pos t with rfl | h
    · rw [closAt_zero]; omega
    · rw [closAt_eq L h]
      exact minPart_bd hL (t - 1) (by omega) ih

theorem minPart_fst {L : List Int} {o : Nat → Int} {t : Nat} (ht : 0 < t) : ∀ (k : Nat), k < t → 1 ≤ (minPart L o t k).1 ∧ (minPart L o t k).1 ≤ t
  | 0, _ => ⟨ht, Nat.le_refl _⟩
  | k + 1, hk => by
    have ih := minPart_fst (L := L) (o := o) ht k (by omega)
    unfold minPart
    split
    · exact ⟨by simp, by simp; omega⟩
    · exact ih
theorem lastAt_bd (L : List Int) {t : Nat} (h : 0 < t) : 1 ≤ lastAt L t ∧ lastAt L t ≤ t := by
  unfold lastAt
  rw [if_neg (by omega)]
  exact minPart_fst h (t - 1) (by omega)

def closedL (L : List Int) : List Int := tab L.length (closAt L)
def lastsL (L : List Int) : List Int := tab L.length fun t => (lastAt L t : Int)
theorem closedL_length (L : List Int) : (closedL L).length = L.length := tab_length _ _
theorem lastsL_length (L : List Int) : (lastsL L).length = L.length := tab_length _ _
end Go.Proofs.Ytknkneccnhgjmaa
