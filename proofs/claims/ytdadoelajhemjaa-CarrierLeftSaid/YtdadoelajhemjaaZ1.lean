/- Plain: which carriers stay without one, and their new numbers; works as contents. -/
import Derived.Test.YtdadoelajhemjaaM5
namespace Go.Proofs.Ytdadoelajhemjaa
open Go.RowKit

/-- Of the first t carriers: which stay without carrier c. -/
def stL (ws : List Car) (c : Int) : Nat → List Bool
 | 0 => []
 | t + 1 => stL ws c t ++ [decide ((t : Int) ≠ c) && (match upO ws (t : Int) with | none => true | some y => (stL ws c t).getD (caAt ws y) false)]
theorem stL_length (ws : List Car) (c : Int) : ∀ t, (stL ws c t).length = t
 | 0 => rfl
 | t + 1 => by rw [stL, List.length_append, stL_length ws c t]; rfl
def stB (ws : List Car) (c : Int) (t : Nat) : Bool := (stL ws c (t + 1)).getD t false
theorem stL_at {ws : List Car} {c : Int} {i : Nat} : ∀ {t}, i < t → (stL ws c t).getD i false = stB ws c i
 | 0, h => absurd h (by omega)
 | t + 1, h => by
  by_cases e : i = t
  ·subst e; rfl
  ·have hi : i < t := by omega
   rw [← stL_at hi, stL, List.getD_eq_getElem?_getD, List.getElem?_append_left (by rw [stL_length]; exact hi), ← List.getD_eq_getElem?_getD]
theorem stB_raw (ws : List Car) (c : Int) (t : Nat) : stB ws c t = (decide ((t : Int) ≠ c) && (match upO ws (t : Int) with | none => true | some y => (stL ws c t).getD (caAt ws y) false)) := by
 unfold stB
 rw [stL, List.getD_eq_getElem?_getD, List.getElem?_append_right (by rw [stL_length]; omega), stL_length, Nat.sub_self]
 rfl
theorem stB_none {ws : List Car} {c : Int} {t : Nat} (h : upO ws (t : Int) = none) : stB ws c t = decide ((t : Int) ≠ c) := by rw [stB_raw, h, Bool.and_true]
theorem stB_some {ws : List Car} (g : Good ws) {c : Int} {t y : Nat} (h : upO ws (t : Int) = some y) : stB ws c t = (decide ((t : Int) ≠ c) && stB ws c (caAt ws y)) := by
 rw [stB_raw, h]
 dsimp only
 rw [stL_at (up_lower g h).2]
/-- How many of the first t carriers stay. -/
def cntB (ws : List Car) (c : Int) (t : Nat) : Nat := ((List.range t).filter (stB ws c)).length
theorem cntB_yes {ws : List Car} {c : Int} {t : Nat} (h : stB ws c t = true) : cntB ws c (t + 1) = cntB ws c t + 1 := by unfold cntB; rw [List.range_succ, List.filter_append]; simp [h]
theorem cntB_no {ws : List Car} {c : Int} {t : Nat} (h : stB ws c t = false) : cntB ws c (t + 1) = cntB ws c t := by unfold cntB; rw [List.range_succ, List.filter_append]; simp [h]
theorem cntB_le (ws : List Car) (c : Int) (t : Nat) : cntB ws c t ≤ t := by
 unfold cntB
 have := List.length_filter_le (stB ws c) (List.range t)
 rwa [List.length_range] at this
/-- The new number of a carrier, told of the first t ones. -/
def anewF (ws : List Car) (c : Int) (t : Nat) (z : Int) : Option Int := if 0 ≤ z ∧ z < (t : Int) ∧ stB ws c z.toNat = true then some (cntB ws c z.toNat : Int) else none
theorem anewF_zero (ws : List Car) (c : Int) : anewF ws c 0 = fun _ => none := by
 funext z
 exact if_neg (fun h => by omega)
theorem anewF_at {ws : List Car} {c : Int} {t i : Nat} (h : i < t) : anewF ws c t (i : Int) = if stB ws c i = true then some (cntB ws c i : Int) else none := by
 unfold anewF
 rw [show ((i : Nat) : Int).toNat = i by omega]
 by_cases hs : stB ws c i = true
 ·rw [if_pos ⟨by omega, by omega, hs⟩, if_pos hs]
 ·rw [if_neg (fun k => hs k.2.2), if_neg hs]
theorem anewF_yes {ws : List Car} {c : Int} {t : Nat} (h : stB ws c t = true) : upd (anewF ws c t) (t : Int) (cntB ws c t : Int) = anewF ws c (t + 1) := by
 funext z
 unfold upd
 by_cases e : z = (t : Int)
 ·subst e
  rw [if_pos rfl, anewF_at (by omega), if_pos h]
 ·rw [if_neg e]
  unfold anewF
  by_cases hz : 0 ≤ z ∧ z < (t : Int) ∧ stB ws c z.toNat = true
  ·rw [if_pos hz, if_pos ⟨hz.1, by omega, hz.2.2⟩]
  ·rw [if_neg hz, if_neg (fun k => hz ⟨k.1, by omega, k.2.2⟩)]
theorem anewF_no {ws : List Car} {c : Int} {t : Nat} (h : stB ws c t = false) : anewF ws c t = anewF ws c (t + 1) := by
 funext z
 unfold anewF
 by_cases hz : 0 ≤ z ∧ z < (t : Int) ∧ stB ws c z.toNat = true
 ·rw [if_pos hz, if_pos ⟨hz.1, by omega, hz.2.2⟩]
 ·rw [if_neg hz, if_neg (fun k => hz ⟨k.1, by
   by_cases e : z = (t : Int)
   ·have h2 := k.2.2
    rw [e, show ((t : Nat) : Int).toNat = t by omega, h] at h2
    cases h2
   ·omega, k.2.2⟩)]
def newInto (ws : List Car) (c : Int) (z : Int) : Int := (anewF ws c ws.length z).getD (-1)

/-- An outlet, without its memory. -/
structure Oc where
 id : Int
 into : Int
 ps : List Int
 kl : Int
 kh : Int
 sl : Int
 sh : Int
def Ot.oc (o : Ot) : Oc := ⟨o.id, o.into, o.ps, o.kl, o.kh, o.sl, o.sh⟩
def contW (ws : List Car) : List (List Oc) := ws.map fun k => k.os.map Ot.oc
/-- An outlet of a carrier that stays. -/
def turnO (ws : List Car) (c : Int) (o : Ot) : Oc := ⟨o.id, newInto ws c o.into, o.ps, o.kl, o.kh, o.sl, o.sh⟩
/-- The first t carriers without c. -/
def wioTo (ws : List Car) (c : Int) (t : Nat) : List (List Oc) := ((List.range t).filter (stB ws c)).map fun i => (cAt ws i).os.map (turnO ws c)
theorem wioTo_yes {ws : List Car} {c : Int} {t : Nat} (h : stB ws c t = true) : wioTo ws c (t + 1) = wioTo ws c t ++ [(cAt ws t).os.map (turnO ws c)] := by unfold wioTo; rw [List.range_succ, List.filter_append]; simp [h]
theorem wioTo_no {ws : List Car} {c : Int} {t : Nat} (h : stB ws c t = false) : wioTo ws c (t + 1) = wioTo ws c t := by unfold wioTo; rw [List.range_succ, List.filter_append]; simp [h]
theorem wioTo_length (ws : List Car) (c : Int) (t : Nat) : (wioTo ws c t).length = cntB ws c t := by unfold wioTo cntB; rw [List.length_map]
/-- What Without answers. -/
def withE (ws : List Car) (c : Int) : Int := if checkE ws = 0 then (if 0 ≤ c ∧ c ≤ (ws.length : Int) - 1 then 0 else 5) else checkE ws
def withC (ws : List Car) (c : Int) : List (List Oc) := if withE ws c = 0 then wioTo ws c ws.length else []
end Go.Proofs.Ytdadoelajhemjaa
