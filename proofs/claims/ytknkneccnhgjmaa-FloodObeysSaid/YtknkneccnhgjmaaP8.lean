/- Plain: divisions of steps. No program is walked here. -/
import Derived.Test.YtknkneccnhgjmaaP7
namespace Go.Proofs.Ytknkneccnhgjmaa

/-- What is left of the steps, and the sum, behind one more part. -/
def chkStep (L : List Int) (o : Option (Int × Int)) (p : Int) : Option (Int × Int) :=
  match o with
  | none => none
  | some x => if withinB p 1 x.1 then some (x.1 - p, x.2 + nth L p.toNat) else none
def chk (L : List Int) (step : Int) (ps : List Int) : Option (Int × Int) := ps.foldl (chkStep L) (some (step, 0))
def cpE (L : List Int) (step : Int) (ps : List Int) : Int :=
  if validB L && withinB step 0 ((L.length : Int) - 1) then
    (if 120 < ps.length then 2 else match chk L step ps with
      | some x => if x.1 = 0 then 0 else 8
      | none => 8)
  else 1
def cpN (L : List Int) (step : Int) (ps : List Int) : Int :=
  if cpE L step ps = 0 then (match chk L step ps with
    | some x => x.2
    | none => 0) else 0
theorem chk_append (L : List Int) (step : Int) (ps : List Int) (p : Int) : chk L step (ps ++ [p]) = chkStep L (chk L step ps) p := by
  unfold chk
  rw [List.foldl_append]
  rfl
theorem chk_dead (L : List Int) (step : Int) (ps qs : List Int) (h : chk L step ps = none) : chk L step (ps ++ qs) = none := by
  unfold chk at *
  rw [List.foldl_append, h]
  clear h
  induction qs with
  | nil => rfl
  | cons q qs ih => exact ih
theorem take_nth {ps : List Int} {k : Nat} (h : k < ps.length) : ps.take (k + 1) = ps.take k ++ [nth ps k] := by
  rw [List.take_add_one, List.getElem?_eq_getElem h]
  simp [nth, List.getD, List.getElem?_eq_getElem h]
theorem chk_take {L : List Int} {step : Int} {ps : List Int} {k : Nat} (h : k < ps.length) : chk L step (ps.take (k + 1)) = chkStep L (chk L step (ps.take k)) (nth ps k) := by
  rw [take_nth h, chk_append]
theorem chk_take_dead {L : List Int} {step : Int} {ps : List Int} {k : Nat} (h : chk L step (ps.take k) = none) : chk L step ps = none := by
  have := chk_dead L step (ps.take k) (ps.drop k) h
  rwa [List.take_append_drop] at this
theorem chk_fold_ge {L : List Int} (ps : List Int) : ∀ (a b l s : Int), 0 ≤ a → ps.foldl (chkStep L) (some (a, b)) = some (l, s) → 0 ≤ l ∧ closAt L a.toNat + b ≤ s + closAt L l.toNat := by
  induction ps with
  | nil =>
    intro a b l s ha h
    injection h with h
    injection h with h1 h2
    subst h1 h2
    exact ⟨ha, by omega⟩
  | cons p ps ih =>
    intro a b l s ha h
    have e : (p :: ps).foldl (chkStep L) (some (a, b)) = ps.foldl (chkStep L) (if withinB p 1 a then some (a - p, b + nth L p.toNat) else none) := rfl
    rw [e] at h
    by_cases hw : withinB p 1 a = true
    · rw [if_pos hw] at h
      unfold withinB at hw
      rw [decide_eq_true_eq] at hw
      obtain ⟨h1, h2⟩ := ih _ _ _ _ (by omega) h
      have h3 := closAt_le L (t := a.toNat) (p := p.toNat) (by omega) (by omega)
      rw [show a.toNat - p.toNat = (a - p).toNat by omega] at h3
      exact ⟨h1, by omega⟩
    · rw [if_neg hw] at h
      exfalso
      have := chk_dead L 0 [] ps
      have hd : ∀ qs : List Int, qs.foldl (chkStep L) none = none := fun qs => by
        induction qs with
        | nil => rfl
        | cons q qs ih => exact ih
      rw [hd] at h
      cases h
/-- A division that is accepted has at least the sum of the closed limit. -/
theorem cp_ge {L : List Int} {step : Int} {ps : List Int} (h : cpE L step ps = 0) : 0 ≤ step ∧ step < L.length ∧ closAt L step.toNat ≤ cpN L step ps := by
  have h0 := h
  unfold cpE at h
  by_cases hv : (validB L && withinB step 0 ((L.length : Int) - 1)) = true
  · rw [if_pos hv] at h
    rw [Bool.and_eq_true] at hv
    have hw := hv.2
    unfold withinB at hw
    rw [decide_eq_true_eq] at hw
    by_cases h2 : 120 < ps.length
    · rw [if_pos h2] at h; omega
    · rw [if_neg h2] at h
      unfold cpN
      rw [if_pos h0]
      cases hc : chk L step ps with
      | none => rw [hc] at h; simp at h
      | some x =>
        rw [hc] at h
        obtain ⟨l, s⟩ := x
        by_cases hl : l = 0
        · have := chk_fold_ge ps step 0 l s hw.1 hc
          subst hl
          rw [show (0 : Int).toNat = 0 from rfl, closAt_zero] at this
          exact ⟨hw.1, by omega, by show _ ≤ s; omega⟩
        · simp [hl] at h
  · rw [if_neg hv] at h; omega
/-- What a division that Parts returns is. -/
def Divides (L : List Int) (step : Nat) (ps : List Int) : Prop := ps.length ≤ step ∧ chk L step ps = some (0, closAt L step)
theorem divides_cp {L : List Int} {step : Nat} {ps : List Int} (v : Valid L) (hs : step < L.length) (h : Divides L step ps) : cpE L step ps = 0 ∧ cpN L step ps = closAt L step := by
  obtain ⟨h1, h2⟩ := h
  have hl := v.2.1
  have hE : cpE L step ps = 0 := by
    unfold cpE
    have hw : withinB (step : Int) 0 ((L.length : Int) - 1) = true := by unfold withinB; rw [decide_eq_true_eq]; omega
    rw [(validB_iff L).2 v, hw, Bool.and_self, if_pos rfl, if_neg (by omega), h2]
    rfl
  refine ⟨hE, ?_⟩
  unfold cpN
  rw [if_pos hE, h2]
theorem chk_part {L : List Int} {step t : Nat} {s : Int} {ps : List Int} (h : chk L step ps = some ((t : Int), s)) (ht : 0 < t) : chk L step (ps ++ [(lastAt L t : Int)]) = some (((t - lastAt L t : Nat) : Int), s + nth L (lastAt L t)) := by
  have hb := lastAt_bd L ht
  rw [chk_append, h]
  unfold chkStep
  have hw : withinB (lastAt L t : Int) 1 (t : Int) = true := by unfold withinB; rw [decide_eq_true_eq]; omega
  dsimp only
  rw [if_pos hw, Int.toNat_natCast]
  rw [show (t : Int) - (lastAt L t : Int) = ((t - lastAt L t : Nat) : Int) by omega]
end Go.Proofs.Ytknkneccnhgjmaa
