/- An operation of a drawn region that reads no memory, whatever may come ahead of it. -/
import Derived.Test.YtegmniphgahblaaGreatM9
namespace Go.Proofs.YtegmniphgahblaaGreat
open Go.RowKit Go.Shelf

section
variable {P : Program} {ops : Array Oper} {Q : Exit → Act → World → Prop} {md : Region.Mode} {kb : Nat → Bool}
theorem wpAnyR_firstN {i : Nat} {oi : Oper} {v : Value} (s d : Nat → Bool) (hi : ops[i]? = some oi) (hsel : ∀ (j : Nat) (o : Oper) cs b, ops[j]? = some o → o.op ≠ .select cs b)
  (hQ : ∀ c a w, Q (.panic c) (a.put oi.dst v) w → Q (.panic c) a w)
  (hcl : ∀ j oj, ops[j]? = some oj → j ≠ i → (∀ e ∈ oj.after, Region.binds md e = true → s e.on = true) → s j = true) :
  ∀ (fuel : Nat) (listed : Array Bool) (a : Act) (w : World), (∀ j, listed.getD j false = true → s j = true) → (∀ j, d j = true → listed.getD j true = true) →
   (∀ j oj, ops[j]? = some oj → j ≠ i → listed.getD j true = false → (∀ e ∈ oj.after, Region.binds md e = true → e.on ≠ i) → oi.apart ops oj = true) →
   i ∈ Region.ready md ops listed → YieldsIf P ops (fun _ => True) oi v a →
   wpAnyR P md ops Q kb fuel (listed.setIfInBounds i true) (a.put oi.dst v) w → wpAnyR P md ops Q kb (fuel + 1) listed a w := by
 intro fuel
 induction fuel with
 | zero =>
  intro listed a w _ _ _ hr hy H
  refine ⟨fun h => (by rw [h] at hr; cases hr), fun j hj => ?_⟩
  by_cases hji : j = i
  ·subst hji; exact hy.wpOp hi trivial ⟨fun _ => Below.refl _ _, H⟩
  ·have := ready_mono hj hji
   rw [H.1] at this
   cases this
 | succ fuel ih =>
  intro listed a w hls hd hfree hr hy H
  refine ⟨fun h => (by rw [h] at hr; cases hr), fun j hj => ?_⟩
  by_cases hji : j = i
  ·subst hji; exact hy.wpOp hi trivial ⟨fun _ => Below.refl _ _, H⟩
  ·have h2 := H.2 j (ready_mono hj hji)
   obtain ⟨hjun, oj, hoj, hall⟩ := mem_ready.1 hj
   have hnot : ∀ e ∈ oj.after, Region.binds md e = true → e.on ≠ i := fun e he hb heq => by
    have h1 := hall e he hb
    have h0 := (mem_ready.1 hr).1
    rw [heq] at h1
    rcases Nat.lt_or_ge i listed.size with h' | h'
    ·simp [h'] at h0 h1; rw [h0] at h1; cases h1
    ·simp [Array.getElem?_eq_none h'] at h1
   have hsj := hcl j oj hoj hji (fun e he hb => hls _ (hall e he hb))
   have hset : ∀ m, m ≠ j → (listed.setIfInBounds j true).getD m false = listed.getD m false := fun m hm => getD_set_ne false (Ne.symm hm)
   have h2 := wpOp_putIf hoj (hfree j oj hoj hji hjun hnot) (fun cs b => hsel i oi cs b hi) (fun cs b => hsel j oj cs b hoj) hQ hy h2
   have hfree' : ∀ m om, ops[m]? = some om → m ≠ i → (listed.setIfInBounds j true).getD m true = false →
     (∀ e ∈ om.after, Region.binds md e = true → e.on ≠ i) → oi.apart ops om = true := fun m om hm hmi hun hno => by
    refine hfree m om hm hmi ?_ hno
    by_cases hjm : j = m
    ·subst hjm; exact hjun
    ·rw [getD_set_ne true hjm] at hun; exact hun
   refine wpOp_mono (fun a' w' h3 => ⟨h3.2.1, ih (listed.setIfInBounds j true) a' w' (fun m hm => ?_) (fun m hm => ?_) hfree' (ready_mono hr (Ne.symm hji)) h3.1 ?_⟩) h2
   ·by_cases e : m = j
    ·subst e; exact hsj
    ·rw [hset m e] at hm; exact hls m hm
   ·by_cases e : j = m
    ·subst e
     rcases Nat.lt_or_ge j listed.size with h' | h'
     ·simp [h']
     ·simp [h']
    ·rw [getD_set_ne true e]; exact hd m hm
   ·rw [Array.setIfInBounds_comm _ _ hji]
    exact h3.2.2
end
section
variable {P : Program} {l : List Oper} {Q : Exit → Act → World → Prop} {md : Region.Mode} {kb : Nat → Bool} {oi : Oper} {v : Value} {fuel : Nat} {listed : Array Bool} {a a' : Act} {w : World}
/-- An operation that reads no memory, whatever may come ahead of it. -/
theorem bN (i : Nat) (hi : l[i]? = some oi) (h : wpAnyR P md l.toArray Q kb fuel (listed.setIfInBounds i true) a' w)
  (hrun : ∀ w, (execOp a.eval oi).run P w = .ok (.value v) w := by (intro w; go_simp; (try with_reducible rfl))) (ha : a.put oi.dst v = a' := by first | (go_frame; rfl) | rfl) (hw : Region.wanted oi (yielded l.toArray a.tmps) = true := by first | rfl | kernel_rfl)
  (hb : (Region.noSelect l.toArray && Region.free md l.toArray listed i && (Region.ready md l.toArray listed).contains i && keepsR md l.toArray (fun _ => true) listed i) = true := by kernel_rfl)
  (hQ : ∀ c a w, Q (.panic c) (a.put oi.dst v) w → Q (.panic c) a w := by exact fun _ _ _ h => h) : wpAnyR P md l.toArray Q kb (fuel + 1) listed a w := by
 simp only [Bool.and_eq_true] at hb
 obtain ⟨s, hls, hcl⟩ := keepsR_spec hb.2
 exact wpAnyR_firstN s (fun j => listed.getD j false) (by rw [List.getElem?_toArray]; exact hi) (Region.noSelect_spec hb.1.1.1) hQ (fun j oj a b c => (hcl j oj a b c).1) fuel listed a w hls (fun j hj => by
  rcases Nat.lt_or_ge j listed.size with h' | h'
  ·simp [h'] at hj ⊢; exact hj
  ·simp [Array.getElem?_eq_none h'] at hj ⊢) (Region.free_spec (by rw [List.getElem?_toArray]; exact hi) hb.1.1.2) (by simpa using hb.1.2) (.inl ⟨hw, fun w _ => hrun w⟩) (ha ▸ h)
end
end Go.Proofs.YtegmniphgahblaaGreat
