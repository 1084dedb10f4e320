/- Plain: a region that draws its order, whose operations leave what is there as it is, but for those that 'kb' leaves out: each reads first. No program here. -/
import Derived.Test.YtdadoelajhemjaaM6
import Derived.Test.YtdadoelajhemjaaM8
namespace Go.Proofs.Ytdadoelajhemjaa
open Go.RowKit

section
variable {P : Program} {ops : Array Oper} {Q : Exit → Act → World → Prop} {md : Region.Mode} {kb : Nat → Bool}

/-- Whatever order is picked: operation i, if kb i says so, leaves all that is there as it is. -/
def wpAnyR (P : Program) (md : Region.Mode) (ops : Array Oper) (Q : Exit → Act → World → Prop) (kb : Nat → Bool) : Nat → Array Bool → Act → World → Prop
 | 0, listed, a, w => Region.ready md ops listed = [] ∧ Q .normal a w
 | fuel + 1, listed, a, w =>
  (Region.ready md ops listed = [] → Q .normal a w) ∧
  ∀ i ∈ Region.ready md ops listed, wpOp P ops Q i (fun a' w' => (kb i = true → Below w.heap.size w w') ∧ wpAnyR P md ops Q kb fuel (listed.setIfInBounds i true) a' w') a w

theorem wpAny_of_R : ∀ (fuel : Nat) (listed : Array Bool) (a : Act) (w : World), wpAnyR P md ops Q kb fuel listed a w → wpAny P md ops Q fuel listed a w
 | 0, _, _, _, h => h
 | fuel + 1, _, _, _, h => ⟨h.1, fun i hi => wpOp_mono (fun a' w' h' => wpAny_of_R fuel _ a' w' h'.2) (h.2 i hi)⟩

theorem wpAnyR_first {F : World → Prop} {i : Nat} {oi : Oper} {v : Value} (s d : Nat → Bool) (hst : ∀ X X', Below X.heap.size X X' → F X → F X') (hi : ops[i]? = some oi) (hsel : ∀ (j : Nat) (o : Oper) cs b, ops[j]? = some o → o.op ≠ .select cs b)
  (hQ : ∀ c a w, Q (.panic c) (a.put oi.dst v) w → Q (.panic c) a w)
  (hcl : ∀ j oj, ops[j]? = some oj → j ≠ i → (∀ e ∈ oj.after, Region.binds md e = true → s e.on = true) → s j = true ∧ (d j = true ∨ kb j = true)) :
  ∀ (fuel : Nat) (listed : Array Bool) (a : Act) (w : World), (∀ j, listed.getD j false = true → s j = true) → (∀ j, d j = true → listed.getD j true = true) →
   (∀ j oj, ops[j]? = some oj → j ≠ i → listed.getD j true = false → (∀ e ∈ oj.after, Region.binds md e = true → e.on ≠ i) → oi.apart ops oj = true) →
   i ∈ Region.ready md ops listed → YieldsIf P ops F oi v a → F w →
   wpAnyR P md ops Q kb fuel (listed.setIfInBounds i true) (a.put oi.dst v) w → wpAnyR P md ops Q kb (fuel + 1) listed a w := by
 intro fuel
 induction fuel with
 | zero =>
  intro listed a w _ _ _ hr hy hS H
  refine ⟨fun h => (by rw [h] at hr; cases hr), fun j hj => ?_⟩
  by_cases hji : j = i
  ·subst hji; exact hy.wpOp hi hS ⟨fun _ => Below.refl _ _, H⟩
  ·have := ready_mono hj hji
   rw [H.1] at this
   cases this
 | succ fuel ih =>
  intro listed a w hls hd hfree hr hy hS H
  refine ⟨fun h => (by rw [h] at hr; cases hr), fun j hj => ?_⟩
  by_cases hji : j = i
  ·subst hji; exact hy.wpOp hi hS ⟨fun _ => Below.refl _ _, H⟩
  ·have h2 := H.2 j (ready_mono hj hji)
   obtain ⟨hjun, oj, hoj, hall⟩ := mem_ready.1 hj
   have hnot : ∀ e ∈ oj.after, Region.binds md e = true → e.on ≠ i := fun e he hb heq => by
    have h1 := hall e he hb
    have h0 := (mem_ready.1 hr).1
    rw [heq] at h1
    rcases Nat.lt_or_ge i listed.size with h' | h'
    ·simp [h'] at h0 h1; rw [h0] at h1; cases h1
    ·simp [Array.getElem?_eq_none h'] at h1
   obtain ⟨hsj, hkj⟩ := hcl j oj hoj hji (fun e he hb => hls _ (hall e he hb))
   have hkb : kb j = true := hkj.resolve_left (fun e => by have := hd j e; rw [hjun] at this; cases this)
   have hset : ∀ m, m ≠ j → (listed.setIfInBounds j true).getD m false = listed.getD m false := fun m hm => getD_set_ne false (Ne.symm hm)
   have h2 := wpOp_putIf hoj (hfree j oj hoj hji hjun hnot) (fun cs b => hsel i oi cs b hi) (fun cs b => hsel j oj cs b hoj) hQ hy h2
   have hfree' : ∀ m om, ops[m]? = some om → m ≠ i → (listed.setIfInBounds j true).getD m true = false →
     (∀ e ∈ om.after, Region.binds md e = true → e.on ≠ i) → oi.apart ops om = true := fun m om hm hmi hun hno => by
    refine hfree m om hm hmi ?_ hno
    by_cases hjm : j = m
    ·subst hjm; exact hjun
    ·rw [getD_set_ne true hjm] at hun; exact hun
   refine wpOp_mono (fun a' w' h3 => ⟨h3.2.1, ih (listed.setIfInBounds j true) a' w' (fun m hm => ?_) (fun m hm => ?_) hfree' (ready_mono hr (Ne.symm hji)) h3.1 (hst _ _ (h3.2.1 hkb) hS) ?_⟩) h2
   ·by_cases e : m = j
    ·subst e; exact hsj
    ·rw [hset m e] at hm; exact hls m hm
   ·by_cases e : j = m
    ·subst e
     rcases Nat.lt_or_ge j listed.size with h' | h'
     ·simp [h']
     ·simp [h']
    ·rw [getD_set_ne true e]; exact hd m hm
   ·rw [Array.setIfInBounds_comm _ _ hji]
    exact h3.2.2
/-- What may come ahead of operation i, from a state on: a set that is closed. -/
def aheadS (md : Region.Mode) (ops : Array Oper) (listed : Array Bool) (i : Nat) : Array Bool :=
 (List.range ops.size).foldl (fun s j => match ops[j]? with
  | none => s
  | some oj => if j != i && oj.after.all (fun e => !Region.binds md e || s.getD e.on false) then s.setIfInBounds j true else s) listed
/-- All that may come ahead of operation i leaves what is there as it is. -/
def keepsR (md : Region.Mode) (ops : Array Oper) (kb : Nat → Bool) (listed : Array Bool) (i : Nat) : Bool :=
 let s := aheadS md ops listed i
 ((List.range listed.size).all fun j => !listed.getD j false || s.getD j false) && (List.range ops.size).all fun j => match ops[j]? with
  | none => true
  | some oj => decide (j = i) || (s.getD j false && (listed.getD j false || kb j)) || oj.after.any (fun e => Region.binds md e && !s.getD e.on false)
theorem keepsR_spec {listed : Array Bool} {i : Nat} (h : keepsR md ops kb listed i = true) : ∃ s : Nat → Bool, (∀ j, listed.getD j false = true → s j = true) ∧
  ∀ j oj, ops[j]? = some oj → j ≠ i → (∀ e ∈ oj.after, Region.binds md e = true → s e.on = true) → s j = true ∧ (listed.getD j false = true ∨ kb j = true) := by
 unfold keepsR at h
 dsimp only at h
 generalize aheadS md ops listed i = s at h
 rw [Bool.and_eq_true] at h
 refine ⟨fun j => s.getD j false, fun j hj => ?_, fun j oj hj hji hall => ?_⟩
 ·have hl : j < listed.size := by
   rcases Nat.lt_or_ge j listed.size with h' | h'
   ·exact h'
   ·simp [Array.getElem?_eq_none h'] at hj
  have h1 := List.all_eq_true.1 h.1 j (List.mem_range.2 hl)
  rw [hj] at h1
  exact h1
 ·have h1 := List.all_eq_true.1 h.2 j (List.mem_range.2 (Array.getElem?_eq_some_iff.1 hj).1)
  simp only [hj] at h1
  rcases Bool.or_eq_true_iff.1 h1 with h1 | h1
  ·rcases Bool.or_eq_true_iff.1 h1 with h1 | h1
   ·exact absurd (of_decide_eq_true h1) hji
   ·rw [Bool.and_eq_true] at h1
    exact ⟨h1.1, Bool.or_eq_true_iff.1 h1.2⟩
  ·obtain ⟨e, he⟩ := Array.any_eq_true'.1 h1
   obtain ⟨h2, h3⟩ := he
   rw [Bool.and_eq_true] at h3
   have h4 : s.getD e.on false = true := hall e h2 h3.1
   rw [h4] at h3
   cases h3.2
def AllR (P : Program) (md : Region.Mode) (ops : Array Oper) (Q : Exit → Act → World → Prop) (kb : Nat → Bool) (fuel : Nat) (listed : Array Bool) (a : Act) (w : World) (rs : List Nat) : Prop :=
 ∀ i ∈ rs, wpOp P ops Q i (fun a' w' => (kb i = true → Below w.heap.size w w') ∧ wpAnyR P md ops Q kb fuel (listed.setIfInBounds i true) a' w') a w
theorem AllR.nil {fuel : Nat} {listed : Array Bool} {a : Act} {w : World} : AllR P md ops Q kb fuel listed a w [] := fun _ h => by cases h
theorem wp_region_R {id : Nat} {a : Act} {w : World} (kb : Nat → Bool) (h : wpAnyR P .any ops Q kb ops.size (Array.replicate ops.size false) a w.drew) (hm : P.follows .mixedOrders = true := by kernel_rfl) : (Code.region id ops true).wp P Q a w := wp_region_any hm (wpAny_of_R _ _ _ _ h)
theorem wp_region_cutR {id : Nat} {a : Act} {w : World} (kb : Nat → Bool) (R : Act → World → Prop)
  (h : wpAnyR P .any ops (CutQ R) kb ops.size (Array.replicate ops.size false) a w.drew) (hR : ∀ a w, R a w → Q .normal a w) (hm : P.follows .mixedOrders = true := by kernel_rfl) : (Code.region id ops true).wp P Q a w :=
 Code.wp_mono (fun e a w h => by
  cases e with
  | normal => exact hR _ _ h
  | _ => exact h.elim) (wp_region_R kb h hm)
end

section
variable {P : Program} {l : List Oper} {Q : Exit → Act → World → Prop} {md : Region.Mode} {kb : Nat → Bool} {oi : Oper} {v : Value} {fuel : Nat} {listed : Array Bool} {a a' : Act} {w : World}
theorem bG {F : World → Prop} (hst : ∀ X X', Below X.heap.size X X' → F X → F X') (hS : F w) (i : Nat) (hi : l[i]? = some oi)
  (h : wpAnyR P md l.toArray Q kb fuel (listed.setIfInBounds i true) (a.put oi.dst v) w) (hy : YieldsIf P l.toArray F oi v a)
  (hb : (Region.noSelect l.toArray && Region.free md l.toArray listed i && (Region.ready md l.toArray listed).contains i && keepsR md l.toArray kb listed i) = true)
  (hQ : ∀ c a w, Q (.panic c) (a.put oi.dst v) w → Q (.panic c) a w) : wpAnyR P md l.toArray Q kb (fuel + 1) listed a w := by
 simp only [Bool.and_eq_true] at hb
 obtain ⟨s, hls, hcl⟩ := keepsR_spec hb.2
 exact wpAnyR_first s (fun j => listed.getD j false) hst (by rw [List.getElem?_toArray]; exact hi) (Region.noSelect_spec hb.1.1.1) hQ hcl fuel listed a w hls (fun j hj => by
  rcases Nat.lt_or_ge j listed.size with h' | h'
  ·simp [h'] at hj ⊢; exact hj
  ·simp [Array.getElem?_eq_none h']) (Region.free_spec (by rw [List.getElem?_toArray]; exact hi) hb.1.1.2) (by simpa using hb.1.2) hy hS h
/-- An operation that reads no memory. -/
theorem bF (i : Nat) (hi : l[i]? = some oi) (h : wpAnyR P md l.toArray Q kb fuel (listed.setIfInBounds i true) a' w)
  (hrun : ∀ w, (execOp a.eval oi).run P w = .ok (.value v) w := by (intro w; go_simp; (try with_reducible rfl))) (ha : a.put oi.dst v = a' := by first | (go_frame; rfl) | rfl) (hw : Region.wanted oi (yielded l.toArray a.tmps) = true := by first | rfl | kernel_rfl)
  (hb : (Region.noSelect l.toArray && Region.free md l.toArray listed i && (Region.ready md l.toArray listed).contains i && keepsR md l.toArray kb listed i) = true := by kernel_rfl)
  (hQ : ∀ c a w, Q (.panic c) (a.put oi.dst v) w → Q (.panic c) a w := by exact fun _ _ _ h => h) : wpAnyR P md l.toArray Q kb (fuel + 1) listed a w :=
 bG (F := fun _ => True) (fun _ _ _ h => h) trivial i hi (ha ▸ h) (.inl ⟨hw, fun w _ => hrun w⟩) hb hQ
/-- One that is guarded off. -/
theorem bS (i : Nat) (hi : l[i]? = some oi) (h : wpAnyR P md l.toArray Q kb fuel (listed.setIfInBounds i true) a' w) (ha : a.put oi.dst undef = a' := by first | (go_frame; rfl) | rfl) (hw : Region.wanted oi (yielded l.toArray a.tmps) = false := by kernel_rfl)
  (hb : (Region.noSelect l.toArray && Region.free md l.toArray listed i && (Region.ready md l.toArray listed).contains i && keepsR md l.toArray kb listed i) = true := by kernel_rfl)
  (hQ : ∀ c a w, Q (.panic c) (a.put oi.dst undef) w → Q (.panic c) a w := by exact fun _ _ _ h => h) : wpAnyR P md l.toArray Q kb (fuel + 1) listed a w :=
 bG (F := fun _ => True) (fun _ _ _ h => h) trivial i hi (ha ▸ h) (.inr ⟨hw, rfl⟩) hb hQ
/-- One that reads one cell, two, four. -/
theorem bT {g j : Nat} {u : Value} (hc : w.cell? ⟨g, j, none⟩ = some u) (i : Nat) (hi : l[i]? = some oi) (h : wpAnyR P md l.toArray Q kb fuel (listed.setIfInBounds i true) a' w)
  (hrun : ∀ w : World, w.cell? ⟨g, j, none⟩ = some u → (execOp a.eval oi).run P w = .ok (.value v) w := by (intro w _; go_simp; (try with_reducible rfl))) (ha : a.put oi.dst v = a' := by first | (go_frame; rfl) | rfl) (hw : Region.wanted oi (yielded l.toArray a.tmps) = true := by first | rfl | kernel_rfl)
  (hb : (Region.noSelect l.toArray && Region.free md l.toArray listed i && (Region.ready md l.toArray listed).contains i && keepsR md l.toArray kb listed i) = true := by kernel_rfl)
  (hQ : ∀ c a w, Q (.panic c) (a.put oi.dst v) w → Q (.panic c) a w := by exact fun _ _ _ h => h) : wpAnyR P md l.toArray Q kb (fuel + 1) listed a w :=
 bG (F := fun X => X.cell? ⟨g, j, none⟩ = some u) (fun _ _ hb h => cell_below hb h) hc i hi (ha ▸ h) (.inl ⟨hw, hrun⟩) hb hQ
theorem bP {g j g' j' : Nat} {u u' : Value} (hc : w.cell? ⟨g, j, none⟩ = some u) (hc' : w.cell? ⟨g', j', none⟩ = some u') (i : Nat) (hi : l[i]? = some oi) (h : wpAnyR P md l.toArray Q kb fuel (listed.setIfInBounds i true) a' w)
  (hrun : ∀ w : World, w.cell? ⟨g, j, none⟩ = some u → w.cell? ⟨g', j', none⟩ = some u' → (execOp a.eval oi).run P w = .ok (.value v) w := by (intro w _ _; go_simp; (try with_reducible rfl))) (ha : a.put oi.dst v = a' := by first | (go_frame; rfl) | rfl) (hw : Region.wanted oi (yielded l.toArray a.tmps) = true := by first | rfl | kernel_rfl)
  (hb : (Region.noSelect l.toArray && Region.free md l.toArray listed i && (Region.ready md l.toArray listed).contains i && keepsR md l.toArray kb listed i) = true := by kernel_rfl)
  (hQ : ∀ c a w, Q (.panic c) (a.put oi.dst v) w → Q (.panic c) a w := by exact fun _ _ _ h => h) : wpAnyR P md l.toArray Q kb (fuel + 1) listed a w :=
 bG (F := fun X => X.cell? ⟨g, j, none⟩ = some u ∧ X.cell? ⟨g', j', none⟩ = some u') (fun _ _ hb h => ⟨cell_below hb h.1, cell_below hb h.2⟩) ⟨hc, hc'⟩ i hi (ha ▸ h) (.inl ⟨hw, fun w h => hrun w h.1 h.2⟩) hb hQ
theorem bW {g j g1 j1 g2 j2 g3 j3 : Nat} {u u1 u2 u3 : Value} (hc : w.cell? ⟨g, j, none⟩ = some u) (hc1 : w.cell? ⟨g1, j1, none⟩ = some u1) (hc2 : w.cell? ⟨g2, j2, none⟩ = some u2) (hc3 : w.cell? ⟨g3, j3, none⟩ = some u3) (i : Nat) (hi : l[i]? = some oi) (h : wpAnyR P md l.toArray Q kb fuel (listed.setIfInBounds i true) a' w)
  (hrun : ∀ w : World, w.cell? ⟨g, j, none⟩ = some u → w.cell? ⟨g1, j1, none⟩ = some u1 → w.cell? ⟨g2, j2, none⟩ = some u2 → w.cell? ⟨g3, j3, none⟩ = some u3 → (execOp a.eval oi).run P w = .ok (.value v) w := by (intro w _ _ _ _; go_simp; (try with_reducible rfl))) (ha : a.put oi.dst v = a' := by first | (go_frame; rfl) | rfl) (hw : Region.wanted oi (yielded l.toArray a.tmps) = true := by first | rfl | kernel_rfl)
  (hb : (Region.noSelect l.toArray && Region.free md l.toArray listed i && (Region.ready md l.toArray listed).contains i && keepsR md l.toArray kb listed i) = true := by kernel_rfl)
  (hQ : ∀ c a w, Q (.panic c) (a.put oi.dst v) w → Q (.panic c) a w := by exact fun _ _ _ h => h) : wpAnyR P md l.toArray Q kb (fuel + 1) listed a w :=
 bG (F := fun X => X.cell? ⟨g, j, none⟩ = some u ∧ X.cell? ⟨g1, j1, none⟩ = some u1 ∧ X.cell? ⟨g2, j2, none⟩ = some u2 ∧ X.cell? ⟨g3, j3, none⟩ = some u3) (fun _ _ hb h => ⟨cell_below hb h.1, cell_below hb h.2.1, cell_below hb h.2.2.1, cell_below hb h.2.2.2⟩) ⟨hc, hc1, hc2, hc3⟩ i hi (ha ▸ h) (.inl ⟨hw, fun w h => hrun w h.1 h.2.1 h.2.2.1 h.2.2.2⟩) hb hQ
/-- Only operation i is ready; several are; none is. -/
theorem AllR.cons {i : Nat} {o : Oper} {rs : List Nat} (ho : l[i]? = some o)
  (h : ∀ K' : Act → World → Prop, Shut (∀ a' w', (kb i = true → Below w.heap.size w w') → wpAnyR P md l.toArray Q kb fuel (listed.setIfInBounds i true) a' w' → K' a' w') → Oper.wp P o a w K' Q)
  (hs : AllR P md l.toArray Q kb fuel listed a w rs) (hw : Region.wanted o (yielded l.toArray a.tmps) = true := by first | rfl | kernel_rfl) : AllR P md l.toArray Q kb fuel listed a w (i :: rs) := fun j hj => by
 rcases List.mem_cons.1 hj with rfl | hj
 ·refine wpOp_step (by rw [List.getElem?_toArray]; exact ho) (fun K' hK => ?_)
  rw [if_pos hw]
  exact h K' (fun a' w' h1 h2 => hK a' w' ⟨h1, h2⟩)
 ·exact hs j hj
theorem bA {rs : List Nat} (h : AllR P md l.toArray Q kb fuel listed a w rs) (hr : Region.ready md l.toArray listed = rs := by kernel_rfl) (hne : rs ≠ [] := by simp) : wpAnyR P md l.toArray Q kb (fuel + 1) listed a w :=
 ⟨fun h0 => absurd (hr ▸ h0) hne, by rw [hr]; exact h⟩
theorem bR (i : Nat) {o : Oper} (ho : l[i]? = some o)
  (h : ∀ K' : Act → World → Prop, Shut (∀ a' w', (kb i = true → Below w.heap.size w w') → wpAnyR P md l.toArray Q kb fuel (listed.setIfInBounds i true) a' w' → K' a' w') → Oper.wp P o a w K' Q)
  (hr : Region.ready md l.toArray listed = [i] := by kernel_rfl) (hw : Region.wanted o (yielded l.toArray a.tmps) = true := by first | rfl | kernel_rfl) : wpAnyR P md l.toArray Q kb (fuel + 1) listed a w :=
 bA (AllR.cons ho h AllR.nil hw) hr
theorem wpAnyR_done (hr : Region.ready md l.toArray listed = []) (h : Q .normal a w) : ∀ fuel, wpAnyR P md l.toArray Q kb fuel listed a w
 | 0 => ⟨hr, h⟩
 | _ + 1 => ⟨fun _ => h, by rw [hr]; simp⟩
theorem bD (h : Q .normal a w) (hr : Region.ready md l.toArray listed = [] := by kernel_rfl) : wpAnyR P md l.toArray Q kb fuel listed a w := wpAnyR_done hr h _
end
end Go.Proofs.Ytdadoelajhemjaa
