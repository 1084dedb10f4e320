/- Plain: text Q1's moves for a region inside a round of a loop over a function, calls included. No program here. -/
import Derived.Test.YtdadoelajhemjaaQ1
namespace Go.Proofs.Ytdadoelajhemjaa
open Go.RowKit

section
variable {P : Program} {ops : Array Oper} {md : Region.Mode} {Q : Exit → Act → World → Prop} {r m : Nat}
theorem rowsIn_round {row : String} {args : Array Value} {w : World} {R : Value → World → Prop} (h : Rows P row args w R) : RowsIn (Fence.wide.inRound r) m P row args w R := fun c cs _ =>
 let ⟨v, w', h1, h2⟩ := h c cs; ⟨v, w', h1, stepsIn_wide.2 h2⟩
theorem wpIn_of_wpR {o : Oper} {a : Act} {w : World} {K : Act → World → Prop} (hnd : ∀ c, o.op ≠ .defer c) (h : o.wp P a w K (EndsOnly Q)) : o.wpIn (Fence.wide.inRound r) m P a w K Q := by
 unfold Oper.wpIn
 refine ⟨fun _ _ => trivial, ?_⟩
 rw [Oper.semAt_eq _ _ _ hnd]
 unfold Oper.wp at h
 generalize (execOp a.eval o).run P w = z at *
 cases z with
 | ok x w' =>
  cases x <;> simp only [Oper.upon] at h <;> simp only [Oper.uponIn]
  case value v => exact h
  case skip => exact h
  case defer d => exact h
  case enter f args =>
   refine ⟨fun e => (by cases e), CallsIn.inRound r (callsIn_wide.2 (Calls.mono h ?_))⟩
   intro e w'' h2
   cases e with
   | returned v => exact h2
   | panicked c => exact h2.elim
   | outgrown => obtain ⟨_, _, h3⟩ := h2; exact h3.elim
  case row row args => exact ⟨fun e => (by cases e), rowsIn_round h⟩
 | halt x w' => cases x <;> simp only [Oper.upon] at h <;> exact h.elim
theorem wpOpIn_of_wpR (hnd : ∀ (i : Nat) (o : Oper) c, ops[i]? = some o → o.op ≠ .defer c) {i : Nat} {K K' : Act → World → Prop} {a : Act} {w : World} (hK : ∀ a w, K a w → K' a w) (h : wpOp P ops (EndsOnly Q) i K a w) : wpOpIn (Fence.wide.inRound r) m P ops Q i K' a w := by
 unfold wpOp at h
 unfold wpOpIn
 split
 ·rename_i ho; simp only [ho] at h; exact hK _ _ h
 ·rename_i o ho
  simp only [ho] at h
  split
  ·rename_i hw
   simp only [hw, if_true] at h
   rcases h with h | ⟨_, a', w', hq⟩
   ·have h1 := wpIn_of_wpR (r := r) (m := m) (hnd i o · ho) h
    exact Oper.wpIn_mono hK h1
   ·exact hq.elim
  ·rename_i hw
   simp only [hw] at h
   exact ⟨fun _ _ => trivial, hK _ _ h⟩
theorem wpAnyIn_of_wpR (hnd : ∀ (i : Nat) (o : Oper) c, ops[i]? = some o → o.op ≠ .defer c) : ∀ (fuel : Nat) (listed : Array Bool) (a : Act) (w : World), wpAny P md ops (EndsOnly Q) fuel listed a w → wpAnyIn (Fence.wide.inRound r) m P md ops Q fuel listed a w
 | 0, _, _, _, h => ⟨h.1, h.2⟩
 | fuel + 1, _, _, _, h => ⟨fun h0 => h.1 h0, fun i hi => wpOpIn_of_wpR hnd (fun a' w' h' => wpAnyIn_of_wpR hnd fuel _ a' w' h') (h.2 i hi)⟩
theorem wpIn_region_R {id : Nat} {a : Act} {w : World} {l : List Oper} (kb : Nat → Bool) (h : wpAnyR P .any l.toArray (EndsOnly Q) kb l.toArray.size (Array.replicate l.toArray.size false) a w.drew)
  (hm : P.follows .mixedOrders = true := by kernel_rfl) (hd : noDeferB l = true := by kernel_rfl) : (Code.region id l.toArray true).wpIn (Fence.wide.inRound r) m P Q a w :=
 wpIn_region_any hm (wpAnyIn_of_wpR (noDeferB_spec hd) _ _ _ _ (wpAny_of_R _ _ _ _ h))
end
section
variable {P : Program} {l : List Oper} {Q : Exit → Act → World → Prop} {md : Region.Mode} {kb : Nat → Bool} {oi : Oper} {v : Value} {fuel : Nat} {listed : Array Bool} {a a' : Act} {w : World}
/-- An operation that reads three cells. -/
theorem bV {g j g1 j1 g2 j2 : Nat} {u u1 u2 : Value} (hc : w.cell? ⟨g, j, none⟩ = some u) (hc1 : w.cell? ⟨g1, j1, none⟩ = some u1) (hc2 : w.cell? ⟨g2, j2, none⟩ = some u2) (i : Nat) (hi : l[i]? = some oi) (h : wpAnyR P md l.toArray Q kb fuel (listed.setIfInBounds i true) a' w)
  (hrun : ∀ w : World, w.cell? ⟨g, j, none⟩ = some u → w.cell? ⟨g1, j1, none⟩ = some u1 → w.cell? ⟨g2, j2, none⟩ = some u2 → (execOp a.eval oi).run P w = .ok (.value v) w := by (intro w _ _ _; go_simp; (try with_reducible rfl))) (ha : a.put oi.dst v = a' := by first | (go_frame; rfl) | rfl) (hw : Region.wanted oi (yielded l.toArray a.tmps) = true := by first | rfl | kernel_rfl)
  (hb : (Region.noSelect l.toArray && Region.free md l.toArray listed i && (Region.ready md l.toArray listed).contains i && keepsR md l.toArray kb listed i) = true := by kernel_rfl)
  (hQ : ∀ c a w, Q (.panic c) (a.put oi.dst v) w → Q (.panic c) a w := by exact fun _ _ _ h => h) : wpAnyR P md l.toArray Q kb (fuel + 1) listed a w :=
 bG (F := fun X => X.cell? ⟨g, j, none⟩ = some u ∧ X.cell? ⟨g1, j1, none⟩ = some u1 ∧ X.cell? ⟨g2, j2, none⟩ = some u2) (fun _ _ hb h => ⟨cell_below hb h.1, cell_below hb h.2.1, cell_below hb h.2.2⟩) ⟨hc, hc1, hc2⟩ i hi (ha ▸ h) (.inl ⟨hw, fun w h => hrun w h.1 h.2.1 h.2.2⟩) hb hQ
end
end Go.Proofs.Ytdadoelajhemjaa
