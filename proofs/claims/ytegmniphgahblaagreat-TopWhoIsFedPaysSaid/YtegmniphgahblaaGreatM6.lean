/- Plain: a region that draws its order, some of whose operations end what others read: each reads first what nobody ahead of it ends. No program here. | Words: two lists of ints of the call's own, in two boxes; one region appends to both. | Walks: signs. -/
import Derived.Test.YtegmniphgahblaaGreatM5
import Derived.Maps.RangeWalk
namespace Go.Proofs.YtegmniphgahblaaGreat
open Go.RowKit

section
variable {P : Program} {ops : Array Oper} {Q : Exit → Act → World → Prop} {md : Region.Mode} {S : Nat → World → Prop} {kp : Nat → Nat → Bool}

/-- Whatever order is picked: operation i keeps those of the words S that 'kp i' names. -/
def wpAnyK (P : Program) (md : Region.Mode) (ops : Array Oper) (Q : Exit → Act → World → Prop) (S : Nat → World → Prop) (kp : Nat → Nat → Bool) : Nat → Array Bool → Act → World → Prop
 | 0, listed, a, w => Region.ready md ops listed = [] ∧ Q .normal a w
 | fuel + 1, listed, a, w =>
  (Region.ready md ops listed = [] → Q .normal a w) ∧
  ∀ i ∈ Region.ready md ops listed, wpOp P ops Q i (fun a' w' => (∀ k, kp i k = true → S k w → S k w') ∧ wpAnyK P md ops Q S kp fuel (listed.setIfInBounds i true) a' w') a w

theorem wpAny_of_K : ∀ (fuel : Nat) (listed : Array Bool) (a : Act) (w : World), wpAnyK P md ops Q S kp fuel listed a w → wpAny P md ops Q fuel listed a w
 | 0, _, _, _, h => h
 | fuel + 1, _, _, _, h => ⟨h.1, fun i hi => wpOp_mono (fun a' w' h' => wpAny_of_K fuel _ a' w' h'.2) (h.2 i hi)⟩

theorem wpAnyK_first {i k : Nat} {oi : Oper} {v : Value} (hi : ops[i]? = some oi) (hsel : ∀ (j : Nat) (o : Oper) cs b, ops[j]? = some o → o.op ≠ .select cs b)
  (hQ : ∀ c a w, Q (.panic c) (a.put oi.dst v) w → Q (.panic c) a w)
  (hkp : ∀ j oj, ops[j]? = some oj → j ≠ i → (∀ e ∈ oj.after, Region.binds md e = true → e.on ≠ i) → kp j k = true) :
  ∀ (fuel : Nat) (listed : Array Bool) (a : Act) (w : World),
   (∀ j oj, ops[j]? = some oj → j ≠ i → listed.getD j true = false → (∀ e ∈ oj.after, Region.binds md e = true → e.on ≠ i) → oi.apart ops oj = true) →
   i ∈ Region.ready md ops listed → YieldsIf P ops (S k) oi v a → S k w →
   wpAnyK P md ops Q S kp fuel (listed.setIfInBounds i true) (a.put oi.dst v) w → wpAnyK P md ops Q S kp (fuel + 1) listed a w := by
 intro fuel
 induction fuel with
 | zero =>
  intro listed a w _ hr hy hS H
  refine ⟨fun h => (by rw [h] at hr; cases hr), fun j hj => ?_⟩
  by_cases hji : j = i
  ·subst hji; exact hy.wpOp hi hS ⟨fun _ _ h => h, H⟩
  ·have := ready_mono hj hji
   rw [H.1] at this
   cases this
 | succ fuel ih =>
  intro listed a w hfree hr hy hS H
  refine ⟨fun h => (by rw [h] at hr; cases hr), fun j hj => ?_⟩
  by_cases hji : j = i
  ·subst hji; exact hy.wpOp hi hS ⟨fun _ _ h => h, H⟩
  ·have h1 := H.2 j (ready_mono hj hji)
   obtain ⟨hjun, oj, hoj, hall⟩ := mem_ready.1 hj
   have hnot : ∀ e ∈ oj.after, Region.binds md e = true → e.on ≠ i := fun e he hb heq => by
    have h1 := hall e he hb
    have h0 := (mem_ready.1 hr).1
    rw [heq] at h1
    rcases Nat.lt_or_ge i listed.size with h' | h'
    ·simp [h'] at h0 h1; rw [h0] at h1; cases h1
    ·simp [Array.getElem?_eq_none h'] at h1
   have h2 := wpOp_putIf hoj (hfree j oj hoj hji hjun hnot) (fun cs b => hsel i oi cs b hi) (fun cs b => hsel j oj cs b hoj) hQ hy h1
   have hfree' : ∀ m om, ops[m]? = some om → m ≠ i → (listed.setIfInBounds j true).getD m true = false →
     (∀ e ∈ om.after, Region.binds md e = true → e.on ≠ i) → oi.apart ops om = true := fun m om hm hmi hun hno => by
    refine hfree m om hm hmi ?_ hno
    by_cases hjm : j = m
    ·subst hjm; exact hjun
    ·rw [getD_set_ne true hjm] at hun; exact hun
   refine wpOp_mono (fun a' w' h3 => ⟨h3.2.1, ih (listed.setIfInBounds j true) a' w' hfree' (ready_mono hr (Ne.symm hji)) h3.1 (h3.2.1 k (hkp j oj hoj hji hnot) hS) ?_⟩) h2
   rw [Array.setIfInBounds_comm _ _ hji]
   exact h3.2.2

/-- Every operation that may come ahead of i keeps word k. -/
def keepsB (md : Region.Mode) (ops : Array Oper) (kp : Nat → Nat → Bool) (i k : Nat) : Bool :=
 (List.range ops.size).all fun j => match ops[j]? with
  | none => true
  | some oj => decide (j = i) || kp j k || oj.after.any (fun e => Region.binds md e && decide (e.on = i))
theorem keepsB_spec {i k : Nat} (h : keepsB md ops kp i k = true) : ∀ j oj, ops[j]? = some oj → j ≠ i → (∀ e ∈ oj.after, Region.binds md e = true → e.on ≠ i) → kp j k = true := fun j oj hj hji hno => by
 have h1 := List.all_eq_true.1 h j (List.mem_range.2 (Array.getElem?_eq_some_iff.1 hj).1)
 simp only [hj] at h1
 rcases Bool.or_eq_true_iff.1 h1 with h1 | h1
 ·rcases Bool.or_eq_true_iff.1 h1 with h1 | h1
  ·exact absurd (of_decide_eq_true h1) hji
  ·exact h1
 ·obtain ⟨e, he⟩ := Array.any_eq_true'.1 h1
  obtain ⟨h2, h3⟩ := he
  rw [Bool.and_eq_true] at h3
  exact absurd (of_decide_eq_true h3.2) (hno e h2 h3.1)
theorem wpAnyK_take (k : Nat) {i : Nat} {oi : Oper} {v : Value} {fuel : Nat} {listed : Array Bool} {a : Act} {w : World} (hi : ops[i]? = some oi)
  (hs : Region.noSelect ops = true) (hf : Region.free md ops listed i = true) (hr : (Region.ready md ops listed).contains i = true) (hk : keepsB md ops kp i k = true)
  (hQ : ∀ c a w, Q (.panic c) (a.put oi.dst v) w → Q (.panic c) a w) (hS : S k w) (hy : YieldsIf P ops (S k) oi v a)
  (h : wpAnyK P md ops Q S kp fuel (listed.setIfInBounds i true) (a.put oi.dst v) w) : wpAnyK P md ops Q S kp (fuel + 1) listed a w :=
 wpAnyK_first hi (Region.noSelect_spec hs) hQ (keepsB_spec hk) fuel listed a w (Region.free_spec hi hf) (by simpa using hr) hy hS h
theorem wpAnyK_done {listed : Array Bool} {a : Act} {w : World} (hr : Region.ready md ops listed = []) (h : Q .normal a w) : ∀ fuel, wpAnyK P md ops Q S kp fuel listed a w
 | 0 => ⟨hr, h⟩
 | _ + 1 => ⟨fun _ => h, by rw [hr]; simp⟩

def AllK (P : Program) (md : Region.Mode) (ops : Array Oper) (Q : Exit → Act → World → Prop) (S : Nat → World → Prop) (kp : Nat → Nat → Bool) (fuel : Nat) (listed : Array Bool) (a : Act) (w : World) (rs : List Nat) : Prop :=
 ∀ i ∈ rs, wpOp P ops Q i (fun a' w' => (∀ k, kp i k = true → S k w → S k w') ∧ wpAnyK P md ops Q S kp fuel (listed.setIfInBounds i true) a' w') a w
theorem AllK.nil {fuel : Nat} {listed : Array Bool} {a : Act} {w : World} : AllK P md ops Q S kp fuel listed a w [] := fun _ h => by cases h
theorem AllK.cons {fuel : Nat} {listed : Array Bool} {a : Act} {w : World} {i : Nat} {o : Oper} {rs : List Nat} (ho : ops[i]? = some o) (hw : Region.wanted o (yielded ops a.tmps) = true)
  (h : ∀ K' : Act → World → Prop, Shut (∀ a' w', (∀ k, kp i k = true → S k w → S k w') → wpAnyK P md ops Q S kp fuel (listed.setIfInBounds i true) a' w' → K' a' w') → Oper.wp P o a w K' Q)
  (hs : AllK P md ops Q S kp fuel listed a w rs) : AllK P md ops Q S kp fuel listed a w (i :: rs) := fun j hj => by
 rcases List.mem_cons.1 hj with rfl | hj
 ·refine wpOp_step ho (fun K' hK => ?_)
  rw [if_pos hw]
  exact h K' (fun a' w' h1 h2 => hK a' w' ⟨h1, h2⟩)
 ·exact hs j hj
theorem wpAnyK_ready {rs : List Nat} {fuel : Nat} {listed : Array Bool} {a : Act} {w : World} (hr : Region.ready md ops listed = rs) (hne : rs ≠ []) (h : AllK P md ops Q S kp fuel listed a w rs) : wpAnyK P md ops Q S kp (fuel + 1) listed a w :=
 ⟨fun h0 => absurd (hr ▸ h0) hne, by rw [hr]; exact h⟩
theorem wp_region_K {id : Nat} {a : Act} {w : World} (hm : P.follows .mixedOrders = true) (S : Nat → World → Prop) (kp : Nat → Nat → Bool)
  (h : wpAnyK P .any ops Q S kp ops.size (Array.replicate ops.size false) a w.drew) : (Code.region id ops true).wp P Q a w := wp_region_any hm (wpAny_of_K _ _ _ _ h)
/-- The same, inside any fence, for a region that calls no function. -/
theorem wpIn_region_K {F : Fence} {n : Nat} {id : Nat} {a : Act} {w : World} {l : List Oper} (hF : ∀ f, F.fn f) (hm : P.follows .mixedOrders = true) (hpl : l.all plainOp = true) (S : Nat → World → Prop) (kp : Nat → Nat → Bool)
  (h : wpAnyK P .any l.toArray (EndsOnly Q) S kp l.toArray.size (Array.replicate l.toArray.size false) a w.drew) : (Code.region id l.toArray true).wpIn F n P Q a w := by
 refine wpIn_region_any hm (wpAnyIn_of_wpAny hF (fun i o ho => ?_) _ _ _ _ (wpAny_of_K _ _ _ _ h))
 have h1 := List.all_eq_true.1 hpl o
 rw [List.getElem?_toArray] at ho
 exact h1 (List.mem_of_getElem? ho)
end

section
variable {P : Program} {l : List Oper} {Q : Exit → Act → World → Prop} {md : Region.Mode} {S : Nat → World → Prop} {kp : Nat → Nat → Bool}
/-- The same two, the region's operations told by their list. -/
theorem wpAnyK_takeL (k : Nat) {i : Nat} {oi : Oper} {v : Value} {fuel : Nat} {listed : Array Bool} {a : Act} {w : World} (hi : l[i]? = some oi)
  (hs : Region.noSelect l.toArray = true) (hf : Region.free md l.toArray listed i = true) (hr : (Region.ready md l.toArray listed).contains i = true) (hk : keepsB md l.toArray kp i k = true)
  (hQ : ∀ c a w, Q (.panic c) (a.put oi.dst v) w → Q (.panic c) a w) (hS : S k w) (hy : YieldsIf P l.toArray (S k) oi v a)
  (h : wpAnyK P md l.toArray Q S kp fuel (listed.setIfInBounds i true) (a.put oi.dst v) w) : wpAnyK P md l.toArray Q S kp (fuel + 1) listed a w :=
 wpAnyK_take k (by rw [List.getElem?_toArray]; exact hi) hs hf hr hk hQ hS hy h
/-- The same as wpAnyK_takeL, told short: an operation that reads a word (kT), that reads none (kF), one that is guarded off (kS). -/
theorem kF (k i : Nat) {oi : Oper} {v : Value} {fuel : Nat} {listed : Array Bool} {a a' : Act} {w : World} (hi : l[i]? = some oi)
  (h : wpAnyK P md l.toArray Q S kp fuel (listed.setIfInBounds i true) a' w)
  (hrun : ∀ w, S k w → (execOp a.eval oi).run P w = .ok (.value v) w := by (intro w _; go_simp; (try with_reducible rfl)))
  (ha : a.put oi.dst v = a' := by first | (go_frame; rfl) | rfl) (hw : Region.wanted oi (yielded l.toArray a.tmps) = true := by first | rfl | kernel_rfl)
  (hb : (Region.noSelect l.toArray && Region.free md l.toArray listed i && (Region.ready md l.toArray listed).contains i && keepsB md l.toArray kp i k) = true := by kernel_rfl)
  (hQ : ∀ c a w, Q (.panic c) (a.put oi.dst v) w → Q (.panic c) a w := by exact fun _ _ _ h => h) (hS : S k w := by first | assumption | trivial) : wpAnyK P md l.toArray Q S kp (fuel + 1) listed a w :=
 by subst ha; simp only [Bool.and_eq_true] at hb; exact wpAnyK_takeL k hi hb.1.1.1 hb.1.1.2 hb.1.2 hb.2 hQ hS (Or.inl ⟨hw, hrun⟩) h
theorem kT (k i : Nat) {oi : Oper} {v : Value} {fuel : Nat} {listed : Array Bool} {a a' : Act} {w : World} (hi : l[i]? = some oi)
  (h : wpAnyK P md l.toArray Q S kp fuel (listed.setIfInBounds i true) a' w)
  (hrun : ∀ w, S k w → (execOp a.eval oi).run P w = .ok (.value v) w := by (intro w hSw; (try dsimp only at hSw); (try change _ = _ at hSw); (try (obtain ⟨_, _⟩ : _ ∧ _ := hSw)); go_simp; (try with_reducible rfl)))
  (ha : a.put oi.dst v = a' := by first | (go_frame; rfl) | rfl) (hw : Region.wanted oi (yielded l.toArray a.tmps) = true := by first | rfl | kernel_rfl)
  (hb : (Region.noSelect l.toArray && Region.free md l.toArray listed i && (Region.ready md l.toArray listed).contains i && keepsB md l.toArray kp i k) = true := by kernel_rfl)
  (hQ : ∀ c a w, Q (.panic c) (a.put oi.dst v) w → Q (.panic c) a w := by exact fun _ _ _ h => h) (hS : S k w := by first | assumption | trivial) : wpAnyK P md l.toArray Q S kp (fuel + 1) listed a w :=
 kF k i hi h hrun ha hw hb hQ hS
theorem kS (k i : Nat) {oi : Oper} {fuel : Nat} {listed : Array Bool} {a a' : Act} {w : World} (hi : l[i]? = some oi)
  (h : wpAnyK P md l.toArray Q S kp fuel (listed.setIfInBounds i true) a' w) (ha : a.put oi.dst undef = a' := by first | (go_frame; rfl) | rfl) (hw : Region.wanted oi (yielded l.toArray a.tmps) = false := by kernel_rfl)
  (hb : (Region.noSelect l.toArray && Region.free md l.toArray listed i && (Region.ready md l.toArray listed).contains i && keepsB md l.toArray kp i k) = true := by kernel_rfl)
  (hQ : ∀ c a w, Q (.panic c) (a.put oi.dst undef) w → Q (.panic c) a w := by exact fun _ _ _ h => h) (hS : S k w := by first | assumption | trivial) : wpAnyK P md l.toArray Q S kp (fuel + 1) listed a w :=
 by subst ha; simp only [Bool.and_eq_true] at hb; exact wpAnyK_takeL k hi hb.1.1.1 hb.1.1.2 hb.1.2 hb.2 hQ hS (Or.inr ⟨hw, rfl⟩) h
theorem AllK.consL {fuel : Nat} {listed : Array Bool} {a : Act} {w : World} {i : Nat} {o : Oper} {rs : List Nat} (ho : l[i]? = some o) (hw : Region.wanted o (yielded l.toArray a.tmps) = true)
  (h : ∀ K' : Act → World → Prop, Shut (∀ a' w', (∀ k, kp i k = true → S k w → S k w') → wpAnyK P md l.toArray Q S kp fuel (listed.setIfInBounds i true) a' w' → K' a' w') → Oper.wp P o a w K' Q)
  (hs : AllK P md l.toArray Q S kp fuel listed a w rs) : AllK P md l.toArray Q S kp fuel listed a w (i :: rs) := AllK.cons (by rw [List.getElem?_toArray]; exact ho) hw h hs
/-- Only operation i is ready. -/
theorem kR (i : Nat) {fuel : Nat} {listed : Array Bool} {a : Act} {w : World} {o : Oper} (ho : l[i]? = some o)
  (h : ∀ K' : Act → World → Prop, Shut (∀ a' w', (∀ k, kp i k = true → S k w → S k w') → wpAnyK P md l.toArray Q S kp fuel (listed.setIfInBounds i true) a' w' → K' a' w') → Oper.wp P o a w K' Q)
  (hr : Region.ready md l.toArray listed = [i] := by kernel_rfl) (hw : Region.wanted o (yielded l.toArray a.tmps) = true := by first | rfl | kernel_rfl) : wpAnyK P md l.toArray Q S kp (fuel + 1) listed a w :=
 wpAnyK_ready hr (by simp) (AllK.consL ho hw h AllK.nil)
theorem kD {listed : Array Bool} {a : Act} {w : World} {fuel : Nat} (h : Q .normal a w) (hr : Region.ready md l.toArray listed = [] := by kernel_rfl) : wpAnyK P md l.toArray Q S kp fuel listed a w := wpAnyK_done hr h _
end

/-- R at the end, and no other way out. -/
def CutQ (R : Act → World → Prop) : Exit → Act → World → Prop
 | .normal, a, w => R a w
 | _, _, _ => False
/-- A drawn region whose end is told first: the orders meet there. -/
theorem wp_region_cut {P : Program} {ops : Array Oper} {Q : Exit → Act → World → Prop} {id : Nat} {a : Act} {w : World} (R : Act → World → Prop) (hm : P.follows .mixedOrders = true) (S : Nat → World → Prop) (kp : Nat → Nat → Bool)
  (h : wpAnyK P .any ops (CutQ R) S kp ops.size (Array.replicate ops.size false) a w.drew) (hR : ∀ a w, R a w → Q .normal a w) : (Code.region id ops true).wp P Q a w :=
 Code.wp_mono (fun e a w h => by
  cases e with
  | normal => exact hR _ _ h
  | _ => exact h.elim) (wp_region_K hm S kp h)

end Go.Proofs.YtegmniphgahblaaGreat
namespace Go.Proofs.YtegmniphgahblaaGreat
open Go.RowKit
open Go.RowKit Go.Shelf

theorem Own.kept {W W' : World} {base : Nat} {v : Value} {xs : List Int} {row : Option Nat} (h : Own W base v xs) (hg : W.grownBy W' row) (hr : ∀ r, row = some r → ∃ o : Obj, W.heap[r]? = some o ∧ o.isCells = false) : Own W' base v xs := by
 rcases h.2 with ⟨e, hn⟩ | ⟨g, cap, cur, e, hbg, hg2, hrest⟩
 ·exact ⟨h.1, .inl ⟨e, hn⟩⟩
 ·exact ⟨h.1, .inr ⟨g, cap, cur, e, hbg, heap_kept hg2 rfl hg hr, hrest⟩⟩
theorem Own.blk {W W' : World} {base : Nat} {v : Value} {xs : List Int} (h : Own W base v xs) (hb : ∀ k, v.ownBlock = some k → W'.heap[k]? = W.heap[k]?) : Own W' base v xs := by
 rcases h.2 with ⟨e, hn⟩ | ⟨g, cap, cur, e, hbg, hg2, hrest⟩
 ·exact ⟨h.1, .inl ⟨e, hn⟩⟩
 ·exact ⟨h.1, .inr ⟨g, cap, cur, e, hbg, (hb g (by rw [e]; rfl)).trans hg2, hrest⟩⟩
theorem Own.blkIs {W : World} {base : Nat} {v : Value} {xs : List Int} (h : Own W base v xs) {k : Nat} (hk : v.ownBlock = some k) : base ≤ k ∧ k < W.heap.size ∧ ∃ o, W.heap[k]? = some o ∧ o.isCells = true := by
 rcases h.2 with ⟨e, _⟩ | ⟨g, cap, cur, e, hbg, hg2, _⟩
 ·rw [e] at hk; cases hk
 ·rw [e] at hk; cases hk
  exact ⟨hbg, (Array.getElem?_eq_some_iff.1 hg2).1, _, hg2, rfl⟩

section
variable {P : Program}
theorem wp_append_ownB {op : Oper} {a : Act} {w : World} {K : Act → World → Prop} {Q : Exit → Act → World → Prop} (s x : Operand) (t : TypeId) (ho : op.op = .call { callee := .builtin .append, args := #[s, x], argTypes := #[t, t] })
  (base : Nat) (e : TypeId) (i : TypeInfo) (z : Value) (size bytes : Nat) (ht : P.underlying t = some (.slice e)) (hi : P.info? e = some i) (hz : i.zero = some z)
  (hsize : i.size = size) (hby : i.bytes = bytes) (hzs : z.cells.size = size) (hsz : 0 < size)
  (v : Value) (n : Nat) (xs : List Value) (hs : a.eval s = v) (hown : w.ownsRow base e size v n xs)
  (ad : Addr) (m c : Nat) (news : List Value) (hx : a.eval x = .slice (some ad) m c) (hl : news.length = m * size) (hnews : ∀ j u, news[j]? = some u → w.cell? (ad.add j) = some u) (h1 : ∀ u ∈ news, u.oneCell' = true)
  (h63 : n + m ≤ maxLen) (hbytes : (n + m) * bytes ≤ 140737488355328) (hbase : base ≤ w.heap.size)
  (h : ∀ v' w', w'.ownsRow base e size v' (n + m) (xs ++ news) → w.grownBy w' v.ownBlock → (v'.ownBlock = v.ownBlock ∨ v'.ownBlock = some w.heap.size) → K (a.put op.dst v') w') : op.wp P a w K Q := by
 obtain ⟨v', w', hr, h2, h3, h4, h5⟩ := run_append_own_at (P := P) w base t op.type e i z size bytes ht hi hz hsize hby hzs hsz v n xs hown ad m c news hl hnews h1 h63 hbytes hbase
 unfold Oper.wp execOp
 simp only [ho, resolve, invoke, builtin, Sem.run_bind, Sem.run_pure, Result.andThen_ok, List.map_toArray, List.map_cons, List.map_nil, hs, hx, hr]
 exact h v' w' h2 h3 h5
end
/-- Appending one int to a list of the call's own. -/
theorem wp_append_int {op : Oper} {a : Act} {w : World} {K : Act → World → Prop} {Q : Exit → Act → World → Prop} (s x : Operand) (ho : op.op = .call { callee := .builtin .append, args := #[s, x], argTypes := #[28, 28] })
  (base : Nat) (v : Value) (xs : List Int) (y : Int) (hs : a.eval s = v) (hown : Own w base v xs) (hn : xs.length ≤ 1000000)
  (g : Nat) (hx : a.eval x = .slice (some ⟨g, 0, none⟩) 1 1) (hc : w.cell? ⟨g, 0, none⟩ = some (.int .i64 y)) (hbase : base ≤ w.heap.size)
  (h : ∀ v' w', Own w' base v' (xs ++ [y]) → w.grownBy w' v.ownBlock → (v'.ownBlock = v.ownBlock ∨ v'.ownBlock = some w.heap.size) → K (a.put op.dst v') w') : op.wp Tryz.prog a w K Q := by
 obtain ⟨i0, hi0, hz0, hz1, hz2⟩ := info_parts info3
 refine wp_append_ownB (P := Tryz.prog) s x 28 ho base 3 i0 (.int .i64 0) 1 8 Tryz.underlying28 hi0 hz0 hz1 hz2 rfl (by decide) v xs.length (xs.map (Value.int .i64)) hs hown ⟨g, 0, none⟩ 1 1 [.int .i64 y] hx (by simp) (fun j u hj => ?_) (by simp [Value.oneCell']) (by unfold maxLen; omega) (by omega) hbase (fun v' w' h1 h2 h3 => h v' w' (Own.of_row h1 rfl) h2 h3)
 cases j with
 | zero =>
  simp only [List.getElem?_cons_zero, Option.some.injEq] at hj
  rw [← hj]
  exact hc
 | succ j => simp at hj

/-- Two lists of the call's own, and the boxes of their variables. -/
structure Ap (base m : Nat) (W0 : World) (b5 b6 : Nat) (s5 s6 v5 v6 : Value) (L5 L6 : List Int) (X : World) : Prop where
 k5 : Blk X b5 #[s5] 28
 k6 : Blk X b6 #[s6] 28
 o5 : Own X base v5 L5
 o6 : Own X base v6 L6
 ne : ∀ k, v5.ownBlock = some k → v6.ownBlock ≠ some k
 kf : KeepsOthers W0 X
 bl : Below m W0 X
 b0 : m ≤ b5 ∧ m ≤ b6 ∧ b5 < base ∧ b6 < base ∧ b5 ≠ b6
 lt : base ≤ X.heap.size
 ms : m ≤ X.heap.size
 md : ∀ k, k < base → k ≠ b5 → k ≠ b6 → X.heap[k]? = W0.heap[k]?
section
variable {base m : Nat} {W0 : World} {b5 b6 : Nat} {s5 s6 v5 v6 : Value} {L5 L6 : List Int} {X X' : World}
theorem Ap.below (h : Ap base m W0 b5 b6 s5 s6 v5 v6 L5 L6 X) (hb : Below X.heap.size X X') (hk : KeepsOthers X X') : Ap base m W0 b5 b6 s5 s6 v5 v6 L5 L6 X' := by
 have hb0 := h.b0
 have hlt := h.lt
 have hm := h.ms
 exact ⟨(hb.block b5 (by omega)).trans h.k5, (hb.block b6 (by omega)).trans h.k6, h.o5.later hb, h.o6.later hb, h.ne, h.kf.trans hk, h.bl.trans (hb.mono hm), hb0, Nat.le_trans hlt hb.size, Nat.le_trans h.ms hb.size,
  fun k h1 h2 h3 => (hb.block k (by omega)).trans (h.md k h1 h2 h3)⟩
theorem Ap.alloc (h : Ap base m W0 b5 b6 s5 s6 v5 v6 L5 L6 X) (o : Obj) : Ap base m W0 b5 b6 s5 s6 v5 v6 L5 L6 (X.alloc o) := h.below ((Below.refl _ X).alloc (Nat.le_refl _) o) (KeepsOthers.alloc X o)
theorem Ap.drew (h : Ap base m W0 b5 b6 s5 s6 v5 v6 L5 L6 X) : Ap base m W0 b5 b6 s5 s6 v5 v6 L5 L6 X.drew := h.below ((Below.refl _ X).drew) (KeepsOthers.drew X)
theorem Ap.app5 {v5' : Value} {y : Int} (h : Ap base m W0 b5 b6 s5 s6 v5 v6 L5 L6 X) (ho : Own X' base v5' (L5 ++ [y])) (hg : X.grownBy X' v5.ownBlock) (hb : v5'.ownBlock = v5.ownBlock ∨ v5'.ownBlock = some X.heap.size) : Ap base m W0 b5 b6 s5 s6 v5' v6 (L5 ++ [y]) L6 X' := by
 have hb0 := h.b0
 have hlt := h.lt
 have hm := h.ms
 have hr : ∀ k, v5.ownBlock = some k → base ≤ k := fun k e => (h.o5.blkIs e).1
 exact ⟨(hg.block b5 (by omega) (fun e => by have := hr _ e.symm; omega)).trans h.k5, (hg.block b6 (by omega) (fun e => by have := hr _ e.symm; omega)).trans h.k6, ho,
  h.o6.blk (fun k e => hg.block k (h.o6.blkIs e).2.1 (fun e2 => h.ne k e2.symm e)),
  fun k e => by
   rcases hb with hb | hb
   ·exact h.ne k (hb ▸ e)
   ·intro e2
    have := (h.o6.blkIs e2).2.1
    rw [hb] at e; cases e; omega,
  h.kf.trans (KeepsOthers.of_grownBy hg (fun j o e h1 => by
   obtain ⟨_, _, o', h2, h3⟩ := h.o5.blkIs e
   rw [h2] at h1; cases h1; exact h3)),
  h.bl.grown hg hm (fun k e => by have := hr k e; omega), hb0, Nat.le_trans hlt hg.size, Nat.le_trans h.ms hg.size,
  fun k h1 h2 h3 => (hg.block k (by omega) (fun e => by have := hr _ e.symm; omega)).trans (h.md k h1 h2 h3)⟩
theorem Ap.swap (h : Ap base m W0 b5 b6 s5 s6 v5 v6 L5 L6 X) : Ap base m W0 b6 b5 s6 s5 v6 v5 L6 L5 X :=
 ⟨h.k6, h.k5, h.o6, h.o5, fun k e e2 => h.ne k e2 e, h.kf, h.bl, ⟨h.b0.2.1, h.b0.1, h.b0.2.2.2.1, h.b0.2.2.1, Ne.symm h.b0.2.2.2.2⟩, h.lt, h.ms, fun k h1 h2 h3 => h.md k h1 h3 h2⟩
theorem Ap.app6 {v6' : Value} {y : Int} (h : Ap base m W0 b5 b6 s5 s6 v5 v6 L5 L6 X) (ho : Own X' base v6' (L6 ++ [y])) (hg : X.grownBy X' v6.ownBlock) (hb : v6'.ownBlock = v6.ownBlock ∨ v6'.ownBlock = some X.heap.size) : Ap base m W0 b5 b6 s5 s6 v5 v6' L5 (L6 ++ [y]) X' := (h.swap.app5 ho hg hb).swap
theorem Ap.store5 (h : Ap base m W0 b5 b6 s5 s6 v5 v6 L5 L6 X) (v : Value) : Ap base m W0 b5 b6 v s6 v5 v6 L5 L6 (X.setCell ⟨b5, 0, none⟩ v) := by
 have hb0 := h.b0
 have hr5 : ∀ k, v5.ownBlock = some k → k ≠ b5 := fun k e => by have := (h.o5.blkIs e).1; omega
 have hr6 : ∀ k, v6.ownBlock = some k → k ≠ b5 := fun k e => by have := (h.o6.blkIs e).1; omega
 have oth : ∀ k, k ≠ b5 → (X.setCell ⟨b5, 0, none⟩ v).heap[k]? = X.heap[k]? := fun k hk => Below.heap_setCell _ _ _ _ hk
 exact ⟨heap_setCell_same _ _ 0 _ _ _ h.k5, (oth b6 (Ne.symm hb0.2.2.2.2)).trans h.k6, h.o5.blk (fun k e => oth k (hr5 k e)), h.o6.blk (fun k e => oth k (hr6 k e)), h.ne, h.kf.trans (KeepsOthers.setCell _ _ _),
  h.bl.setCell (p := ⟨b5, 0, none⟩) hb0.1 _, hb0, by rw [World.size_setCell]; exact h.lt, by rw [World.size_setCell]; exact h.ms, fun k h1 h2 h3 => (oth k h2).trans (h.md k h1 h2 h3)⟩
theorem Ap.store6 (h : Ap base m W0 b5 b6 s5 s6 v5 v6 L5 L6 X) (v : Value) : Ap base m W0 b5 b6 s5 v v5 v6 L5 L6 (X.setCell ⟨b6, 0, none⟩ v) := (h.swap.store5 v).swap
theorem Ap.frozen5 (h : Ap base m W0 b5 b6 s5 s6 v5 v6 L5 L6 X) : X.frozen? ⟨b5, 0, none⟩ = false := blk_frozen h.k5
theorem Ap.frozen6 (h : Ap base m W0 b5 b6 s5 s6 v5 v6 L5 L6 X) : X.frozen? ⟨b6, 0, none⟩ = false := blk_frozen h.k6
end
/-- The words of both boxes. -/
def twoS (b5 b6 : Nat) (s5 s6 : Value) (k : Nat) (X : World) : Prop := match k with | 0 => X.cell? ⟨b5, 0, none⟩ = some s5 | _ => X.cell? ⟨b6, 0, none⟩ = some s6
/-- A region that draws its order, call-free, with the words of both boxes. -/
theorem wpIn_region_two {F : Fence} {n : Nat} {id : Nat} {a : Act} {w : World} {l : List Oper} {Q : Exit → Act → World → Prop} {base m : Nat} {W0 : World} {b5 b6 : Nat} {s5 s6 v5 v6 : Value} {L5 L6 : List Int}
  (hA : Ap base m W0 b5 b6 s5 s6 v5 v6 L5 L6 w) (kp : Nat → Nat → Bool) (hF : ∀ f, F.fn f) (hpl : l.all plainOp = true)
  (h : ∀ X, Ap base m W0 b5 b6 s5 s6 v5 v6 L5 L6 X → X.cell? ⟨b5, 0, none⟩ = some s5 → X.cell? ⟨b6, 0, none⟩ = some s6 → wpAnyK Tryz.prog .any l.toArray (EndsOnly Q) (twoS b5 b6 s5 s6) kp l.toArray.size (Array.replicate l.toArray.size false) a X) : (Code.region id l.toArray true).wpIn F n Tryz.prog Q a w :=
 wpIn_region_K hF (by kernel_rfl) hpl _ kp (h _ hA.drew (cell_row hA.drew.k5) (cell_row hA.drew.k6))
theorem two_alloc {b5 b6 : Nat} {s5 s6 : Value} {X : World} {o : Obj} (k : Nat) (h : twoS b5 b6 s5 s6 k X) : twoS b5 b6 s5 s6 k (X.alloc o) := by
 cases k with
 | zero => exact cell_alloc h o
 | succ k => exact cell_alloc h o
section
variable {base m : Nat} {W0 : World} {b5 b6 : Nat} {s5 s6 v5 v6 : Value} {L5 L6 : List Int} {X X' : World}
theorem Ap.two5 (hA : Ap base m W0 b5 b6 s5 s6 v5 v6 L5 L6 X) (hg : X.grownBy X' v5.ownBlock) (k : Nat) (h : twoS b5 b6 s5 s6 k X) : twoS b5 b6 s5 s6 k X' := by
 have hb0 := hA.b0
 have hr : ∀ k, v5.ownBlock = some k → base ≤ k := fun k e => (hA.o5.blkIs e).1
 cases k with
 | zero => exact grown_cell hg h (fun e => by have := hr _ e.symm; omega)
 | succ k => exact grown_cell hg h (fun e => by have := hr _ e.symm; omega)
theorem Ap.two6 (hA : Ap base m W0 b5 b6 s5 s6 v5 v6 L5 L6 X) (hg : X.grownBy X' v6.ownBlock) (k : Nat) (h : twoS b5 b6 s5 s6 k X) : twoS b5 b6 s5 s6 k X' := by
 have hb0 := hA.b0
 have hr : ∀ k, v6.ownBlock = some k → base ≤ k := fun k e => (hA.o6.blkIs e).1
 cases k with
 | zero => exact grown_cell hg h (fun e => by have := hr _ e.symm; omega)
 | succ k => exact grown_cell hg h (fun e => by have := hr _ e.symm; omega)
theorem Ap.two8 (hA : Ap base m W0 b5 b6 s5 s6 v5 v6 L5 L6 X) (v : Value) (k : Nat) (hk : (k != 0) = true) (h : twoS b5 b6 s5 s6 k X) : twoS b5 b6 s5 s6 k (X.setCell ⟨b5, 0, none⟩ v) := by
 cases k with
 | zero => simp at hk
 | succ k => exact cell_row (hA.store5 v).k6
theorem Ap.same5 (hA : Ap base m W0 b5 b6 s5 s6 v5 v6 L5 L6 X) (k : Nat) (_ : twoS b5 b6 s5 s6 k X) : twoS b5 b6 s5 s6 k (X.setCell ⟨b5, 0, none⟩ s5) := by
 cases k with
 | zero => exact cell_row (hA.store5 s5).k5
 | succ k => exact cell_row (hA.store5 s5).k6
theorem Ap.same6 (hA : Ap base m W0 b5 b6 s5 s6 v5 v6 L5 L6 X) (k : Nat) (_ : twoS b5 b6 s5 s6 k X) : twoS b5 b6 s5 s6 k (X.setCell ⟨b6, 0, none⟩ s6) := by
 cases k with
 | zero => exact cell_row (hA.store6 s6).k5
 | succ k => exact cell_row (hA.store6 s6).k6
/-- A new cell that both lists leave alone. -/
structure Nw (v5 v6 : Value) (g : Nat) (y : Int) (X : World) : Prop where
 c : X.cell? ⟨g, 0, none⟩ = some (.int .i64 y)
 n5 : v5.ownBlock ≠ some g
 n6 : v6.ownBlock ≠ some g
theorem Nw.new (hA : Ap base m W0 b5 b6 s5 s6 v5 v6 L5 L6 X) (y : Int) : Nw v5 v6 X.heap.size y (X.alloc (.cells #[.int .i64 y] 3)) :=
 ⟨cell_row (blk_new X #[.int .i64 y] 3 rfl), fun e => by have := (hA.o5.blkIs e).2.1; omega, fun e => by have := (hA.o6.blkIs e).2.1; omega⟩
theorem Nw.alloc {g : Nat} {y : Int} (h : Nw v5 v6 g y X) (o : Obj) : Nw v5 v6 g y (X.alloc o) := ⟨cell_alloc h.c o, h.n5, h.n6⟩
theorem Nw.app5 {v5' : Value} {g : Nat} {y : Int} (h : Nw v5 v6 g y X) (hg : X.grownBy X' v5.ownBlock) (hb : v5'.ownBlock = v5.ownBlock ∨ v5'.ownBlock = some X.heap.size) : Nw v5' v6 g y X' := by
 have hl := lt_of_cell' h.c
 exact ⟨grown_cell hg h.c (fun e => h.n5 e.symm), fun e => by
  rcases hb with hb | hb
  ·exact h.n5 (hb ▸ e)
  ·rw [hb] at e; cases e; omega, h.n6⟩
end
end Go.Proofs.YtegmniphgahblaaGreat
namespace Go.Proofs.YtegmniphgahblaaGreat
open Go.RowKit Go.Shelf
attribute [local go_sem] Oper.semAt_some

/-- What the loop of signs keeps: the two lists in their boxes. -/
structure SgI (w w4 : World) (ws : List Car) (x : Nat) (pre : List (Fin (outs ws).length)) (W : World) : Prop where
 a : ∃ A5 c5 A6 c6, Blk W (w.heap.size + 1 + 1) #[.slice A5 pre.length c5] 28 ∧ Blk W (w.heap.size + 1 + 1 + 1) #[.slice A6 pre.length c6] 28 ∧ Own W w4.heap.size (.slice A5 pre.length c5) (hatL ws x pre) ∧ Own W w4.heap.size (.slice A6 pre.length c6) (reaL ws x pre) ∧
  ∀ k, (Value.slice A5 pre.length c5).ownBlock = some k → (Value.slice A6 pre.length c6).ownBlock ≠ some k
 mid : ∀ k, w.heap.size + 4 ≤ k → k < w4.heap.size → W.heap[k]? = w4.heap[k]?
 bl : Below w.heap.size w W
 lt : w4.heap.size ≤ W.heap.size
 l4 : w.heap.size + 4 ≤ w4.heap.size
theorem hatL_length (ws : List Car) (x : Nat) (l : List (Fin (outs ws).length)) : (hatL ws x l).length = l.length := by simp [hatL]
theorem reaL_length (ws : List Car) (x : Nat) (l : List (Fin (outs ws).length)) : (reaL ws x l).length = l.length := by simp [reaL]
theorem SgI.kept {w w4 : World} {ws : List Car} {x : Nat} {pre : List (Fin (outs ws).length)} {W W' : World} {row : Option Nat} (h : SgI w w4 ws x pre W) (hg : W.grownBy W' row) (hr : ∀ r, row = some r → w4.heap.size ≤ r ∧ ∃ o : Obj, W.heap[r]? = some o ∧ o.isCells = false) : SgI w w4 ws x pre W' := by
 obtain ⟨A5, c5, A6, c6, h1, h2, h3, h4, h5⟩ := h.a
 have hr2 := fun r e => (hr r e).2
 have l4 := h.l4
 exact ⟨⟨A5, c5, A6, c6, h1.kept hg hr2, h2.kept hg hr2, h3.kept hg hr2, h4.kept hg hr2, h5⟩, fun k hk hk2 => (hg.block k (by have := h.lt; omega) (fun e => by have := (hr k e.symm).1; omega)).trans (h.mid k hk hk2),
  h.bl.grown hg h.bl.size (fun k e => by have := (hr k e).1; omega), Nat.le_trans h.lt hg.size, h.l4⟩

theorem SgI.of_ap {w w4 : World} {ws : List Car} {x : Nat} {pre : List (Fin (outs ws).length)} {y : Fin (outs ws).length} {W X : World} {hv rv : Int} {A5 A6 : Option Addr} {c5 c6 : Nat} (hi : SgI w w4 ws x pre W) (h1 : hatV ws x y.1 = hv) (h2 : reaV ws x y.1 = rv)
  (hA : Ap w4.heap.size w.heap.size W (w.heap.size + 1 + 1) (w.heap.size + 1 + 1 + 1) (.slice A5 (pre.length + 1) c5) (.slice A6 (pre.length + 1) c6) (.slice A5 (pre.length + 1) c5) (.slice A6 (pre.length + 1) c6) (hatL ws x pre ++ [hv]) (reaL ws x pre ++ [rv]) X) : SgI w w4 ws x (pre ++ [y]) X := by
 have e1 : hatL ws x (pre ++ [y]) = hatL ws x pre ++ [hv] := by unfold hatL; rw [List.map_append, ← h1]; rfl
 have e2 : reaL ws x (pre ++ [y]) = reaL ws x pre ++ [rv] := by unfold reaL; rw [List.map_append, ← h2]; rfl
 have e3 : (pre ++ [y]).length = pre.length + 1 := by simp
 refine ⟨⟨A5, c5, A6, c6, ?_, ?_, ?_, ?_, ?_⟩, fun k hk hk2 => ?_, hi.bl.trans hA.bl, hA.lt, hi.l4⟩
 ·rw [e3]; exact hA.k5
 ·rw [e3]; exact hA.k6
 ·rw [e3, e1]; exact hA.o5
 ·rw [e3, e2]; exact hA.o6
 ·rw [e3]; exact hA.ne
 ·exact (hA.md k hk2 (by omega) (by omega)).trans (hi.mid k hk hk2)

set_option maxRecDepth 100000 in
set_option maxHeartbeats 2000000 in
theorem signs_in (A : Option Addr) (c : Nat) (ws : List Car) (x : Nat) (hx : x < (outs ws).length) (w : World) (hW : Wk w A ws) (g : Good ws) :
  CallsIn Fence.wide 3 Tryz.prog 83 #[.agg #[.slice A ws.length c], plV (pl ws x)] w fun e w' => ∃ A1 c1 A2 c2 A3 c3, e = .returned (.tuple #[.slice A1 (rivS ws x).length c1, .slice A2 (hatS ws x).length c2, .slice A3 (reaS ws x).length c3]) ∧
   Rd w' w'.heap.size A1 (rivS ws x) ∧ Rd w' w'.heap.size A2 (hatS ws x) ∧ Rd w' w'.heap.size A3 (reaS ws x) ∧ Fresh w.heap.size A1 ∧ Fresh w.heap.size A2 ∧ Fresh w.heap.size A3 ∧ Below w.heap.size w w' := by
 have h := hW.rd
 have hm : ws.length ≤ maxLen := by have := hW.n1; unfold maxLen; omega
 have hN : (outs ws).length ≤ 1000000000 := by have := hW.n2; omega
 obtain ⟨i0, hi0, hz0, hz1, hz2⟩ := info_parts info3
 have hmm := @run_makeMap Tryz.prog
 rw [pl_fst]
 refine callsIn_of_wp_marks Tryz.func83 rfl trivial ?_ rfl
 simp only [Tryz.ntmps83, List.size_toArray, List.length_cons, List.length_nil, Nat.reduceAdd, Nat.reduceSub, Array.replicate_succ, Array.replicate_zero, List.push_toArray, List.append_toArray, List.nil_append, List.cons_append]
 gi_wp2
 refine ⟨trivial, ?_⟩
 have hb1 : Below w.heap.size w ((((w.alloc (.cells #[.slice A ws.length c] 24)).alloc (.cells #[.int .i64 (x : Int), .int .i64 (caAt ws x : Int), .int .i64 (atAt ws x : Int)] 103)).alloc (.cells #[.slice none 0 0] 28)).alloc (.cells #[.slice none 0 0] 28)) :=
  ((((Below.refl _ w).alloc (Nat.le_refl _) _).alloc (by simp) _).alloc (by simp; omega) _).alloc (by simp; omega) _
 have q0 : Blk ((((w.alloc (.cells #[.slice A ws.length c] 24)).alloc (.cells #[.int .i64 (x : Int), .int .i64 (caAt ws x : Int), .int .i64 (atAt ws x : Int)] 103)).alloc (.cells #[.slice none 0 0] 28)).alloc (.cells #[.slice none 0 0] 28)) w.heap.size #[.slice A ws.length c] 24 := blk_alloc (blk_alloc (blk_alloc (blk_new _ _ _ rfl) _) _) _
 have q2 : Blk ((((w.alloc (.cells #[.slice A ws.length c] 24)).alloc (.cells #[.int .i64 (x : Int), .int .i64 (caAt ws x : Int), .int .i64 (atAt ws x : Int)] 103)).alloc (.cells #[.slice none 0 0] 28)).alloc (.cells #[.slice none 0 0] 28)) (w.heap.size + 1 + 1) #[.slice none 0 0] 28 := blk_alloc (blk_new _ _ _ (by simp)) _
 have q3 : Blk ((((w.alloc (.cells #[.slice A ws.length c] 24)).alloc (.cells #[.int .i64 (x : Int), .int .i64 (caAt ws x : Int), .int .i64 (atAt ws x : Int)] 103)).alloc (.cells #[.slice none 0 0] 28)).alloc (.cells #[.slice none 0 0] 28)) (w.heap.size + 1 + 1 + 1) #[.slice none 0 0] 28 := blk_new _ _ _ (by simp)
 have hsz : ((((w.alloc (.cells #[.slice A ws.length c] 24)).alloc (.cells #[.int .i64 (x : Int), .int .i64 (caAt ws x : Int), .int .i64 (atAt ws x : Int)] 103)).alloc (.cells #[.slice none 0 0] 28)).alloc (.cells #[.slice none 0 0] 28)).heap.size = w.heap.size + 4 := by simp
 generalize hgW : ((((w.alloc (.cells #[.slice A ws.length c] 24)).alloc (.cells #[.int .i64 (x : Int), .int .i64 (caAt ws x : Int), .int .i64 (atAt ws x : Int)] 103)).alloc (.cells #[.slice none 0 0] 28)).alloc (.cells #[.slice none 0 0] 28)) = W1 at *
 clear hgW
 refine (callsIn_wide.2 (path_any A c ws x hx W1 (hW.ext hb1) g)).mono ?_
 rintro e w1 ⟨A7, c7, rfl, hr7, hf7, hbp⟩
 have hs1 := hbp.size
 have HB := hd4 (hb1.trans (hbp.mono hb1.size)) ((hbp.block w.heap.size (by omega)).trans q0) ((hbp.block (w.heap.size + 1 + 1) (by omega)).trans q2) ((hbp.block (w.heap.size + 1 + 1 + 1) (by omega)).trans q3)
 have c0 : w1.cell? ⟨w.heap.size, 0, none⟩ = some (.slice A ws.length c) := cell_row HB.out.2.1
 have H7 := hd2 hr7 hf7
 clear hr7 hf7 hbp q0 q2 q3 hb1
 gi_wp2
 refine ⟨trivial, ?_⟩
 refine (callsIn_wide.2 (heads_any A c ws w1 (hW.ext HB.out.1) g)).mono ?_
 rintro e w2 ⟨A9, c9, rfl, hr9, hf9, hbh⟩
 rw [ints_length]
 have hs2 := hbh.size
 have HC := hd4 (HB.out.1.trans (hbh.mono HB.out.1.size)) ((hbh.block w.heap.size (by omega)).trans HB.out.2.1) ((hbh.block (w.heap.size + 1 + 1) (by omega)).trans HB.out.2.2.1) ((hbh.block (w.heap.size + 1 + 1 + 1) (by omega)).trans HB.out.2.2.2)
 have H7' := hd2 (H7.out.1.ext hbh) H7.out.2
 have H9 := hd2 hr9 hf9
 clear hr9 hf9 hbh c0 HB H7
 have hle := headsTo_le ws ws.length
 have hle2 := g.n1
 have hpp := pathN_pos g x
 have hpl := pathN_le g hx
 obtain ⟨b7, o7, rfl, lb7, hc7⟩ := H7'.out.1 (by rw [List.length_map]; exact hpp)
 have hP0 := hc7 0 (by rw [List.length_map]; exact hpp)
 rw [pAt_map hpp] at hP0
 have e70 := hP0.c1
 simp only [Nat.zero_mul, Nat.add_zero] at e70
 have HP := Lib.hid hc7
 clear hc7 hP0
 have hd0 : (pathN ws x).getD 0 0 = headOf ws x := rfl
 rw [hd0] at e70
 clear hd0
 unfold pl at e70
 gi_wp2
 gi_loopw [4, 25] (fun s i wr => ∃ k : Nat, k ≤ (headsTo ws ws.length).length ∧ i = .int .i64 k ∧ ∃ A2 c2, s = .slice A2 k c2 ∧ Aside (Below w2.heap.size w2 wr ∧ Own wr w2.heap.size (.slice A2 k c2) (rivTo ws x k)))
  (fun _ i _ => (headsTo ws ws.length).length - (intOf i).toNat)
 case atStart => exact ⟨0, Nat.zero_le _, rfl, none, 0, rfl, Below.refl _ _, Own.nil _ _⟩
 case round =>
  obtain ⟨k, hk, rfl, A2, c2, rfl, hS⟩ := hrel
  have HS := Lib.hid hS.out
  clear hS
  by_cases hlt : k < (headsTo ws ws.length).length
  ·have hltz : (k : Int) < ((headsTo ws ws.length).length : Int) := by omega
   obtain ⟨b9, o9, rfl, lb9, hc9⟩ := H9.out.1 (by rw [ints_length]; omega)
   have k9 := (HS.out.1.cell (p := ⟨b9, o9 + k, none⟩) lb9).trans (hc9 k (by rw [ints_length]; exact hlt))
   rw [nth_ints hlt] at k9
   have k7 := (HS.out.1.cell (p := ⟨b7, o7 + 1, none⟩) lb7).trans e70
   have hhl := headsTo_lt hlt
   have hz7 : (0 : Nat) < (pathN ws x).length := hpp
   have hz7' : (0 : Int) < ((pathN ws x).length : Int) := by omega
   have hsu := rivTo_succ (x := x) hlt
   have hrl := rivTo_length (x := x) hk
   obtain ⟨v, hv⟩ : ∃ v : Int, v = if (headsTo ws ws.length).getD k 0 = caAt ws (headOf ws x) then 1 else 0 := ⟨_, rfl⟩
   rw [← hv] at hsu
   have hB6 := (Below.refl _ wr).alloc (Nat.le_refl _) (.cells #[.int .i64 v] 3)
   have hnew := World.news_of_block (cs := #[.int .i64 v]) (t := 3) (fr := (0, 0)) (World.alloc_heap_new wr (.cells #[.int .i64 v] 3))
   have hown := (HS.out.2.later hB6).row hrl
   have hszz : w2.heap.size ≤ (wr.alloc (.cells #[.int .i64 v] 3)).heap.size := Nat.le_trans HS.out.1.size hB6.size
   have HA := hd6 hB6 hown hnew hszz hsu hrl
   clear hc9 hB6 hown hnew hszz hsu hrl
   generalize hhd : (headsTo ws ws.length).getD k 0 = hd at *
   have hkl : k ≤ 16 := by omega
   by_cases hq : hd = caAt ws (headOf ws x)
   ·have hqz : ((hd : Int) == (caAt ws (headOf ws x) : Int)) = true := by rw [hq]; simp
    rw [if_pos hq] at hv
    subst hv
    clear hq hhd
    gi_wp2_with (gi_at_builtin; go_loud (refine wpListIn_append_own_at _ rfl _ _ 28 rfl w2.heap.size 3 i0 (.int .i64 0) 1 8 Tryz.underlying28 hi0 hz0 hz1 hz2 rfl (by decide) (.slice A2 k c2) k _ rfl HA.out.2.1 ⟨wr.heap.size, 0, none⟩ 1 1 [.int .i64 1] rfl (by simp) HA.out.2.2.1 (by simp [Value.oneCell']) (by unfold maxLen; omega) (by omega) HA.out.2.2.2.1 ?_; intro v' w9 hown1 hgrow _ _; have hO9 := Own.of_row hown1 HA.out.2.2.2.2.2; obtain ⟨A', c', rfl⟩ := hO9.slice (n := k + 1) (by rw [List.length_append, HA.out.2.2.2.2.2]; rfl); have HP := hd2 hO9 hgrow; clear hO9 hown1 hgrow))
    go_roundw
    case rel => exact ⟨k + 1, by omega, by go_num, A', c', rfl, (HS.out.1.trans (HA.out.1.mono HS.out.1.size)).grown HP.out.2 (Nat.le_trans HS.out.1.size HA.out.1.size) (fun j e => own_block HS.out.2 e), by rw [HA.out.2.2.2.2.1]; exact HP.out.1⟩
    case measure => simp [intOf]; omega
   ·have hqz : ((hd : Int) == (caAt ws (headOf ws x) : Int)) = false := by simp; omega
    rw [if_neg hq] at hv
    subst hv
    clear hq hhd
    gi_wp2_with (gi_at_builtin; go_loud (refine wpListIn_append_own_at _ rfl _ _ 28 rfl w2.heap.size 3 i0 (.int .i64 0) 1 8 Tryz.underlying28 hi0 hz0 hz1 hz2 rfl (by decide) (.slice A2 k c2) k _ rfl HA.out.2.1 ⟨wr.heap.size, 0, none⟩ 1 1 [.int .i64 0] rfl (by simp) HA.out.2.2.1 (by simp [Value.oneCell']) (by unfold maxLen; omega) (by omega) HA.out.2.2.2.1 ?_; intro v' w9 hown1 hgrow _ _; have hO9 := Own.of_row hown1 HA.out.2.2.2.2.2; obtain ⟨A', c', rfl⟩ := hO9.slice (n := k + 1) (by rw [List.length_append, HA.out.2.2.2.2.2]; rfl); have HP := hd2 hO9 hgrow; clear hO9 hown1 hgrow))
    go_roundw
    case rel => exact ⟨k + 1, by omega, by go_num, A', c', rfl, (HS.out.1.trans (HA.out.1.mono HS.out.1.size)).grown HP.out.2 (Nat.le_trans HS.out.1.size HA.out.1.size) (fun j e => own_block HS.out.2 e), by rw [HA.out.2.2.2.2.1]; exact HP.out.1⟩
    case measure => simp [intOf]; omega
  ·have hltz : ¬ (k : Int) < ((headsTo ws ws.length).length : Int) := by omega
   obtain rfl : k = (headsTo ws ws.length).length := by omega
   generalize wr = w3 at *
   have hb3 := HS.out.1
   have hs3 := hb3.size
   have HD := hd4 (HC.out.1.trans (hb3.mono HC.out.1.size)) ((hb3.block w.heap.size (by omega)).trans HC.out.2.1) ((hb3.block (w.heap.size + 1 + 1) (by omega)).trans HC.out.2.2.1) ((hb3.block (w.heap.size + 1 + 1 + 1) (by omega)).trans HC.out.2.2.2)
   have HR := Lib.hid HS.out.2
   have HP3 := Lib.hid (fun (k : Nat) (hk : k < (pathN ws x).length) => (show PlAt w3 b7 (o7 + k * 3) (pl ws ((pathN ws x).getD k 0)) from by
    have := HP.out k (by rw [List.length_map]; exact hk)
    rw [pAt_map hk] at this
    exact ⟨(hb3.cell (p := ⟨b7, o7 + k * 3, none⟩) lb7).trans this.c0, (hb3.cell (p := ⟨b7, o7 + k * 3 + 1, none⟩) lb7).trans this.c1, (hb3.cell (p := ⟨b7, o7 + k * 3 + 2, none⟩) lb7).trans this.c2⟩))
   have lb73 : b7 < w3.heap.size := by omega
   have hM0 : MapP ((w3.alloc (.map #[] 0)).alloc (.cells #[.map (some w3.heap.size)] 136)) w3.heap.size 0 (onL ws ((pathN ws x).take 0)) := (MapI.made w3 _ _).kept (World.grownBy_alloc _ _ none) (fun e => by cases e)
   have hB0 : Below w3.heap.size w3 ((w3.alloc (.map #[] 0)).alloc (.cells #[.map (some w3.heap.size)] 136)) := ((Below.refl _ w3).alloc (Nat.le_refl _) _).alloc (by simp) _
   have hK0 : Blk ((w3.alloc (.map #[] 0)).alloc (.cells #[.map (some w3.heap.size)] 136)) (w3.heap.size + 1) #[.map (some w3.heap.size)] 136 := blk_new _ _ _ (by simp)
   have hz0' : ((w3.alloc (.map #[] 0)).alloc (.cells #[.map (some w3.heap.size)] 136)).heap.size = w3.heap.size + 2 := by simp
   have HM0 := hd4 hM0 hB0 hK0 hz0'
   clear hb3 hM0 hB0 hK0 hz0' HC HP H9 HS H7'
   gi_wp2
   gi_loopw [43] (fun i wq => ∃ k : Nat, k ≤ (pathN ws x).length ∧ i = .int .i64 k ∧ Aside (MapP wq w3.heap.size k (onL ws ((pathN ws x).take k)) ∧ Below w3.heap.size w3 wq ∧ Blk wq (w3.heap.size + 1) #[.map (some w3.heap.size)] 136 ∧ w3.heap.size + 2 ≤ wq.heap.size))
    (fun i _ => (pathN ws x).length - (intOf i).toNat)
   case atStart => exact ⟨0, Nat.zero_le _, rfl, HM0.out.1, HM0.out.2.1, HM0.out.2.2.1, by have := HM0.out.2.2.2; omega⟩
   case round =>
    obtain ⟨k, hk, rfl, hS⟩ := hrel
    have HS := Lib.hid hS.out
    clear hS
    by_cases hlt : k < (pathN ws x).length
    ·have hltz : (k : Int) < ((pathN ws x).length : Int) := by omega
     have hp3 := HP3.out k hlt
     have hb4 := HS.out.2.1
     have y0 := (hb4.cell (p := ⟨b7, o7 + k * 3, none⟩) lb73).trans hp3.c0
     have y1 := (hb4.cell (p := ⟨b7, o7 + k * 3 + 1, none⟩) lb73).trans hp3.c1
     have y2 := (hb4.cell (p := ⟨b7, o7 + k * 3 + 2, none⟩) lb73).trans hp3.c2
     have hyN := pathN_at g hx hlt
     have hos := onL_succ (ws := ws) hlt
     generalize (pathN ws x).getD k 0 = y at *
     unfold pl at y0 y1 y2
     dsimp only at y0 y1 y2
     have hcy := (g.fine hyN).ca
     have hwf := nat_wf (n := caAt ws y) (by omega)
     have hB5 := (Below.refl _ wr).alloc (Nat.le_refl _) (.cells #[.int .i64 (y : Int), .int .i64 (caAt ws y : Int), .int .i64 (atAt ws y : Int)] 103)
     have hM5 : MapP (wr.alloc (.cells #[.int .i64 (y : Int), .int .i64 (caAt ws y : Int), .int .i64 (atAt ws y : Int)] 103)) w3.heap.size k (onL ws ((pathN ws x).take k)) := HS.out.1.kept (World.grownBy_alloc _ _ none) (fun e => by cases e)
     have c11 : (wr.alloc (.cells #[.int .i64 (y : Int), .int .i64 (caAt ws y : Int), .int .i64 (atAt ws y : Int)] 103)).cell? ⟨w3.heap.size + 1, 0, none⟩ = some (.map (some w3.heap.size)) := cell_row ((hB5.block (w3.heap.size + 1) (by have := HS.out.2.2.2; omega)).trans HS.out.2.2.1)
     have HB5 := hd3 hB5 hM5 hos
     clear hp3 hb4 hB5 hM5 hos hyN
     gi_wp2_with (gi_at_mapUpdate; refine wpListIn_put rfl _ _ _ 136 rfl 103 (by kernel_rfl) rfl HB5.out.2.1 (by unfold maxLen; omega) (plV (pl ws y)) (caAt ws y : Int) (pl ws y) rfl hwf rfl [] (plR_v _) ?_; intro w5 hM1 hg1; have HN := hd2 hM1 hg1; clear hM1 hg1)
     go_roundw
     case rel => exact ⟨k + 1, by omega, by go_num, by rw [HB5.out.2.2]; exact HN.out.1, (HS.out.2.1.trans (HB5.out.1.mono HS.out.2.1.size)).grown HN.out.2 (Nat.le_trans HS.out.2.1.size HB5.out.1.size) (fun j e => by cases e; omega), (HN.out.2.block (w3.heap.size + 1) (by have := HS.out.2.2.2; have := HB5.out.1.size; omega) (fun e => by simp only [Option.some.injEq] at e; omega)).trans ((HB5.out.1.block (w3.heap.size + 1) (by have := HS.out.2.2.2; omega)).trans HS.out.2.2.1), by have := HS.out.2.2.2; have := HB5.out.1.size; have := HN.out.2.size; omega⟩
     case measure => simp [intOf]; omega
    ·have hltz : ¬ (k : Int) < ((pathN ws x).length : Int) := by omega
     obtain rfl : k = (pathN ws x).length := by omega
     have HI0 : Hid (SgI w (wr.alloc (.cells #[.slice A ws.length c] 24)) ws x [] (wr.alloc (.cells #[.slice A ws.length c] 24)) ∧ MapP (wr.alloc (.cells #[.slice A ws.length c] 24)) w3.heap.size (pathN ws x).length (onL ws (pathN ws x)) ∧ Blk (wr.alloc (.cells #[.slice A ws.length c] 24)) (w3.heap.size + 1) #[.map (some w3.heap.size)] 136 ∧ Own (wr.alloc (.cells #[.slice A ws.length c] 24)) w2.heap.size (.slice A2 (headsTo ws ws.length).length c2) (rivTo ws x (headsTo ws ws.length).length) ∧ w3.heap.size + 2 ≤ wr.heap.size ∧ (wr.alloc (.cells #[.slice A ws.length c] 24)).heap.size = wr.heap.size + 1) := by
      have hB := (Below.refl _ wr).alloc (Nat.le_refl _) (.cells #[.slice A ws.length c] 24)
      have h34 := HS.out.2.1.trans (hB.mono HS.out.2.1.size)
      have hsz4 := h34.size
      have hwr := HS.out.2.1.size
      refine Lib.hid ⟨⟨⟨none, 0, none, 0, (h34.block _ (by omega)).trans HD.out.2.2.1, (h34.block _ (by omega)).trans HD.out.2.2.2, Own.nil _ _, Own.nil _ _, fun k e => by simp [Value.ownBlock] at e⟩, fun _ _ _ => rfl, HD.out.1.trans (h34.mono HD.out.1.size), Nat.le_refl _, by omega⟩, ?_, ?_, HR.out.later h34, HS.out.2.2.2, by simp⟩
      ·have := HS.out.1.kept (World.grownBy_alloc wr (.cells #[.slice A ws.length c] 24) none) (fun e => by cases e)
       rw [List.take_length] at this
       exact this
      ·exact (hB.block (w3.heap.size + 1) (by have := HS.out.2.2.2; omega)).trans HS.out.2.2.1
     have c0 : wr.cell? ⟨w.heap.size, 0, none⟩ = some (.slice A ws.length c) := cell_row ((HS.out.2.1.block w.heap.size (by omega)).trans HD.out.2.1)
     gi_wp2
     refine ⟨trivial, ?_⟩
     refine (callsIn_wide.2 (outlets_any A c ws.length _)).mono ?_
     rintro e w' ⟨rfl, rfl⟩
     gi_wp2
     have c8 : (wr.alloc (.cells #[.slice A ws.length c] 24)).cell? ⟨wr.heap.size, 0, none⟩ = some (.slice A ws.length c) := by simp [go_sem]
     generalize hgW : wr.alloc (.cells #[.slice A ws.length c] 24) = W2 at *
     clear hgW
     have hseq := outlets_stops 2 (by omega) w.heap.size wr.heap.size A c ws W2 HI0.out.1.bl.size c8 (by have := HI0.out.2.2.2.2.2; omega) (h.below HI0.out.1.bl (Nat.le_refl _)) hm hN
     have hO : OwnFrom W2.heap.size (fun pre W => SgI w W2 ws x pre W) := fun pre W W' row hi hgr hrow => hi.kept hgr (fun r e => ⟨(hrow r e).1, (hrow r e).2⟩)
     refine wpIn_rangeFunc_ownH rfl (by omega) (gf := 68) (lb := #[.pointer (some ⟨wr.heap.size, 0, none⟩)]) rfl trivial eg_outlets hseq belowK_t (belowK_b HI0.out.1.bl.size) (Below.refl _ W2) (fun _ => rfl)
      (fun pre W => SgI w W2 ws x pre W) (fun _ _ _ => False) hO (fun _ _ _ _ _ hs _ _ => hs) HI0.out.1
      (fun y a' W => ∃ g14, a' = { tmps := #[.agg #[.slice A ws.length c], .agg #[.int .i64 (x : Int), .int .i64 (caAt ws x : Int), .int .i64 (atAt ws x : Int)], .pointer (some ⟨w.heap.size, 0, none⟩), .pointer (some ⟨w.heap.size + 1, 0, none⟩), .slice A2 (headsTo ws ws.length).length c2, .pointer (some ⟨w.heap.size + 1 + 1, 0, none⟩), .pointer (some ⟨w.heap.size + 1 + 1 + 1, 0, none⟩), .slice (some ⟨b7, o7, none⟩) (pathN ws x).length c7, undef, u9, u10, .pointer (some ⟨w3.heap.size + 1, 0, none⟩), undef, u13, .pointer (some ⟨g14, 0, none⟩), undef, undef, undef, undef, .agg #[.slice A ws.length c], .agg #[.int .i64 (x : Int), .int .i64 (caAt ws x : Int), .int .i64 (atAt ws x : Int)], .slice (some ⟨b7, o7, none⟩) (pathN ws x).length c7, .agg #[.slice A ws.length c], .slice A9 (headsTo ws ws.length).length c9, .int .i64 (headsTo ws ws.length).length, .int .i64 (headsTo ws ws.length).length, .bool false, u27, u28, u29, u30, u31, u32, u33, u34, u35, u36, u37, u38, u39, .map (some w3.heap.size), .slice (some ⟨b7, o7, none⟩) (pathN ws x).length c7, .int .i64 (pathN ws x).length, .int .i64 (pathN ws x).length, .bool false, u45, u46, u47, u48, u49, u50, u51, .agg #[.slice A ws.length c], .func (.func 68) #[] #[.pointer (some ⟨wr.heap.size, 0, none⟩)], .agg #[.int .i64 (y.1 : Int), .int .i64 (caAt ws y.1 : Int), .int .i64 (atAt ws y.1 : Int)], (oAt (outs ws) y.1).v, undef, undef, undef, undef, undef, undef, undef, undef, undef, undef, undef, undef, undef, undef, undef, undef, undef, undef, undef, undef, undef, undef, undef, undef, undef, undef, undef, undef, undef, undef, undef, undef], defers := [] } ∧ Blk W g14 #[.int .i64 (y.1 : Int), .int .i64 (caAt ws y.1 : Int), .int .i64 (atAt ws y.1 : Int)] 103)
      ?ownA ?assign ?body ?done (fun _ _ _ _ _ _ h _ => h.elim)
     case ownA =>
      rintro y a' _ W W' row ⟨g14, e, hx⟩ hgr hrow
      exact ⟨g14, e, hx.kept hgr (fun r e => (hrow r e).2)⟩
     case assign =>
      intro l pre y W K hi hK
      have hbl := hi.bl.size
      dsimp only [encI, Ot.v]
      gi_wp2
      exact hK _ _ (one_keeps _ _ _) (one_below hbl _) (hO.alloc _ hi) ⟨_, rfl, blk_new W _ _ rfl⟩
     case body =>
      rintro l pre y a' W hl hrec hi ⟨g14, rfl, hx14⟩ hpre
      obtain ⟨A5, c5, A6, c6, k5, k6, o5, o6, hne⟩ := hi.a
      obtain ⟨hI1, hI2, hI3, hI4, hI5, hI6⟩ := HI0.out
      have hl4 := hI1.l4
      have hw3 := HD.out.1.size
      have p0 : W.cell? ⟨g14, 0, none⟩ = some (.int .i64 (y.1 : Int)) := cell_row hx14
      have p1 : W.cell? ⟨g14, 1, none⟩ = some (.int .i64 (caAt ws y.1 : Int)) := cell_row hx14
      have p2 : W.cell? ⟨g14, 2, none⟩ = some (.int .i64 (atAt ws y.1 : Int)) := cell_row hx14
      have hM : MapP W w3.heap.size (pathN ws x).length (onL ws (pathN ws x)) := hI2.block (hi.mid _ (by omega) (by omega))
      have c11 : W.cell? ⟨w3.heap.size + 1, 0, none⟩ = some (.map (some w3.heap.size)) := cell_row ((hi.mid (w3.heap.size + 1) (by omega) (by omega)).trans hI3)
      have hcy := (g.fine y.2).ca
      have lk := MapP.look hM (nat_wf (n := caAt ws y.1) (by omega))
      have hg14 : g14 < W.heap.size := (Array.getElem?_eq_some_iff.1 hx14).1
      have HY := hd6 hi k5 k6 o5 o6 hne
      have HX := Lib.hid hx14
      have hpl : pre.length ≤ 1000000 := by have := hW.n2; omega
      have HAp : Hid (Ap W2.heap.size w.heap.size W (w.heap.size + 1 + 1) (w.heap.size + 1 + 1 + 1) (.slice A5 pre.length c5) (.slice A6 pre.length c6) (.slice A5 pre.length c5) (.slice A6 pre.length c6) (hatL ws x pre) (reaL ws x pre) W) :=
       Lib.hid ⟨k5, k6, o5, o6, hne, KeepsOthers.refl _, Below.refl _ _, ⟨by omega, by omega, by omega, by omega, by omega⟩, hi.lt, by have := hi.lt; omega, fun _ _ _ _ => rfl⟩
      have hvals : hatV ws x y.1 = (match onL ws (pathN ws x) (caAt ws y.1 : Int) with | none => 0 | some p => if pl ws y.1 = p then 1 else if (atAt ws y.1 : Int) ≤ p.2.2 then -1 else 0) ∧ reaV ws x y.1 = (match onL ws (pathN ws x) (caAt ws y.1 : Int) with | none => 0 | some p => if (atAt ws y.1 : Int) ≤ p.2.2 then -1 else 0) := ⟨rfl, rfl⟩
      clear hi k5 k6 o5 o6 hne hI1 hI2 hI3 hI4 hM hx14 hseq hO
      cases hl : onL ws (pathN ws x) (caAt ws y.1 : Int) with
      | none =>
       rw [hl] at lk hvals
       simp only [Option.getD_none, Option.isSome_none, plV_eq] at lk
       dsimp only at hvals
       have HV := Lib.hid hvals
       clear hl hvals
       gi_wp2
       refine wpIn_region_two (HAp.out.alloc _) (fun j k => match j with | 8 => k != 0 | 9 => false | _ => true) (fun _ => trivial) (by kernel_rfl) ?_
       intro X0 hX0 e5 e6
       refine kT 0 0 rfl ?_
       refine kT 0 1 rfl ?_
       refine kT 1 4 rfl ?_
       refine kT 1 5 rfl ?_
       clear e5 e6
       refine wpAnyK_ready (rs := [2, 6]) (by kernel_rfl) (by simp) (AllK.consL rfl (by rfl) (fun K hK => ?_) (AllK.consL rfl (by rfl) (fun K hK => ?_) AllK.nil))
       ·go_simp
        refine hK.out _ _ (fun k _ h => two_alloc k h) ?_
        have hX1 := hX0.alloc (.cells #[.int .i64 0] 3)
        have m5 := Nw.new hX0 0
        clear hK
        refine wpAnyK_ready (rs := [3, 6]) (by kernel_rfl) (by simp) (AllK.consL rfl (by rfl) (fun K hK => ?_) (AllK.consL rfl (by rfl) (fun K hK => ?_) AllK.nil))
        ·refine wp_append_int (.tmp 77) (.tmp 79) rfl W2.heap.size (.slice A5 pre.length c5) (hatL ws x pre) 0 rfl hX1.o5 (by rw [hatL_length]; omega) _ rfl m5.c hX1.lt ?_
         intro v5 X9 ho hg hb
         refine hK.out _ _ (fun k _ h => hX1.two5 hg k h) ?_
         obtain ⟨A5', c5', rfl⟩ := ho.slice (n := pre.length + 1) (by rw [List.length_append, hatL_length]; rfl)
         have hX5 := hX1.app5 ho hg hb
         go_frame
         clear ho hg hb hK
         refine kR 6 rfl fun K hK => ?_
         go_simp
         refine hK.out _ _ (fun k _ h => two_alloc k h) ?_
         have hX6 := hX5.alloc (.cells #[.int .i64 0] 3)
         have m6 := Nw.new hX5 0
         clear hK
         refine kR 7 rfl fun K hK => ?_
         refine wp_append_int (.tmp 81) (.tmp 83) rfl W2.heap.size (.slice A6 pre.length c6) (reaL ws x pre) 0 rfl hX6.o6 (by rw [reaL_length]; omega) _ rfl m6.c hX6.lt ?_
         intro v6 X4 ho hg hb
         refine hK.out _ _ (fun k _ h => hX6.two6 hg k h) ?_
         obtain ⟨A6', c6', rfl⟩ := ho.slice (n := pre.length + 1) (by rw [List.length_append, reaL_length]; rfl)
         have hX7 := hX6.app6 ho hg hb
         clear ho hg hb
         go_frame
         refine kR 8 rfl fun K hK => ?_
         have f5 := hX7.frozen5
         have e5 := cr 0 hX7.k5
         go_simp
         refine hK.out _ _ (fun k hk h => hX7.two8 _ k hk h) ?_
         have hX8 := hX7.store5 (.slice A5' (pre.length + 1) c5')
         refine kR 9 rfl fun K hK => ?_
         have f6 := hX8.frozen6
         have e6 := cr 0 hX8.k6
         go_simp
         refine hK.out _ _ (fun k hk h => by cases hk) ?_
         have hX9 := hX8.store6 (.slice A6' (pre.length + 1) c6')
         refine kD ?_
         exact (show KeepsFrom W2.heap.size W _ ∧ Below w.heap.size W _ ∧ SgI w W2 ws x (pre ++ [y]) _ from ⟨hX9.kf.from _, hX9.bl, SgI.of_ap HY.out.1 HV.out.1 HV.out.2 hX9⟩)
        ·go_simp
         refine hK.out _ _ (fun k _ h => two_alloc k h) ?_
         have hX2 := hX1.alloc (.cells #[.int .i64 0] 3)
         have m6 := Nw.new hX1 0
         rw [World.size_alloc] at m6
         have m5' := m5.alloc (.cells #[.int .i64 0] 3)
         clear hK
         refine kR 3 rfl fun K hK => ?_
         refine wp_append_int (.tmp 77) (.tmp 79) rfl W2.heap.size (.slice A5 pre.length c5) (hatL ws x pre) 0 rfl hX2.o5 (by rw [hatL_length]; omega) _ rfl m5'.c hX2.lt ?_
         intro v5 X9 ho hg hb
         refine hK.out _ _ (fun k _ h => hX2.two5 hg k h) ?_
         obtain ⟨A5', c5', rfl⟩ := ho.slice (n := pre.length + 1) (by rw [List.length_append, hatL_length]; rfl)
         have hX5 := hX2.app5 ho hg hb
         go_frame
         have m6' := m6.app5 hg hb
         clear ho hg hb hK
         refine kR 7 rfl fun K hK => ?_
         refine wp_append_int (.tmp 81) (.tmp 83) rfl W2.heap.size (.slice A6 pre.length c6) (reaL ws x pre) 0 rfl hX5.o6 (by rw [reaL_length]; omega) _ rfl m6'.c hX5.lt ?_
         intro v6 X4 ho hg hb
         refine hK.out _ _ (fun k _ h => hX5.two6 hg k h) ?_
         obtain ⟨A6', c6', rfl⟩ := ho.slice (n := pre.length + 1) (by rw [List.length_append, reaL_length]; rfl)
         have hX7 := hX5.app6 ho hg hb
         clear ho hg hb
         go_frame
         refine kR 8 rfl fun K hK => ?_
         have f5 := hX7.frozen5
         have e5 := cr 0 hX7.k5
         go_simp
         refine hK.out _ _ (fun k hk h => hX7.two8 _ k hk h) ?_
         have hX8 := hX7.store5 (.slice A5' (pre.length + 1) c5')
         refine kR 9 rfl fun K hK => ?_
         have f6 := hX8.frozen6
         have e6 := cr 0 hX8.k6
         go_simp
         refine hK.out _ _ (fun k hk h => by cases hk) ?_
         have hX9 := hX8.store6 (.slice A6' (pre.length + 1) c6')
         refine kD ?_
         exact (show KeepsFrom W2.heap.size W _ ∧ Below w.heap.size W _ ∧ SgI w W2 ws x (pre ++ [y]) _ from ⟨hX9.kf.from _, hX9.bl, SgI.of_ap HY.out.1 HV.out.1 HV.out.2 hX9⟩)
       ·go_simp
        refine hK.out _ _ (fun k _ h => two_alloc k h) ?_
        have hX1 := hX0.alloc (.cells #[.int .i64 0] 3)
        have m6 := Nw.new hX0 0
        clear hK
        refine kR 2 rfl fun K hK => ?_
        go_simp
        refine hK.out _ _ (fun k _ h => two_alloc k h) ?_
        have hX2 := hX1.alloc (.cells #[.int .i64 0] 3)
        have m5 := Nw.new hX1 0
        rw [World.size_alloc] at m5
        have m6' := m6.alloc (.cells #[.int .i64 0] 3)
        clear hK
        refine kR 3 rfl fun K hK => ?_
        refine wp_append_int (.tmp 77) (.tmp 79) rfl W2.heap.size (.slice A5 pre.length c5) (hatL ws x pre) 0 rfl hX2.o5 (by rw [hatL_length]; omega) _ rfl m5.c hX2.lt ?_
        intro v5 X9 ho hg hb
        refine hK.out _ _ (fun k _ h => hX2.two5 hg k h) ?_
        obtain ⟨A5', c5', rfl⟩ := ho.slice (n := pre.length + 1) (by rw [List.length_append, hatL_length]; rfl)
        have hX5 := hX2.app5 ho hg hb
        go_frame
        have m6'' := m6'.app5 hg hb
        clear ho hg hb hK
        refine kR 7 rfl fun K hK => ?_
        refine wp_append_int (.tmp 81) (.tmp 83) rfl W2.heap.size (.slice A6 pre.length c6) (reaL ws x pre) 0 rfl hX5.o6 (by rw [reaL_length]; omega) _ rfl m6''.c hX5.lt ?_
        intro v6 X4 ho hg hb
        refine hK.out _ _ (fun k _ h => hX5.two6 hg k h) ?_
        obtain ⟨A6', c6', rfl⟩ := ho.slice (n := pre.length + 1) (by rw [List.length_append, reaL_length]; rfl)
        have hX7 := hX5.app6 ho hg hb
        clear ho hg hb
        go_frame
        refine kR 8 rfl fun K hK => ?_
        have f5 := hX7.frozen5
        have e5 := cr 0 hX7.k5
        go_simp
        refine hK.out _ _ (fun k hk h => hX7.two8 _ k hk h) ?_
        have hX8 := hX7.store5 (.slice A5' (pre.length + 1) c5')
        refine kR 9 rfl fun K hK => ?_
        have f6 := hX8.frozen6
        have e6 := cr 0 hX8.k6
        go_simp
        refine hK.out _ _ (fun k hk h => by cases hk) ?_
        have hX9 := hX8.store6 (.slice A6' (pre.length + 1) c6')
        refine kD ?_
        exact (show KeepsFrom W2.heap.size W _ ∧ Below w.heap.size W _ ∧ SgI w W2 ws x (pre ++ [y]) _ from ⟨hX9.kf.from _, hX9.bl, SgI.of_ap HY.out.1 HV.out.1 HV.out.2 hX9⟩)
      | some p =>
       obtain ⟨a1, a2, a3⟩ := p
       rw [hl] at lk hvals
       simp only [Option.getD_some, Option.isSome_some, plV_eq] at lk
       dsimp only at lk hvals
       clear hl
       by_cases heq : pl ws y.1 = (a1, a2, a3)
       ·have e1 : (y.1 : Int) = a1 := congrArg Prod.fst heq
        have e2 : (caAt ws y.1 : Int) = a2 := congrArg (fun p => p.2.1) heq
        have e3 : (atAt ws y.1 : Int) = a3 := congrArg (fun p => p.2.2) heq
        rw [if_pos heq] at hvals
        subst e1 e2 e3
        clear heq
        rw [if_pos (Int.le_refl _)] at hvals
        have HV := Lib.hid hvals
        clear hvals
        gi_wp2
        refine wpIn_region_two (HAp.out.alloc _) (fun j k => match j with | 8 => k != 0 | 9 => false | _ => true) (fun _ => trivial) (by kernel_rfl) ?_
        intro X0 hX0 e5 e6
        refine kT 0 0 rfl ?_
        refine kT 0 1 rfl ?_
        refine kT 1 4 rfl ?_
        refine kT 1 5 rfl ?_
        clear e5 e6
        refine wpAnyK_ready (rs := [2, 6]) (by kernel_rfl) (by simp) (AllK.consL rfl (by rfl) (fun K hK => ?_) (AllK.consL rfl (by rfl) (fun K hK => ?_) AllK.nil))
        ·go_simp
         refine hK.out _ _ (fun k _ h => two_alloc k h) ?_
         have hX1 := hX0.alloc (.cells #[.int .i64 1] 3)
         have m5 := Nw.new hX0 1
         clear hK
         refine wpAnyK_ready (rs := [3, 6]) (by kernel_rfl) (by simp) (AllK.consL rfl (by rfl) (fun K hK => ?_) (AllK.consL rfl (by rfl) (fun K hK => ?_) AllK.nil))
         ·refine wp_append_int (.tmp 77) (.tmp 79) rfl W2.heap.size (.slice A5 pre.length c5) (hatL ws x pre) 1 rfl hX1.o5 (by rw [hatL_length]; omega) _ rfl m5.c hX1.lt ?_
          intro v5 X9 ho hg hb
          refine hK.out _ _ (fun k _ h => hX1.two5 hg k h) ?_
          obtain ⟨A5', c5', rfl⟩ := ho.slice (n := pre.length + 1) (by rw [List.length_append, hatL_length]; rfl)
          have hX5 := hX1.app5 ho hg hb
          go_frame
          clear ho hg hb hK
          refine kR 6 rfl fun K hK => ?_
          go_simp
          refine hK.out _ _ (fun k _ h => two_alloc k h) ?_
          have hX6 := hX5.alloc (.cells #[.int .i64 (-1)] 3)
          have m6 := Nw.new hX5 (-1)
          clear hK
          refine kR 7 rfl fun K hK => ?_
          refine wp_append_int (.tmp 81) (.tmp 83) rfl W2.heap.size (.slice A6 pre.length c6) (reaL ws x pre) (-1) rfl hX6.o6 (by rw [reaL_length]; omega) _ rfl m6.c hX6.lt ?_
          intro v6 X4 ho hg hb
          refine hK.out _ _ (fun k _ h => hX6.two6 hg k h) ?_
          obtain ⟨A6', c6', rfl⟩ := ho.slice (n := pre.length + 1) (by rw [List.length_append, reaL_length]; rfl)
          have hX7 := hX6.app6 ho hg hb
          clear ho hg hb
          go_frame
          refine kR 8 rfl fun K hK => ?_
          have f5 := hX7.frozen5
          have e5 := cr 0 hX7.k5
          go_simp
          refine hK.out _ _ (fun k hk h => hX7.two8 _ k hk h) ?_
          have hX8 := hX7.store5 (.slice A5' (pre.length + 1) c5')
          refine kR 9 rfl fun K hK => ?_
          have f6 := hX8.frozen6
          have e6 := cr 0 hX8.k6
          go_simp
          refine hK.out _ _ (fun k hk h => by cases hk) ?_
          have hX9 := hX8.store6 (.slice A6' (pre.length + 1) c6')
          refine kD ?_
          exact (show KeepsFrom W2.heap.size W _ ∧ Below w.heap.size W _ ∧ SgI w W2 ws x (pre ++ [y]) _ from ⟨hX9.kf.from _, hX9.bl, SgI.of_ap HY.out.1 HV.out.1 HV.out.2 hX9⟩)
         ·go_simp
          refine hK.out _ _ (fun k _ h => two_alloc k h) ?_
          have hX2 := hX1.alloc (.cells #[.int .i64 (-1)] 3)
          have m6 := Nw.new hX1 (-1)
          rw [World.size_alloc] at m6
          have m5' := m5.alloc (.cells #[.int .i64 (-1)] 3)
          clear hK
          refine kR 3 rfl fun K hK => ?_
          refine wp_append_int (.tmp 77) (.tmp 79) rfl W2.heap.size (.slice A5 pre.length c5) (hatL ws x pre) 1 rfl hX2.o5 (by rw [hatL_length]; omega) _ rfl m5'.c hX2.lt ?_
          intro v5 X9 ho hg hb
          refine hK.out _ _ (fun k _ h => hX2.two5 hg k h) ?_
          obtain ⟨A5', c5', rfl⟩ := ho.slice (n := pre.length + 1) (by rw [List.length_append, hatL_length]; rfl)
          have hX5 := hX2.app5 ho hg hb
          go_frame
          have m6' := m6.app5 hg hb
          clear ho hg hb hK
          refine kR 7 rfl fun K hK => ?_
          refine wp_append_int (.tmp 81) (.tmp 83) rfl W2.heap.size (.slice A6 pre.length c6) (reaL ws x pre) (-1) rfl hX5.o6 (by rw [reaL_length]; omega) _ rfl m6'.c hX5.lt ?_
          intro v6 X4 ho hg hb
          refine hK.out _ _ (fun k _ h => hX5.two6 hg k h) ?_
          obtain ⟨A6', c6', rfl⟩ := ho.slice (n := pre.length + 1) (by rw [List.length_append, reaL_length]; rfl)
          have hX7 := hX5.app6 ho hg hb
          clear ho hg hb
          go_frame
          refine kR 8 rfl fun K hK => ?_
          have f5 := hX7.frozen5
          have e5 := cr 0 hX7.k5
          go_simp
          refine hK.out _ _ (fun k hk h => hX7.two8 _ k hk h) ?_
          have hX8 := hX7.store5 (.slice A5' (pre.length + 1) c5')
          refine kR 9 rfl fun K hK => ?_
          have f6 := hX8.frozen6
          have e6 := cr 0 hX8.k6
          go_simp
          refine hK.out _ _ (fun k hk h => by cases hk) ?_
          have hX9 := hX8.store6 (.slice A6' (pre.length + 1) c6')
          refine kD ?_
          exact (show KeepsFrom W2.heap.size W _ ∧ Below w.heap.size W _ ∧ SgI w W2 ws x (pre ++ [y]) _ from ⟨hX9.kf.from _, hX9.bl, SgI.of_ap HY.out.1 HV.out.1 HV.out.2 hX9⟩)
        ·go_simp
         refine hK.out _ _ (fun k _ h => two_alloc k h) ?_
         have hX1 := hX0.alloc (.cells #[.int .i64 (-1)] 3)
         have m6 := Nw.new hX0 (-1)
         clear hK
         refine kR 2 rfl fun K hK => ?_
         go_simp
         refine hK.out _ _ (fun k _ h => two_alloc k h) ?_
         have hX2 := hX1.alloc (.cells #[.int .i64 1] 3)
         have m5 := Nw.new hX1 1
         rw [World.size_alloc] at m5
         have m6' := m6.alloc (.cells #[.int .i64 1] 3)
         clear hK
         refine kR 3 rfl fun K hK => ?_
         refine wp_append_int (.tmp 77) (.tmp 79) rfl W2.heap.size (.slice A5 pre.length c5) (hatL ws x pre) 1 rfl hX2.o5 (by rw [hatL_length]; omega) _ rfl m5.c hX2.lt ?_
         intro v5 X9 ho hg hb
         refine hK.out _ _ (fun k _ h => hX2.two5 hg k h) ?_
         obtain ⟨A5', c5', rfl⟩ := ho.slice (n := pre.length + 1) (by rw [List.length_append, hatL_length]; rfl)
         have hX5 := hX2.app5 ho hg hb
         go_frame
         have m6'' := m6'.app5 hg hb
         clear ho hg hb hK
         refine kR 7 rfl fun K hK => ?_
         refine wp_append_int (.tmp 81) (.tmp 83) rfl W2.heap.size (.slice A6 pre.length c6) (reaL ws x pre) (-1) rfl hX5.o6 (by rw [reaL_length]; omega) _ rfl m6''.c hX5.lt ?_
         intro v6 X4 ho hg hb
         refine hK.out _ _ (fun k _ h => hX5.two6 hg k h) ?_
         obtain ⟨A6', c6', rfl⟩ := ho.slice (n := pre.length + 1) (by rw [List.length_append, reaL_length]; rfl)
         have hX7 := hX5.app6 ho hg hb
         clear ho hg hb
         go_frame
         refine kR 8 rfl fun K hK => ?_
         have f5 := hX7.frozen5
         have e5 := cr 0 hX7.k5
         go_simp
         refine hK.out _ _ (fun k hk h => hX7.two8 _ k hk h) ?_
         have hX8 := hX7.store5 (.slice A5' (pre.length + 1) c5')
         refine kR 9 rfl fun K hK => ?_
         have f6 := hX8.frozen6
         have e6 := cr 0 hX8.k6
         go_simp
         refine hK.out _ _ (fun k hk h => by cases hk) ?_
         have hX9 := hX8.store6 (.slice A6' (pre.length + 1) c6')
         refine kD ?_
         exact (show KeepsFrom W2.heap.size W _ ∧ Below w.heap.size W _ ∧ SgI w W2 ws x (pre ++ [y]) _ from ⟨hX9.kf.from _, hX9.bl, SgI.of_ap HY.out.1 HV.out.1 HV.out.2 hX9⟩)
       ·rw [if_neg heq] at hvals
        have hsplit : (y.1 : Int) ≠ a1 ∨ ((y.1 : Int) = a1 ∧ (caAt ws y.1 : Int) ≠ a2) ∨ ((y.1 : Int) = a1 ∧ (caAt ws y.1 : Int) = a2 ∧ (atAt ws y.1 : Int) ≠ a3) := by
         by_cases h1 : (y.1 : Int) = a1
         ·by_cases h2 : (caAt ws y.1 : Int) = a2
          ·by_cases h3 : (atAt ws y.1 : Int) = a3
           ·exact absurd (by unfold pl; rw [h1, h2, h3]) heq
           ·exact .inr (.inr ⟨h1, h2, h3⟩)
          ·exact .inr (.inl ⟨h1, h2⟩)
         ·exact .inl h1
        clear heq
        by_cases hle : (atAt ws y.1 : Int) ≤ a3
        ·rw [if_pos hle] at hvals
         have HV := Lib.hid hvals
         clear hvals
         rcases hsplit with h1 | ⟨rfl, h2⟩ | ⟨rfl, rfl, h3⟩ <;>
         ·gi_wp2
          refine wpIn_region_two (HAp.out.alloc _) (fun j k => match j with | 8 => k != 0 | 9 => false | _ => true) (fun _ => trivial) (by kernel_rfl) ?_
          intro X0 hX0 e5 e6
          refine kT 0 0 rfl ?_
          refine kT 0 1 rfl ?_
          refine kT 1 4 rfl ?_
          refine kT 1 5 rfl ?_
          clear e5 e6
          refine wpAnyK_ready (rs := [2, 6]) (by kernel_rfl) (by simp) (AllK.consL rfl (by rfl) (fun K hK => ?_) (AllK.consL rfl (by rfl) (fun K hK => ?_) AllK.nil))
          ·go_simp
           refine hK.out _ _ (fun k _ h => two_alloc k h) ?_
           have hX1 := hX0.alloc (.cells #[.int .i64 (-1)] 3)
           have m5 := Nw.new hX0 (-1)
           clear hK
           refine wpAnyK_ready (rs := [3, 6]) (by kernel_rfl) (by simp) (AllK.consL rfl (by rfl) (fun K hK => ?_) (AllK.consL rfl (by rfl) (fun K hK => ?_) AllK.nil))
           ·refine wp_append_int (.tmp 77) (.tmp 79) rfl W2.heap.size (.slice A5 pre.length c5) (hatL ws x pre) (-1) rfl hX1.o5 (by rw [hatL_length]; omega) _ rfl m5.c hX1.lt ?_
            intro v5 X9 ho hg hb
            refine hK.out _ _ (fun k _ h => hX1.two5 hg k h) ?_
            obtain ⟨A5', c5', rfl⟩ := ho.slice (n := pre.length + 1) (by rw [List.length_append, hatL_length]; rfl)
            have hX5 := hX1.app5 ho hg hb
            go_frame
            clear ho hg hb hK
            refine kR 6 rfl fun K hK => ?_
            go_simp
            refine hK.out _ _ (fun k _ h => two_alloc k h) ?_
            have hX6 := hX5.alloc (.cells #[.int .i64 (-1)] 3)
            have m6 := Nw.new hX5 (-1)
            clear hK
            refine kR 7 rfl fun K hK => ?_
            refine wp_append_int (.tmp 81) (.tmp 83) rfl W2.heap.size (.slice A6 pre.length c6) (reaL ws x pre) (-1) rfl hX6.o6 (by rw [reaL_length]; omega) _ rfl m6.c hX6.lt ?_
            intro v6 X4 ho hg hb
            refine hK.out _ _ (fun k _ h => hX6.two6 hg k h) ?_
            obtain ⟨A6', c6', rfl⟩ := ho.slice (n := pre.length + 1) (by rw [List.length_append, reaL_length]; rfl)
            have hX7 := hX6.app6 ho hg hb
            clear ho hg hb
            go_frame
            refine kR 8 rfl fun K hK => ?_
            have f5 := hX7.frozen5
            have e5 := cr 0 hX7.k5
            go_simp
            refine hK.out _ _ (fun k hk h => hX7.two8 _ k hk h) ?_
            have hX8 := hX7.store5 (.slice A5' (pre.length + 1) c5')
            refine kR 9 rfl fun K hK => ?_
            have f6 := hX8.frozen6
            have e6 := cr 0 hX8.k6
            go_simp
            refine hK.out _ _ (fun k hk h => by cases hk) ?_
            have hX9 := hX8.store6 (.slice A6' (pre.length + 1) c6')
            refine kD ?_
            exact (show KeepsFrom W2.heap.size W _ ∧ Below w.heap.size W _ ∧ SgI w W2 ws x (pre ++ [y]) _ from ⟨hX9.kf.from _, hX9.bl, SgI.of_ap HY.out.1 HV.out.1 HV.out.2 hX9⟩)
           ·go_simp
            refine hK.out _ _ (fun k _ h => two_alloc k h) ?_
            have hX2 := hX1.alloc (.cells #[.int .i64 (-1)] 3)
            have m6 := Nw.new hX1 (-1)
            rw [World.size_alloc] at m6
            have m5' := m5.alloc (.cells #[.int .i64 (-1)] 3)
            clear hK
            refine kR 3 rfl fun K hK => ?_
            refine wp_append_int (.tmp 77) (.tmp 79) rfl W2.heap.size (.slice A5 pre.length c5) (hatL ws x pre) (-1) rfl hX2.o5 (by rw [hatL_length]; omega) _ rfl m5'.c hX2.lt ?_
            intro v5 X9 ho hg hb
            refine hK.out _ _ (fun k _ h => hX2.two5 hg k h) ?_
            obtain ⟨A5', c5', rfl⟩ := ho.slice (n := pre.length + 1) (by rw [List.length_append, hatL_length]; rfl)
            have hX5 := hX2.app5 ho hg hb
            go_frame
            have m6' := m6.app5 hg hb
            clear ho hg hb hK
            refine kR 7 rfl fun K hK => ?_
            refine wp_append_int (.tmp 81) (.tmp 83) rfl W2.heap.size (.slice A6 pre.length c6) (reaL ws x pre) (-1) rfl hX5.o6 (by rw [reaL_length]; omega) _ rfl m6'.c hX5.lt ?_
            intro v6 X4 ho hg hb
            refine hK.out _ _ (fun k _ h => hX5.two6 hg k h) ?_
            obtain ⟨A6', c6', rfl⟩ := ho.slice (n := pre.length + 1) (by rw [List.length_append, reaL_length]; rfl)
            have hX7 := hX5.app6 ho hg hb
            clear ho hg hb
            go_frame
            refine kR 8 rfl fun K hK => ?_
            have f5 := hX7.frozen5
            have e5 := cr 0 hX7.k5
            go_simp
            refine hK.out _ _ (fun k hk h => hX7.two8 _ k hk h) ?_
            have hX8 := hX7.store5 (.slice A5' (pre.length + 1) c5')
            refine kR 9 rfl fun K hK => ?_
            have f6 := hX8.frozen6
            have e6 := cr 0 hX8.k6
            go_simp
            refine hK.out _ _ (fun k hk h => by cases hk) ?_
            have hX9 := hX8.store6 (.slice A6' (pre.length + 1) c6')
            refine kD ?_
            exact (show KeepsFrom W2.heap.size W _ ∧ Below w.heap.size W _ ∧ SgI w W2 ws x (pre ++ [y]) _ from ⟨hX9.kf.from _, hX9.bl, SgI.of_ap HY.out.1 HV.out.1 HV.out.2 hX9⟩)
          ·go_simp
           refine hK.out _ _ (fun k _ h => two_alloc k h) ?_
           have hX1 := hX0.alloc (.cells #[.int .i64 (-1)] 3)
           have m6 := Nw.new hX0 (-1)
           clear hK
           refine kR 2 rfl fun K hK => ?_
           go_simp
           refine hK.out _ _ (fun k _ h => two_alloc k h) ?_
           have hX2 := hX1.alloc (.cells #[.int .i64 (-1)] 3)
           have m5 := Nw.new hX1 (-1)
           rw [World.size_alloc] at m5
           have m6' := m6.alloc (.cells #[.int .i64 (-1)] 3)
           clear hK
           refine kR 3 rfl fun K hK => ?_
           refine wp_append_int (.tmp 77) (.tmp 79) rfl W2.heap.size (.slice A5 pre.length c5) (hatL ws x pre) (-1) rfl hX2.o5 (by rw [hatL_length]; omega) _ rfl m5.c hX2.lt ?_
           intro v5 X9 ho hg hb
           refine hK.out _ _ (fun k _ h => hX2.two5 hg k h) ?_
           obtain ⟨A5', c5', rfl⟩ := ho.slice (n := pre.length + 1) (by rw [List.length_append, hatL_length]; rfl)
           have hX5 := hX2.app5 ho hg hb
           go_frame
           have m6'' := m6'.app5 hg hb
           clear ho hg hb hK
           refine kR 7 rfl fun K hK => ?_
           refine wp_append_int (.tmp 81) (.tmp 83) rfl W2.heap.size (.slice A6 pre.length c6) (reaL ws x pre) (-1) rfl hX5.o6 (by rw [reaL_length]; omega) _ rfl m6''.c hX5.lt ?_
           intro v6 X4 ho hg hb
           refine hK.out _ _ (fun k _ h => hX5.two6 hg k h) ?_
           obtain ⟨A6', c6', rfl⟩ := ho.slice (n := pre.length + 1) (by rw [List.length_append, reaL_length]; rfl)
           have hX7 := hX5.app6 ho hg hb
           clear ho hg hb
           go_frame
           refine kR 8 rfl fun K hK => ?_
           have f5 := hX7.frozen5
           have e5 := cr 0 hX7.k5
           go_simp
           refine hK.out _ _ (fun k hk h => hX7.two8 _ k hk h) ?_
           have hX8 := hX7.store5 (.slice A5' (pre.length + 1) c5')
           refine kR 9 rfl fun K hK => ?_
           have f6 := hX8.frozen6
           have e6 := cr 0 hX8.k6
           go_simp
           refine hK.out _ _ (fun k hk h => by cases hk) ?_
           have hX9 := hX8.store6 (.slice A6' (pre.length + 1) c6')
           refine kD ?_
           exact (show KeepsFrom W2.heap.size W _ ∧ Below w.heap.size W _ ∧ SgI w W2 ws x (pre ++ [y]) _ from ⟨hX9.kf.from _, hX9.bl, SgI.of_ap HY.out.1 HV.out.1 HV.out.2 hX9⟩)
        ·rw [if_neg hle] at hvals
         have HV := Lib.hid hvals
         clear hvals
         rcases hsplit with h1 | ⟨rfl, h2⟩ | ⟨rfl, rfl, h3⟩ <;>
         ·gi_wp2
          refine wpIn_region_two (HAp.out.alloc _) (fun j k => match j with | 8 => k != 0 | 9 => false | _ => true) (fun _ => trivial) (by kernel_rfl) ?_
          intro X0 hX0 e5 e6
          refine kT 0 0 rfl ?_
          refine kT 0 1 rfl ?_
          refine kT 1 4 rfl ?_
          refine kT 1 5 rfl ?_
          clear e5 e6
          refine wpAnyK_ready (rs := [2, 6]) (by kernel_rfl) (by simp) (AllK.consL rfl (by rfl) (fun K hK => ?_) (AllK.consL rfl (by rfl) (fun K hK => ?_) AllK.nil))
          ·go_simp
           refine hK.out _ _ (fun k _ h => two_alloc k h) ?_
           have hX1 := hX0.alloc (.cells #[.int .i64 0] 3)
           have m5 := Nw.new hX0 0
           clear hK
           refine wpAnyK_ready (rs := [3, 6]) (by kernel_rfl) (by simp) (AllK.consL rfl (by rfl) (fun K hK => ?_) (AllK.consL rfl (by rfl) (fun K hK => ?_) AllK.nil))
           ·refine wp_append_int (.tmp 77) (.tmp 79) rfl W2.heap.size (.slice A5 pre.length c5) (hatL ws x pre) 0 rfl hX1.o5 (by rw [hatL_length]; omega) _ rfl m5.c hX1.lt ?_
            intro v5 X9 ho hg hb
            refine hK.out _ _ (fun k _ h => hX1.two5 hg k h) ?_
            obtain ⟨A5', c5', rfl⟩ := ho.slice (n := pre.length + 1) (by rw [List.length_append, hatL_length]; rfl)
            have hX5 := hX1.app5 ho hg hb
            go_frame
            clear ho hg hb hK
            refine kR 6 rfl fun K hK => ?_
            go_simp
            refine hK.out _ _ (fun k _ h => two_alloc k h) ?_
            have hX6 := hX5.alloc (.cells #[.int .i64 0] 3)
            have m6 := Nw.new hX5 0
            clear hK
            refine kR 7 rfl fun K hK => ?_
            refine wp_append_int (.tmp 81) (.tmp 83) rfl W2.heap.size (.slice A6 pre.length c6) (reaL ws x pre) 0 rfl hX6.o6 (by rw [reaL_length]; omega) _ rfl m6.c hX6.lt ?_
            intro v6 X4 ho hg hb
            refine hK.out _ _ (fun k _ h => hX6.two6 hg k h) ?_
            obtain ⟨A6', c6', rfl⟩ := ho.slice (n := pre.length + 1) (by rw [List.length_append, reaL_length]; rfl)
            have hX7 := hX6.app6 ho hg hb
            clear ho hg hb
            go_frame
            refine kR 8 rfl fun K hK => ?_
            have f5 := hX7.frozen5
            have e5 := cr 0 hX7.k5
            go_simp
            refine hK.out _ _ (fun k hk h => hX7.two8 _ k hk h) ?_
            have hX8 := hX7.store5 (.slice A5' (pre.length + 1) c5')
            refine kR 9 rfl fun K hK => ?_
            have f6 := hX8.frozen6
            have e6 := cr 0 hX8.k6
            go_simp
            refine hK.out _ _ (fun k hk h => by cases hk) ?_
            have hX9 := hX8.store6 (.slice A6' (pre.length + 1) c6')
            refine kD ?_
            exact (show KeepsFrom W2.heap.size W _ ∧ Below w.heap.size W _ ∧ SgI w W2 ws x (pre ++ [y]) _ from ⟨hX9.kf.from _, hX9.bl, SgI.of_ap HY.out.1 HV.out.1 HV.out.2 hX9⟩)
           ·go_simp
            refine hK.out _ _ (fun k _ h => two_alloc k h) ?_
            have hX2 := hX1.alloc (.cells #[.int .i64 0] 3)
            have m6 := Nw.new hX1 0
            rw [World.size_alloc] at m6
            have m5' := m5.alloc (.cells #[.int .i64 0] 3)
            clear hK
            refine kR 3 rfl fun K hK => ?_
            refine wp_append_int (.tmp 77) (.tmp 79) rfl W2.heap.size (.slice A5 pre.length c5) (hatL ws x pre) 0 rfl hX2.o5 (by rw [hatL_length]; omega) _ rfl m5'.c hX2.lt ?_
            intro v5 X9 ho hg hb
            refine hK.out _ _ (fun k _ h => hX2.two5 hg k h) ?_
            obtain ⟨A5', c5', rfl⟩ := ho.slice (n := pre.length + 1) (by rw [List.length_append, hatL_length]; rfl)
            have hX5 := hX2.app5 ho hg hb
            go_frame
            have m6' := m6.app5 hg hb
            clear ho hg hb hK
            refine kR 7 rfl fun K hK => ?_
            refine wp_append_int (.tmp 81) (.tmp 83) rfl W2.heap.size (.slice A6 pre.length c6) (reaL ws x pre) 0 rfl hX5.o6 (by rw [reaL_length]; omega) _ rfl m6'.c hX5.lt ?_
            intro v6 X4 ho hg hb
            refine hK.out _ _ (fun k _ h => hX5.two6 hg k h) ?_
            obtain ⟨A6', c6', rfl⟩ := ho.slice (n := pre.length + 1) (by rw [List.length_append, reaL_length]; rfl)
            have hX7 := hX5.app6 ho hg hb
            clear ho hg hb
            go_frame
            refine kR 8 rfl fun K hK => ?_
            have f5 := hX7.frozen5
            have e5 := cr 0 hX7.k5
            go_simp
            refine hK.out _ _ (fun k hk h => hX7.two8 _ k hk h) ?_
            have hX8 := hX7.store5 (.slice A5' (pre.length + 1) c5')
            refine kR 9 rfl fun K hK => ?_
            have f6 := hX8.frozen6
            have e6 := cr 0 hX8.k6
            go_simp
            refine hK.out _ _ (fun k hk h => by cases hk) ?_
            have hX9 := hX8.store6 (.slice A6' (pre.length + 1) c6')
            refine kD ?_
            exact (show KeepsFrom W2.heap.size W _ ∧ Below w.heap.size W _ ∧ SgI w W2 ws x (pre ++ [y]) _ from ⟨hX9.kf.from _, hX9.bl, SgI.of_ap HY.out.1 HV.out.1 HV.out.2 hX9⟩)
          ·go_simp
           refine hK.out _ _ (fun k _ h => two_alloc k h) ?_
           have hX1 := hX0.alloc (.cells #[.int .i64 0] 3)
           have m6 := Nw.new hX0 0
           clear hK
           refine kR 2 rfl fun K hK => ?_
           go_simp
           refine hK.out _ _ (fun k _ h => two_alloc k h) ?_
           have hX2 := hX1.alloc (.cells #[.int .i64 0] 3)
           have m5 := Nw.new hX1 0
           rw [World.size_alloc] at m5
           have m6' := m6.alloc (.cells #[.int .i64 0] 3)
           clear hK
           refine kR 3 rfl fun K hK => ?_
           refine wp_append_int (.tmp 77) (.tmp 79) rfl W2.heap.size (.slice A5 pre.length c5) (hatL ws x pre) 0 rfl hX2.o5 (by rw [hatL_length]; omega) _ rfl m5.c hX2.lt ?_
           intro v5 X9 ho hg hb
           refine hK.out _ _ (fun k _ h => hX2.two5 hg k h) ?_
           obtain ⟨A5', c5', rfl⟩ := ho.slice (n := pre.length + 1) (by rw [List.length_append, hatL_length]; rfl)
           have hX5 := hX2.app5 ho hg hb
           go_frame
           have m6'' := m6'.app5 hg hb
           clear ho hg hb hK
           refine kR 7 rfl fun K hK => ?_
           refine wp_append_int (.tmp 81) (.tmp 83) rfl W2.heap.size (.slice A6 pre.length c6) (reaL ws x pre) 0 rfl hX5.o6 (by rw [reaL_length]; omega) _ rfl m6''.c hX5.lt ?_
           intro v6 X4 ho hg hb
           refine hK.out _ _ (fun k _ h => hX5.two6 hg k h) ?_
           obtain ⟨A6', c6', rfl⟩ := ho.slice (n := pre.length + 1) (by rw [List.length_append, reaL_length]; rfl)
           have hX7 := hX5.app6 ho hg hb
           clear ho hg hb
           go_frame
           refine kR 8 rfl fun K hK => ?_
           have f5 := hX7.frozen5
           have e5 := cr 0 hX7.k5
           go_simp
           refine hK.out _ _ (fun k hk h => hX7.two8 _ k hk h) ?_
           have hX8 := hX7.store5 (.slice A5' (pre.length + 1) c5')
           refine kR 9 rfl fun K hK => ?_
           have f6 := hX8.frozen6
           have e6 := cr 0 hX8.k6
           go_simp
           refine hK.out _ _ (fun k hk h => by cases hk) ?_
           have hX9 := hX8.store6 (.slice A6' (pre.length + 1) c6')
           refine kD ?_
           exact (show KeepsFrom W2.heap.size W _ ∧ Below w.heap.size W _ ∧ SgI w W2 ws x (pre ++ [y]) _ from ⟨hX9.kf.from _, hX9.bl, SgI.of_ap HY.out.1 HV.out.1 HV.out.2 hX9⟩)
     case done =>
      rintro D ys W hD rfl hi hK
      obtain ⟨A5, c5, A6, c6, k5, k6, o5, o6, hne⟩ := hi.a
      have hlf : (List.finRange (outs ws).length).length = (outs ws).length := List.length_finRange
      rw [hlf] at k5 k6 o5 o6 hne
      rw [hatL_all] at o5
      rw [reaL_all] at o6
      have HAp : Hid (Ap W2.heap.size w.heap.size W (w.heap.size + 1 + 1) (w.heap.size + 1 + 1 + 1) (.slice A5 (outs ws).length c5) (.slice A6 (outs ws).length c6) (.slice A5 (outs ws).length c5) (.slice A6 (outs ws).length c6) (hatS ws x) (reaS ws x) W) :=
       Lib.hid ⟨k5, k6, o5, o6, hne, KeepsOthers.refl _, Below.refl _ _, ⟨by omega, by omega, by have := hi.l4; omega, by have := hi.l4; omega, by omega⟩, hi.lt, by have := hi.lt; have := hi.l4; omega, fun _ _ _ _ => rfl⟩
      have HD2 := hd3 hi hD hK
      clear k5 k6 o5 o6 hne hlf hi hD hK hseq hO
      gi_wp2
      refine wpIn_region_two HAp.out (fun _ _ => true) (fun _ => trivial) (by kernel_rfl) ?_
      intro X0 hX0 e5 e6
      refine kT 0 0 rfl ?_
      refine kT 0 1 rfl ?_
      refine kT 1 2 rfl ?_
      clear e5 e6
      refine kR 3 rfl fun K hK => ?_
      go_simp
      refine hK.out _ _ (fun k _ h => h) ?_
      clear hK
      refine kR 4 rfl fun K hK => ?_
      have f5 := hX0.frozen5
      have e5 := cr 0 hX0.k5
      go_simp
      refine hK.out _ _ (fun k _ h => hX0.same5 k h) ?_
      have hX1 := hX0.store5 (.slice A5 (outs ws).length c5)
      clear hK f5 e5
      refine kR 5 rfl fun K hK => ?_
      have f6 := hX1.frozen6
      have e6 := cr 0 hX1.k6
      go_simp
      refine hK.out _ _ (fun k _ h => hX1.same6 k h) ?_
      have hX2 := hX1.store6 (.slice A6 (outs ws).length c6)
      clear hK f6 e6
      refine kD ?_
      dsimp only [EndsOnly, Exit.then]
      obtain ⟨hi, hD, hKd⟩ := HD2.out
      have hKX := hX2.kf.same D _ hKd rfl
      have HX2 := hd4 hX2 hi hD hKX
      clear hX0 hX1 hX2 hi hD hKd
      gi_wp2
      refine ⟨by simp, .inl ⟨_, _, rfl, run_takeDeferred hKX, ?_⟩⟩
      clear hKX
      generalize ((X0.setCell ⟨w.heap.size + 1 + 1, 0, none⟩ (Value.slice A5 (outs ws).length c5)).setCell ⟨w.heap.size + 1 + 1 + 1, 0, none⟩ (Value.slice A6 (outs ws).length c6)) = X2 at *
      obtain ⟨hX2, hi, hD, hKX⟩ := HX2.out
      obtain ⟨hI1, hI2, hI3, hI4, hI5, hI6⟩ := HI0.out
      have hl4 := hI1.l4
      have hw2 := hs2
      have hput : ∀ (k : Nat) (o : Obj), X2.heap[k]? = some o → o.isCells = true → (X2.putObj D (.deferred none)).heap[k]? = X2.heap[k]? := fun k o h1 h2 => World.putObj_heap_other (fun e => by rw [e, hKX] at h1; cases h1; cases h2)
      have k5 := (hput _ _ hX2.k5 rfl).trans hX2.k5
      have k6 := (hput _ _ hX2.k6 rfl).trans hX2.k6
      have o5 := hX2.o5.blk (W' := X2.putObj D (.deferred none)) (fun k e => by obtain ⟨_, _, o, h1, h2⟩ := hX2.o5.blkIs e; exact hput k o h1 h2)
      have o6 := hX2.o6.blk (W' := X2.putObj D (.deferred none)) (fun k e => by obtain ⟨_, _, o, h1, h2⟩ := hX2.o6.blkIs e; exact hput k o h1 h2)
      have o4 := hI4.blk (W' := X2.putObj D (.deferred none)) (fun k e => by
       obtain ⟨h0, h1, o, h2, h3⟩ := hI4.blkIs e
       have h4 := (hX2.md k h1 (by omega) (by omega)).trans (hi.mid k (by omega) h1)
       exact (hput k o (h4.trans h2) h3).trans h4)
      obtain ⟨B4, d4, e4, r4, f4⟩ := o4.rd
      obtain ⟨B5, d5, e5, r5, f5⟩ := o5.rd
      obtain ⟨B6, d6, e6, r6, f6⟩ := o6.rd
      have t1 : (X2.putObj D (.deferred none)).cell? ⟨w.heap.size + 1 + 1, 0, none⟩ = some (.slice A5 (outs ws).length c5) := cell_row k5
      have t2 : (X2.putObj D (.deferred none)).cell? ⟨w.heap.size + 1 + 1 + 1, 0, none⟩ = some (.slice A6 (outs ws).length c6) := cell_row k6
      have hbl := (hi.bl.trans hX2.bl).trans (belowK_b hI1.bl.size X2 D (.deferred (some [])) (.deferred none) hD hKX rfl rfl)
      exact ⟨.tuple #[.slice A2 (headsTo ws ws.length).length c2, .slice A5 (outs ws).length c5, .slice A6 (outs ws).length c6], by simp [results, Tryz.results83, go_sem, t1, t2], B4, d4, B5, d5, B6, d6, by rw [e4, e5, e6]; rfl, r4, r5, r6, f4.mono (by omega), f5.mono (by omega), f6.mono (by omega), hbl⟩
theorem signs_any (A : Option Addr) (c : Nat) (ws : List Car) (x : Nat) (hx : x < (outs ws).length) (w : World) (hW : Wk w A ws) (g : Good ws) :
  Calls Tryz.prog 83 #[.agg #[.slice A ws.length c], plV (pl ws x)] w fun e w' => ∃ A1 c1 A2 c2 A3 c3, e = .returned (.tuple #[.slice A1 (rivS ws x).length c1, .slice A2 (hatS ws x).length c2, .slice A3 (reaS ws x).length c3]) ∧
   Rd w' w'.heap.size A1 (rivS ws x) ∧ Rd w' w'.heap.size A2 (hatS ws x) ∧ Rd w' w'.heap.size A3 (reaS ws x) ∧ Fresh w.heap.size A1 ∧ Fresh w.heap.size A2 ∧ Fresh w.heap.size A3 ∧ Below w.heap.size w w' := callsIn_wide.1 (signs_in A c ws x hx w hW g)
end Go.Proofs.YtegmniphgahblaaGreat
