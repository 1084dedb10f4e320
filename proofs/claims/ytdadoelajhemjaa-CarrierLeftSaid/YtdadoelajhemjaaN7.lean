/- Runs appended. -/
import Derived.Test.YtdadoelajhemjaaN6
import Derived.Test.YtdadoelajhemjaaQ2
import Derived.ArgAppend
import Derived.OwnWalk
namespace Go.Proofs.Ytdadoelajhemjaa
open Go.RowKit Go.Shelf

theorem info76 : (Try.prog.info? 76).map (fun i => (i.zero, i.size, i.bytes)) = some (some (.agg #[.int .i64 0, .slice none 0 0, .slice none 0 0, .slice none 0 0, .slice none 0 0]), 5, 104) := by kernel_rfl
/-- A slice of the call's own that holds some runs. -/
def OwnR (w : World) (base : Nat) (v : Value) (l : List Rn) : Prop := w.ownsRow base 76 5 v l.length (cellsR l)
section
variable {w w' : World} {base : Nat} {v : Value} {l : List Rn}
theorem OwnR.blkIs (h : OwnR w base v l) {k : Nat} (e : v.ownBlock = some k) : base ≤ k ∧ k < w.heap.size := by
 rcases h.2 with ⟨rfl, hn⟩ | ⟨g, cap, cur, rfl, hb, hg, hnc, _⟩
 ·cases e
 ·cases e; exact ⟨hb, (Array.getElem?_eq_some_iff.1 hg).1⟩
theorem OwnR.rd (h : OwnR w base v l) (hw : ∀ i, i < l.length → Wet w (rAt l i).s) : ∃ A c, v = .slice A l.length c ∧ RdR w A l := by
 have h0 := h
 rcases h.2 with ⟨rfl, hn⟩ | ⟨g, cap, cur, rfl, hb, hg, hnc, hcm, hcs, ht⟩
 ·exact ⟨none, 0, by rw [hn], fun hl => absurd hl (by omega)⟩
 ·refine ⟨_, _, rfl, fun hl => ⟨g, 0, rfl, fun i hi => ?_⟩⟩
  have c : ∀ j u, j < 5 → (cellR (rAt l i))[j]? = some u → w.cell? ⟨g, 0 + i * 5 + j, none⟩ = some u := fun j u hj hu => by
   have h1 := World.ownsRow.cells h0 (g := g) rfl (i * 5 + j) u (by rw [cellsR_at l i j hi hj]; exact hu)
   rw [add_eq] at h1
   rw [show 0 + i * 5 + j = 0 + (i * 5 + j) by omega]
   exact h1
  exact ⟨c 0 _ (by omega) rfl, c 1 _ (by omega) rfl, c 2 _ (by omega) rfl, c 3 _ (by omega) rfl, c 4 _ (by omega) rfl, hw i hi⟩
theorem OwnR.blk (h : OwnR w base v l) (hb : ∀ k, v.ownBlock = some k → w'.heap[k]? = w.heap[k]?) : OwnR w' base v l := by
 rcases h.2 with ⟨rfl, hn⟩ | ⟨g, cap, cur, rfl, hb', hg, hr⟩
 ·exact ⟨h.1, .inl ⟨rfl, hn⟩⟩
 ·exact ⟨h.1, .inr ⟨g, cap, cur, rfl, hb', (hb g rfl).trans hg, hr⟩⟩
theorem OwnR.later (h : OwnR w base v l) (hb : Below w.heap.size w w') : OwnR w' base v l := h.blk fun _ e => hb.block _ (h.blkIs e).2
theorem OwnR.nil {g : Nat} (hg : base ≤ g) (hk : Blk w g #[] 76) : OwnR w base (.slice (some ⟨g, 0, none⟩) 0 0) [] := ⟨rfl, .inr ⟨g, 0, #[], rfl, hg, hk, Nat.le_refl _, Nat.zero_le _, rfl, rfl⟩⟩
end
theorem cells_of_runs {w : World} {A : Option Addr} {l : List Rn} (h : RdR w A l) {ad : Addr} (e : A = some ad) : ∀ j u, (cellsR l)[j]? = some u → w.cell? (ad.add j) = some u := by
 intro j u hu
 have hj : j < l.length * 5 := by
  rw [← cellsR_length]
  exact (List.getElem?_eq_some_iff.1 hu).1
 obtain ⟨b, off, e2, hc⟩ := h (by omega)
 rw [e] at e2
 cases e2
 have hd : j / 5 < l.length := by omega
 have hr := hc (j / 5) hd
 have hu' : (cellR (rAt l (j / 5)))[j % 5]? = some u := by rw [← cellsR_at l (j / 5) (j % 5) hd (by omega), show j / 5 * 5 + j % 5 = j by omega]; exact hu
 have hm : off + j = off + j / 5 * 5 + j % 5 := by omega
 have h5 : j % 5 < 5 := by omega
 rw [add_eq, hm]
 generalize j % 5 = k at *
 match k, h5 with
 | 0, _ => rw [Nat.add_zero, hr.c0]; exact hu'
 | 1, _ => rw [hr.c1]; exact hu'
 | 2, _ => rw [show off + j / 5 * 5 + 2 = off + j / 5 * 5 + 1 + 1 from rfl, hr.c2]; exact hu'
 | 3, _ => rw [show off + j / 5 * 5 + 3 = off + j / 5 * 5 + 1 + 2 from rfl, hr.c3]; exact hu'
 | 4, _ => rw [show off + j / 5 * 5 + 4 = off + j / 5 * 5 + 1 + 3 from rfl, hr.c4]; exact hu'

/-- An append to an empty slice without room. -/
theorem wp_app_first {op : Oper} {a : Act} {w : World} {K : Act → World → Prop} {Q : Exit → Act → World → Prop} (s x : Operand) (ho : op.op = .call { callee := .builtin .append, args := #[s, x], argTypes := #[72, 72] })
  (base g : Nat) (hg : base ≤ g) (hk : Blk w g #[] 76) (hbw : base ≤ w.heap.size) (hs : a.eval s = .slice (some ⟨g, 0, none⟩) 0 0) (A : Option Addr) (c : Nat) (l : List Rn) (hx : a.eval x = .slice A l.length c) (hr : RdR w A l) (hn : A = none → c = 0) (hm : l.length ≤ 1000)
  (h : ∀ v' w', OwnR w' base v' l → Below w.heap.size w w' → K (a.put op.dst v') w') : op.wp Try.prog a w K Q := by
 obtain ⟨i0, hi, hz0, hz1, hz2⟩ := info_parts info76
 have hrun : ∃ v' w', (Builtin.append_ #[72, 72] op.type #[.slice (some ⟨g, 0, none⟩) 0 0, .slice A l.length c]).run Try.prog w = .ok v' w' ∧ OwnR w' base v' l ∧ Below w.heap.size w w' := by
  rcases Nat.eq_zero_or_pos l.length with h0 | h0
  ·obtain rfl : l = [] := List.eq_nil_of_length_eq_zero h0
   cases A with
   | none =>
    obtain rfl := hn rfl
    exact ⟨_, _, run_append_owned_none (P := Try.prog) w base 72 op.type 76 i0 5 Try.underlying72 hi _ 0 [] (OwnR.nil hg hk), OwnR.nil hg hk, Below.refl _ _⟩
   | some ad =>
    have := run_append_room_cells (P := Try.prog) w 72 op.type 76 i0 Try.underlying72 hi g 0 0 0 ad 0 c [] (by simp) (fun j u hj => by simp at hj) (fun u hu => by cases hu) (Nat.le_refl _) (fun j hj => absurd hj (by simp)) (fun j hj => absurd hj (by simp))
    exact ⟨_, _, this, OwnR.nil hg hk, Below.refl _ _⟩
  ·obtain ⟨b, off, rfl, _⟩ := hr h0
   obtain ⟨v', w', h1, h2, h3⟩ := run_append_arg_grows (P := Try.prog) w 72 op.type 76 i0 (.agg #[.int .i64 0, .slice none 0 0, .slice none 0 0, .slice none 0 0, .slice none 0 0]) 5 104 Try.underlying72 hi hz0 hz1 hz2 rfl (by decide) ⟨g, 0, none⟩ 0 0 [] (by simp) (fun j u hj => by simp at hj) ⟨b, off, none⟩ l.length c (cellsR l) (cellsR_length l) (cells_of_runs hr rfl) (by omega) (by unfold maxLen; omega) (by omega)
   rw [Nat.zero_add, List.nil_append] at h2
   refine ⟨v', w', h1, ⟨h2.1, ?_⟩, (Below.refl _ w).grown h3 (Nat.le_refl _) (fun k e => by cases e)⟩
   rcases h2.2 with e | ⟨g', cap, cur, e, e1, e2⟩
   ·exact .inl e
   ·exact .inr ⟨g', cap, cur, e, Nat.le_trans hbw e1, e2⟩
 obtain ⟨v', w', h1, h2, h3⟩ := hrun
 unfold Oper.wp execOp
 simp only [ho, resolve, invoke, builtin, Sem.run_bind, Sem.run_pure, Result.andThen_ok, List.map_toArray, List.map_cons, List.map_nil, hs, hx, h1]
 exact h v' w' h2 h3
/-- A further append, to a slice of one's own. -/
theorem wp_app_more {op : Oper} {a : Act} {w : World} {K : Act → World → Prop} {Q : Exit → Act → World → Prop} (s x : Operand) (ho : op.op = .call { callee := .builtin .append, args := #[s, x], argTypes := #[72, 72] })
  (base : Nat) (hbw : base ≤ w.heap.size) (v : Value) (xs : List Rn) (hs : a.eval s = v) (hown : OwnR w base v xs) (A : Option Addr) (c : Nat) (l : List Rn) (hx : a.eval x = .slice A l.length c) (hr : RdR w A l) (hn : A = none → c = 0) (hm : xs.length + l.length ≤ 1000)
  (h : ∀ v' w', OwnR w' base v' (xs ++ l) → Below base w w' → K (a.put op.dst v') w') : op.wp Try.prog a w K Q := by
 obtain ⟨i0, hi, hz0, hz1, hz2⟩ := info_parts info76
 have hrun : ∃ v' w', (Builtin.append_ #[72, 72] op.type #[v, .slice A l.length c]).run Try.prog w = .ok v' w' ∧ OwnR w' base v' (xs ++ l) ∧ Below base w w' := by
  cases A with
  | none =>
   obtain rfl := hn rfl
   have h0 : l = [] := by
    rcases Nat.eq_zero_or_pos l.length with h0 | h0
    ·exact List.eq_nil_of_length_eq_zero h0
    ·obtain ⟨_, _, e, _⟩ := hr h0; cases e
   subst h0
   exact ⟨_, _, run_append_owned_none (P := Try.prog) w base 72 op.type 76 i0 5 Try.underlying72 hi v xs.length (cellsR xs) hown, by rw [List.append_nil]; exact hown, Below.refl _ _⟩
  | some ad =>
   obtain ⟨v', w', h1, h2, h3, _⟩ := run_append_own (P := Try.prog) w base 72 op.type 76 i0 (.agg #[.int .i64 0, .slice none 0 0, .slice none 0 0, .slice none 0 0, .slice none 0 0]) 5 104 Try.underlying72 hi hz0 hz1 hz2 rfl (by decide) v xs.length (cellsR xs) hown ad l.length c (cellsR l) (cellsR_length l) (cells_of_runs hr rfl) (cellsR_one l) (by unfold maxLen; omega) (by omega) hbw
   refine ⟨v', w', h1, ?_, (Below.refl _ w).grown h3 hbw (fun k e => (hown.blkIs e).1)⟩
   unfold OwnR
   rw [List.length_append, cellsR_append]
   exact h2
 obtain ⟨v', w', h1, h2, h3⟩ := hrun
 unfold Oper.wp execOp
 simp only [ho, resolve, invoke, builtin, Sem.run_bind, Sem.run_pure, Result.andThen_ok, List.map_toArray, List.map_cons, List.map_nil, hs, hx, h1]
 exact h v' w' h2 h3
/-- The first k runs, and the others, as slices. -/
theorem RdR.take {w : World} {A : Option Addr} {l : List Rn} (h : RdR w A l) (k : Nat) : RdR w A (l.take k) := fun hn => by
 rw [List.length_take] at hn
 obtain ⟨b, off, e, hc⟩ := h (by omega)
 refine ⟨b, off, e, fun i hi => ?_⟩
 rw [List.length_take] at hi
 have : rAt (l.take k) i = rAt l i := by unfold rAt; simp [List.getD_eq_getElem?_getD, show i < k by omega]
 rw [this]
 exact hc i (by omega)
theorem RdR.drop {w : World} {b off : Nat} {l : List Rn} (h : RdR w (some ⟨b, off, none⟩) l) (k : Nat) : RdR w (some ⟨b, off + k * 5, none⟩) (l.drop k) := fun hn => by
 rw [List.length_drop] at hn
 obtain ⟨b', off', e, hc⟩ := h (by omega)
 cases e
 refine ⟨b, off + k * 5, rfl, fun i hi => ?_⟩
 rw [List.length_drop] at hi
 have : rAt (l.drop k) i = rAt l (k + i) := by unfold rAt; simp [List.getD_eq_getElem?_getD, List.getElem?_drop]
 rw [this, show off + k * 5 + i * 5 = off + (k + i) * 5 by omega]
 exact hc (k + i) (by omega)
theorem rdr_rest {w : World} {B : Option Addr} {l : List Rn} (h : RdR w B l) {k d : Nat} (hd : l.length ≤ d) : RdR w (if d = k then B else Option.map (fun x : Addr => x.add (k * 5)) B) (l.drop k) := by
 by_cases e : d = k
 ·rw [if_pos e, List.drop_eq_nil_of_le (by omega)]
  exact fun hn => absurd hn (by simp)
 ·rw [if_neg e]
  intro hn
  have hn' : 0 < l.length := by rw [List.length_drop] at hn; omega
  obtain ⟨b, off, rfl, hc⟩ := h hn'
  have := RdR.drop (w := w) (b := b) (off := off) (l := l) (fun _ => ⟨b, off, rfl, hc⟩) k hn
  simpa [add_eq] using this
theorem rest_none {B : Option Addr} {k d : Nat} (hn : B = none → d = 0) : (if d = k then B else Option.map (fun x : Addr => x.add (k * 5)) B) = none → d - k = 0 := by
 intro h
 by_cases e : d = k
 ·omega
 ·rw [if_neg e, Option.map_eq_none_iff] at h
  have := hn h
  omega
section
variable {P : Program} {l : List Oper} {Q : Exit → Act → World → Prop} {md : Region.Mode} {kb : Nat → Bool} {oi : Oper} {v : Value} {fuel : Nat} {listed : Array Bool} {a a' : Act} {w : World}
/-- An operation that reads a whole block. -/
theorem bU {g : Nat} {cs : Array Value} {ty : TypeId} (hk : Blk w g cs ty) (i : Nat) (hi : l[i]? = some oi) (h : wpAnyR P md l.toArray Q kb fuel (listed.setIfInBounds i true) a' w)
  (hrun : ∀ w : World, Blk w g cs ty → (execOp a.eval oi).run P w = .ok (.value v) w) (ha : a.put oi.dst v = a' := by first | (go_frame; rfl) | rfl) (hw : Region.wanted oi (yielded l.toArray a.tmps) = true := by first | rfl | kernel_rfl)
  (hb : (Region.noSelect l.toArray && Region.free md l.toArray listed i && (Region.ready md l.toArray listed).contains i && keepsR md l.toArray kb listed i) = true := by kernel_rfl)
  (hQ : ∀ c a w, Q (.panic c) (a.put oi.dst v) w → Q (.panic c) a w := by exact fun _ _ _ h => h) : wpAnyR P md l.toArray Q kb (fuel + 1) listed a w :=
 bG (F := fun X => Blk X g cs ty) (fun _ _ hb h => blk_on h hb) hk i hi (ha ▸ h) (.inl ⟨hw, hrun⟩) hb hQ
end
theorem rdr_wet {w : World} {A : Option Addr} {l : List Rn} (h : RdR w A l) : ∀ i, i < l.length → Wet w (rAt l i).s := fun i hi => by
 obtain ⟨b, off, _, hc⟩ := h (by omega)
 exact (hc i hi).wt
theorem wet_all {w : World} {l : List Rn} (h : ∀ i, i < l.length → Wet w (rAt l i).s) : ∀ r ∈ l, Wet w r.s := fun r hr => by
 obtain ⟨j, hj, rfl⟩ := List.getElem_of_mem hr
 have := h j hj
 unfold rAt at this
 rwa [List.getD_eq_getElem?_getD, List.getElem?_eq_getElem hj] at this
theorem rdr_two {w : World} {g : Nat} {m n : Int} {s : Wt} (h : Blk w g (cellR ⟨m, s⟩ ++ cellR ⟨n, s⟩).toArray 76) (hs : Wet w s) : RdR w (some ⟨g, 0, none⟩) [⟨m, s⟩, ⟨n, s⟩] := fun _ => by
 refine ⟨g, 0, rfl, fun i hi => ?_⟩
 match i, hi with
 | 0, _ => exact ⟨cr 0 h, cr 1 h, cr 2 h, cr 3 h, cr 4 h, hs⟩
 | 1, _ => exact ⟨cr 5 h, cr 6 h, cr 7 h, cr 8 h, cr 9 h, hs⟩
theorem stays_run {W : World} {b off : Nat} {r : Rn} (h : RnAt W b off r) : Stays (fun X => RnAt X b off r) W := ⟨h, fun _ _ a b => a.ext b⟩
section
variable {P : Program} {ops : Array Oper} {Q : Exit → Act → World → Prop} {md : Region.Mode} {kb : Nat → Bool}
theorem wpAnyR_firstN {i : Nat} {oi : Oper} {v : Value} (s d : Nat → Bool) (hi : ops[i]? = some oi) (hsel : ∀ (j : Nat) (o : Oper) cs b, ops[j]? = some o → o.op ≠ .select cs b)
  (hQ : ∀ c a w, Q (.panic c) (a.put oi.dst v) w → Q (.panic c) a w)
  (hcl : ∀ j oj, ops[j]? = some oj → j ≠ i → (∀ e ∈ oj.after, Region.binds md e = true → s e.on = true) → s j = true) :
  ∀ (fuel : Nat) (listed : Array Bool) (a : Act) (w : World), (∀ j, listed.getD j false = true → s j = true) → (∀ j, d j = true → listed.getD j true = true) →
   (∀ j oj, ops[j]? = some oj → j ≠ i → listed.getD j true = false → (∀ e ∈ oj.after, Region.binds md e = true → e.on ≠ i) → oi.apart ops oj = true) →
   i ∈ Region.ready md ops listed → YieldsIf P ops (fun _ => True) oi v a →
   wpAnyR P md ops Q kb fuel (listed.setIfInBounds i true) (a.put oi.dst v) w → wpAnyR P md ops Q kb (fuel + 1) listed a w := by
 intro fuel
 induction fuel with
 | zero =>
  intro listed a w _ _ _ hr hy H
  refine ⟨fun h => (by rw [h] at hr; cases hr), fun j hj => ?_⟩
  by_cases hji : j = i
  ·subst hji; exact hy.wpOp hi trivial ⟨fun _ => Below.refl _ _, H⟩
  ·have := ready_mono hj hji
   rw [H.1] at this
   cases this
 | succ fuel ih =>
  intro listed a w hls hd hfree hr hy H
  refine ⟨fun h => (by rw [h] at hr; cases hr), fun j hj => ?_⟩
  by_cases hji : j = i
  ·subst hji; exact hy.wpOp hi trivial ⟨fun _ => Below.refl _ _, H⟩
  ·have h2 := H.2 j (ready_mono hj hji)
   obtain ⟨hjun, oj, hoj, hall⟩ := mem_ready.1 hj
   have hnot : ∀ e ∈ oj.after, Region.binds md e = true → e.on ≠ i := fun e he hb heq => by
    have h1 := hall e he hb
    have h0 := (mem_ready.1 hr).1
    rw [heq] at h1
    rcases Nat.lt_or_ge i listed.size with h' | h'
    ·simp [h'] at h0 h1; rw [h0] at h1; cases h1
    ·simp [Array.getElem?_eq_none h'] at h1
   have hsj := hcl j oj hoj hji (fun e he hb => hls _ (hall e he hb))
   have hset : ∀ m, m ≠ j → (listed.setIfInBounds j true).getD m false = listed.getD m false := fun m hm => getD_set_ne false (Ne.symm hm)
   have h2 := wpOp_putIf hoj (hfree j oj hoj hji hjun hnot) (fun cs b => hsel i oi cs b hi) (fun cs b => hsel j oj cs b hoj) hQ hy h2
   have hfree' : ∀ m om, ops[m]? = some om → m ≠ i → (listed.setIfInBounds j true).getD m true = false →
     (∀ e ∈ om.after, Region.binds md e = true → e.on ≠ i) → oi.apart ops om = true := fun m om hm hmi hun hno => by
    refine hfree m om hm hmi ?_ hno
    by_cases hjm : j = m
    ·subst hjm; exact hjun
    ·rw [getD_set_ne true hjm] at hun; exact hun
   refine wpOp_mono (fun a' w' h3 => ⟨h3.2.1, ih (listed.setIfInBounds j true) a' w' (fun m hm => ?_) (fun m hm => ?_) hfree' (ready_mono hr (Ne.symm hji)) h3.1 ?_⟩) h2
   ·by_cases e : m = j
    ·subst e; exact hsj
    ·rw [hset m e] at hm; exact hls m hm
   ·by_cases e : j = m
    ·subst e
     rcases Nat.lt_or_ge j listed.size with h' | h'
     ·simp [h']
     ·simp [h']
    ·rw [getD_set_ne true e]; exact hd m hm
   ·rw [Array.setIfInBounds_comm _ _ hji]
    exact h3.2.2
end
section
variable {P : Program} {l : List Oper} {Q : Exit → Act → World → Prop} {md : Region.Mode} {kb : Nat → Bool} {oi : Oper} {v : Value} {fuel : Nat} {listed : Array Bool} {a a' : Act} {w : World}
/-- An operation that reads no memory, whatever may come ahead of it. -/
theorem bN (i : Nat) (hi : l[i]? = some oi) (h : wpAnyR P md l.toArray Q kb fuel (listed.setIfInBounds i true) a' w)
  (hrun : ∀ w, (execOp a.eval oi).run P w = .ok (.value v) w := by (intro w; go_simp; (try with_reducible rfl))) (ha : a.put oi.dst v = a' := by first | (go_frame; rfl) | rfl) (hw : Region.wanted oi (yielded l.toArray a.tmps) = true := by first | rfl | kernel_rfl)
  (hb : (Region.noSelect l.toArray && Region.free md l.toArray listed i && (Region.ready md l.toArray listed).contains i && keepsR md l.toArray (fun _ => true) listed i) = true := by kernel_rfl)
  (hQ : ∀ c a w, Q (.panic c) (a.put oi.dst v) w → Q (.panic c) a w := by exact fun _ _ _ h => h) : wpAnyR P md l.toArray Q kb (fuel + 1) listed a w := by
 simp only [Bool.and_eq_true] at hb
 obtain ⟨s, hls, hcl⟩ := keepsR_spec hb.2
 exact wpAnyR_firstN s (fun j => listed.getD j false) (by rw [List.getElem?_toArray]; exact hi) (Region.noSelect_spec hb.1.1.1) hQ (fun j oj a b c => (hcl j oj a b c).1) fuel listed a w hls (fun j hj => by
  rcases Nat.lt_or_ge j listed.size with h' | h'
  ·simp [h'] at hj ⊢; exact hj
  ·simp [Array.getElem?_eq_none h'] at hj ⊢) (Region.free_spec (by rw [List.getElem?_toArray]; exact hi) hb.1.1.2) (by simpa using hb.1.2) (.inl ⟨hw, fun w _ => hrun w⟩) (ha ▸ h)
end
end Go.Proofs.Ytdadoelajhemjaa
