/- Words: an array of ints in a block; what flows. | Plain: what flows stays within its bounds. | Walks: flow. -/
import Derived.Test.YtegmniphgahblaaGreatM3
import Derived.Deep.MidRow
namespace Go.Proofs.YtegmniphgahblaaGreat
open Go.RowKit

/-- Block g is an array of n ints that reads as f. -/
def ArrAt (W : World) (g : Nat) (ty : TypeId) (n : Nat) (f : Nat → Int) : Prop := ∃ cs : Array Value, W.heap[g]? = some (.cells cs ty (0, 0)) ∧ cs.size = n ∧ ∀ j, j < n → cs[j]? = some (.int .i64 (f j))
section
variable {W W' : World} {g n : Nat} {ty : TypeId} {f : Nat → Int}
theorem ArrAt.cell (h : ArrAt W g ty n f) {j : Nat} (hj : j < n) : W.cell? ⟨g, j, none⟩ = some (.int .i64 (f j)) := by
 obtain ⟨cs, h1, _, h3⟩ := h
 rw [cell_row h1, h3 j hj]
theorem ArrAt.frozen (h : ArrAt W g ty n f) (j : Nat) : W.frozen? ⟨g, j, none⟩ = false := by
 obtain ⟨cs, h1, _⟩ := h
 simp [World.frozen?, h1]
theorem ArrAt.lt (h : ArrAt W g ty n f) : g < W.heap.size := by
 obtain ⟨cs, h1, _⟩ := h
 exact (Array.getElem?_eq_some_iff.1 h1).1
theorem ArrAt.block (h : ArrAt W g ty n f) (hb : W'.heap[g]? = W.heap[g]?) : ArrAt W' g ty n f := by
 obtain ⟨cs, h1, h2⟩ := h
 exact ⟨cs, hb.trans h1, h2⟩
theorem ArrAt.kept {row : Option Nat} (h : ArrAt W g ty n f) (hg : W.grownBy W' row) (hr : ∀ r, row = some r → ∃ o : Obj, W.heap[r]? = some o ∧ o.isCells = false) : ArrAt W' g ty n f := by
 obtain ⟨cs, h1, h2⟩ := h
 exact ⟨cs, heap_kept h1 rfl hg hr, h2⟩
theorem ArrAt.below {m : Nat} (h : ArrAt W g ty n f) (hb : Below m W W') (hl : g < m) : ArrAt W' g ty n f := h.block (hb.block g hl)
theorem ArrAt.other (h : ArrAt W g ty n f) (p : Addr) (v : Value) (hne : g ≠ p.block) : ArrAt (W.setCell p v) g ty n f := h.block (Below.heap_setCell _ _ _ _ hne)
/-- f, but x at i. -/
def put (f : Nat → Int) (i : Nat) (x : Int) (j : Nat) : Int := if j = i then x else f j
theorem ArrAt.set (h : ArrAt W g ty n f) {i : Nat} (hi : i < n) (x : Int) : ArrAt (W.setCell ⟨g, i, none⟩ (.int .i64 x)) g ty n (put f i x) := by
 obtain ⟨cs, h1, h2, h3⟩ := h
 refine ⟨cs.setIfInBounds i (.int .i64 x), ?_, by rw [Array.size_setIfInBounds]; exact h2, fun j hj => ?_⟩
 ·exact heap_setCell_same _ _ _ _ _ _ h1
 ·rw [Array.getElem?_setIfInBounds]
  unfold put
  by_cases e : i = j
  ·subst e; rw [if_pos rfl, if_pos (by omega), if_pos rfl]
  ·rw [if_neg e, if_neg (Ne.symm e)]; exact h3 j hj
/-- f, but the list from o on. -/
def puts (f : Nat → Int) : Nat → List Int → Nat → Int
 | _, [] => f
 | o, x :: r => puts (put f o x) (o + 1) r
theorem ArrAt.sets : ∀ (xs : List Int) (o : Nat) (W : World) (f : Nat → Int), ArrAt W g ty n f → o + xs.length ≤ n → ArrAt (W.setCells g o (xs.map (Value.int .i64))) g ty n (puts f o xs)
 | [], _, _, _, h, _ => h
 | x :: r, o, W, f, h, hn => by
  rw [List.map_cons, World.setCells]
  exact ArrAt.sets r (o + 1) _ _ (h.set (by simp at hn; omega) x) (by simp at hn; omega)
theorem puts_at : ∀ (xs : List Int) (f : Nat → Int) (o j : Nat), puts f o xs j = if o ≤ j ∧ j < o + xs.length then nth xs (j - o) else f j
 | [], f, o, j => by simp [puts]; omega
 | x :: r, f, o, j => by
  rw [puts, puts_at r]
  by_cases h1 : o + 1 ≤ j ∧ j < o + 1 + r.length
  ·rw [if_pos h1, if_pos (by simp; omega)]
   have : j - o = (j - (o + 1)) + 1 := by omega
   rw [this]; simp [nth]
  ·rw [if_neg h1]
   unfold put
   by_cases h2 : j = o
   ·subst h2; rw [if_pos rfl, if_pos (by simp)]; simp [nth]
   ·rw [if_neg h2, if_neg (by simp; omega)]
theorem ArrAt.range (h : ArrAt W g ty n f) (o m : Nat) (hm : o + m ≤ n) : W.rangeAt g o ((List.range m).map fun j => Value.int .i64 (f (o + j))) := fun j v hv => by
 rw [List.getElem?_map] at hv
 by_cases hj : j < m
 ·rw [List.getElem?_range hj] at hv
  cases hv
  exact h.cell (by omega)
 ·rw [List.getElem?_eq_none (by simpa using hj)] at hv; cases hv
theorem ArrAt.there (h : ArrAt W g ty n f) (o m : Nat) (hm : o + m ≤ n) : W.there g o m := fun j hj => ⟨by rw [h.cell (show o + j < n by omega)]; rfl, h.frozen _⟩
end

theorem zero123 : Tryz.zeroCells95 = (List.replicate 77 (Value.int .i64 0)).toArray := by kernel_rfl
theorem arr_zero (W : World) (n : Nat) (ty : TypeId) : ArrAt (W.alloc (.cells (List.replicate n (Value.int .i64 0)).toArray ty)) W.heap.size ty n (fun _ => 0) :=
 ⟨_, World.alloc_heap_new W _, by simp, fun j hj => by simp [hj]⟩

/-- What the river gives each carrier, told of the first k heads. -/
def beginTo (hs : List Nat) (ri : List Int) : Nat → Nat → Int
 | 0 => fun _ => 0
 | k + 1 => put (beginTo hs ri k) (hs.getD k 0) (nth ri k)
/-- The state ahead of the first outlet. -/
def flow0 (ws : List Car) (s : Wt) : Nat → Int := puts (fun _ => 0) 60 ((List.range 16).map fun j => beginTo (headsTo ws ws.length) s.ri (headsTo ws ws.length).length j)
def lossOf (s : Wt) (f : Nat → Int) (c x : Nat) : Int := min (f (60 + c)) (nth s.lo x)
def thrOf (ws : List Car) (s : Wt) (f : Nat → Int) (c x : Nat) : Int := min (f (60 + c) - lossOf s f c x) (nth (oAt (outs ws) x).ps (nth s.bo x).toNat + nth s.lk x)
/-- One outlet more. -/
def flowStep (ws : List Car) (s : Wt) (f : Nat → Int) (x : Nat) : Nat → Int :=
 let c := caAt ws x
 let l := lossOf s f c x
 let t := thrOf ws s f c x
 let f3 := put (put (put f 76 (f 76 + l)) x t) (60 + c) (f (60 + c) - l - t)
 if 0 ≤ (oAt (outs ws) x).into then put f3 (60 + (oAt (outs ws) x).into.toNat) t else f3
def flowL (ws : List Car) (s : Wt) (l : List (Fin (outs ws).length)) : Nat → Int := l.foldl (fun f x => flowStep ws s f x.1) (flow0 ws s)
theorem flowL_snoc (ws : List Car) (s : Wt) (l : List (Fin (outs ws).length)) (x : Fin (outs ws).length) : flowL ws s (l ++ [x]) = flowStep ws s (flowL ws s l) x.1 := by simp [flowL]
/-- What flows: through each outlet, at the end of each carrier (60 on), and what is lost (76). -/
def flowF (ws : List Car) (s : Wt) : Nat → Int := flowL ws s (List.finRange (outs ws).length)
def flV (f : Nat → Int) : Value := .agg ((List.range 77).map fun j => Value.int .i64 (f j)).toArray
end Go.Proofs.YtegmniphgahblaaGreat
namespace Go.Proofs.YtegmniphgahblaaGreat
open Go.RowKit

/-- Water that fits works. -/
structure Ok (ws : List Car) (s : Wt) : Prop where
 l0 : s.ri.length = (headsTo ws ws.length).length
 l1 : s.bo.length = (outs ws).length
 l2 : s.lk.length = (outs ws).length
 l3 : s.lo.length = (outs ws).length
 r0 : ∀ i, i < s.ri.length → 0 ≤ nth s.ri i ∧ nth s.ri i ≤ 1048576
 r1 : ∀ i, i < (outs ws).length → 0 ≤ nth s.bo i ∧ nth s.bo i ≤ ((oAt (outs ws) i).ps.length : Int) - 1
 r2 : ∀ i, i < (outs ws).length → (oAt (outs ws) i).kl ≤ nth s.lk i ∧ nth s.lk i ≤ (oAt (outs ws) i).kh
 r3 : ∀ i, i < (outs ws).length → (oAt (outs ws) i).sl ≤ nth s.lo i ∧ nth s.lo i ≤ (oAt (outs ws) i).sh
theorem allB_iff {xs : List Int} {n : Nat} {p : Nat → Int → Bool} : allB xs n p = true ↔ xs.length = n ∧ ∀ i, i < xs.length → p i (nth xs i) = true := by
 unfold allB
 rw [Bool.and_eq_true, decide_eq_true_eq, List.all_eq_true]
 exact ⟨fun ⟨a, b⟩ => ⟨a, fun i hi => b i (by simpa using hi)⟩, fun ⟨a, b⟩ => ⟨a, fun i hi => b i (by simpa using hi)⟩⟩
theorem within_iff {n lo hi : Int} : withinB n lo hi = true ↔ lo ≤ n ∧ n ≤ hi := by unfold withinB; simp
theorem ok_of_water {ws : List Car} {s : Wt} (h : waterE ws s = 0) : Ok ws s := by
 have hb : waterB ws s = true := by
  unfold waterE at h
  split at h
  ·assumption
  ·cases h
 unfold waterB at hb
 simp only [Bool.and_eq_true] at hb
 obtain ⟨⟨⟨h0, h1⟩, h2⟩, h3⟩ := hb
 unfold wB0 at h0; unfold wB1 at h1; unfold wB2 at h2; unfold wB3 at h3
 rw [allB_iff] at h0 h1 h2 h3
 exact ⟨h0.1, h1.1, h2.1, h3.1, fun i hi => within_iff.1 (h0.2 i hi), fun i hi => within_iff.1 (h1.2 i (by omega)), fun i hi => within_iff.1 (h2.2 i (by omega)), fun i hi => within_iff.1 (h3.2 i (by omega))⟩

/-- What is known of a right outlet. -/
structure Fine (ws : List Car) (i : Nat) : Prop where
 ca : caAt ws i < 16
 into : (oAt (outs ws) i).into = -1 ∨ ((caAt ws i : Int) + 1 ≤ (oAt (outs ws) i).into ∧ (oAt (outs ws) i).into ≤ (ws.length : Int) - 1)
 n : 1 ≤ (oAt (outs ws) i).ps.length ∧ (oAt (outs ws) i).ps.length ≤ 8
 k : 0 ≤ (oAt (outs ws) i).kl ∧ (oAt (outs ws) i).kl ≤ (oAt (outs ws) i).kh ∧ (oAt (outs ws) i).kh ≤ 1048576
 s : 0 ≤ (oAt (outs ws) i).sl ∧ (oAt (outs ws) i).sl ≤ (oAt (outs ws) i).sh ∧ (oAt (outs ws) i).sh ≤ 1048576
 p : ∀ j, j < (oAt (outs ws) i).ps.length → 0 ≤ nth (oAt (outs ws) i).ps j ∧ nth (oAt (outs ws) i).ps j ≤ 1048576
theorem Good.fine {ws : List Car} (g : Good ws) {i : Nat} (hi : i < (outs ws).length) : Fine ws i := by
 have h := g.right i hi
 unfold rightB headB at h
 simp only [Bool.and_eq_true] at h
 obtain ⟨⟨⟨⟨⟨h1, h2⟩, h3⟩, h4⟩, h5⟩, h6⟩ := h
 unfold spanB at h4 h5
 rw [decide_eq_true_eq] at h4 h5
 have hc := caAt_lt hi
 have := g.n1
 refine ⟨by omega, ?_, by have := within_iff.1 h3; omega, h4, h5, fun j hj => ?_⟩
 ·rcases Bool.or_eq_true_iff.1 h2 with h2 | h2
  ·exact .inl (by simpa using h2)
  ·exact .inr (within_iff.1 h2)
 ·have := incB_iff.1 h6 j hj
  unfold incAt at this
  rw [Bool.and_eq_true] at this
  exact within_iff.1 this.1

theorem begin_bounds {ws : List Car} {s : Wt} (ok : Ok ws s) : ∀ k, k ≤ s.ri.length → ∀ j, 0 ≤ beginTo (headsTo ws ws.length) s.ri k j ∧ beginTo (headsTo ws ws.length) s.ri k j ≤ 1048576
 | 0, _, j => by unfold beginTo; omega
 | k + 1, hk, j => by
  unfold beginTo put
  split
  ·exact ok.r0 k (by omega)
  ·exact begin_bounds ok k (by omega) j
theorem flow0_at (ws : List Car) (s : Wt) (j : Nat) : flow0 ws s j = if 60 ≤ j ∧ j < 76 then beginTo (headsTo ws ws.length) s.ri (headsTo ws ws.length).length (j - 60) else 0 := by
 unfold flow0
 rw [puts_at]
 by_cases h : 60 ≤ j ∧ j < 76
 ·rw [if_pos (by simpa using h), if_pos h]
  have : j - 60 < 16 := by omega
  simp [nth, List.getD_eq_getElem?_getD, List.getElem?_range this]
 ·rw [if_neg (by simpa using h), if_neg h]
/-- A state within bounds. -/
structure Bnd (f : Nat → Int) (k : Nat) : Prop where
 t : ∀ j, j < 16 → 0 ≤ f (60 + j) ∧ f (60 + j) ≤ 1048576
 l : 0 ≤ f 76 ∧ f 76 ≤ k * 1048576
theorem step_vals {ws : List Car} {s : Wt} (g : Good ws) (ok : Ok ws s) {f : Nat → Int} {k : Nat} (h : Bnd f k) {x : Nat} (hx : x < (outs ws).length) :
  0 ≤ lossOf s f (caAt ws x) x ∧ lossOf s f (caAt ws x) x ≤ f (60 + caAt ws x) ∧ 0 ≤ thrOf ws s f (caAt ws x) x ∧ thrOf ws s f (caAt ws x) x ≤ f (60 + caAt ws x) - lossOf s f (caAt ws x) x := by
 have hf := g.fine hx
 have ht := h.t _ hf.ca
 have h3 := ok.r3 x hx
 have h2 := ok.r2 x hx
 have h1 := ok.r1 x hx
 have hs := hf.s
 have hk := hf.k
 have hp := hf.p (nth s.bo x).toNat (by omega)
 unfold thrOf lossOf
 omega
theorem Bnd.step {ws : List Car} {s : Wt} (g : Good ws) (ok : Ok ws s) {f : Nat → Int} {k : Nat} (h : Bnd f k) {x : Nat} (hx : x < (outs ws).length) : Bnd (flowStep ws s f x) (k + 1) := by
 have hf := g.fine hx
 have hv := step_vals g ok h hx
 have ht := h.t _ hf.ca
 have hl := h.l
 have hn := g.n2
 have hca := hf.ca
 have hbase : Bnd (put (put (put f 76 (f 76 + lossOf s f (caAt ws x) x)) x (thrOf ws s f (caAt ws x) x)) (60 + caAt ws x) (f (60 + caAt ws x) - lossOf s f (caAt ws x) x - thrOf ws s f (caAt ws x) x)) (k + 1) := by
  refine ⟨fun j hj => ?_, ?_⟩
  ·unfold put
   split
   ·omega
   ·rw [if_neg (by omega), if_neg (by omega)]; exact h.t j hj
  ·unfold put
   rw [if_neg (by omega), if_neg (by omega), if_pos rfl]
   omega
 unfold flowStep
 dsimp only
 by_cases hi : 0 ≤ (oAt (outs ws) x).into
 ·rw [if_pos hi]
  refine ⟨fun j hj => ?_, ?_⟩
  ·unfold put
   split
   ·omega
   ·exact hbase.t j hj
  ·have hin := hf.into
   have := g.n1
   have e := hbase.l
   unfold put at e ⊢
   rw [if_neg (by omega)]
   exact e
 ·rw [if_neg hi]; exact hbase
theorem flow_bounds {ws : List Car} {s : Wt} (g : Good ws) (ok : Ok ws s) (l : List (Fin (outs ws).length)) : Bnd (flowL ws s l) l.length := by
 refine snoc_ind (Pr := fun l => Bnd (flowL ws s l) l.length) ?_ ?_ _ l rfl
 ·refine ⟨fun j hj => ?_, ?_⟩
  ·show 0 ≤ flow0 ws s (60 + j) ∧ flow0 ws s (60 + j) ≤ 1048576
   rw [flow0_at, if_pos (by omega)]
   exact begin_bounds ok _ (by rw [ok.l0]; exact Nat.le_refl _) _
  ·show 0 ≤ flow0 ws s 76 ∧ flow0 ws s 76 ≤ ((([] : List (Fin (outs ws).length)).length : Nat) : Int) * 1048576
   rw [flow0_at, if_neg (by omega)]
   simp
 ·intro l x ih
  rw [flowL_snoc, List.length_append]
  exact Bnd.step g ok ih x.2
end Go.Proofs.YtegmniphgahblaaGreat
namespace Go.Proofs.YtegmniphgahblaaGreat
open Go.RowKit Go.Shelf
attribute [local go_sem] Oper.semAt_some

/-- All blocks but one lie as they lay. -/
structure OnlyB (g : Nat) (W W' : World) : Prop where
 size : W'.heap.size = W.heap.size
 blk : ∀ k, k ≠ g → W'.heap[k]? = W.heap[k]?
 bl : Below g W W'
theorem OnlyB.cell {g b o : Nat} {W W' : World} (h : OnlyB g W W') (hb : b ≠ g) : W'.cell? ⟨b, o, none⟩ = W.cell? ⟨b, o, none⟩ := by simp [World.cell?, h.blk b hb]
theorem OnlyB.frozen {g b o : Nat} {W W' : World} (h : OnlyB g W W') (hb : b ≠ g) : W'.frozen? ⟨b, o, none⟩ = W.frozen? ⟨b, o, none⟩ := by simp [World.frozen?, h.blk b hb]
theorem OnlyB.set {g i : Nat} {W W' : World} (h : OnlyB g W W') (v : Value) : OnlyB g W (W'.setCell ⟨g, i, none⟩ v) :=
 ⟨by rw [World.size_setCell]; exact h.size, fun k hk => (Below.heap_setCell _ _ _ _ (by exact hk)).trans (h.blk k hk), h.bl.setCell (p := ⟨g, i, none⟩) (Nat.le_refl g) _⟩
theorem OnlyB.sets {g : Nat} {W : World} : ∀ (vs : List Value) (o : Nat) (W' : World), OnlyB g W W' → OnlyB g W (W'.setCells g o vs)
 | [], _, _, h => h
 | v :: r, o, W', h => by rw [World.setCells]; exact OnlyB.sets r (o + 1) _ (h.set v)
theorem nth_ints {l : List Nat} {k : Nat} (h : k < l.length) : nth (ints l) k = (l.getD k 0 : Int) := by
 simp [nth, ints, List.getD_eq_getElem?_getD, List.getElem?_eq_getElem h]
theorem headsTo_lt {ws : List Car} {n k : Nat} (h : k < (headsTo ws n).length) : (headsTo ws n).getD k 0 < n := by
 have : (headsTo ws n).getD k 0 ∈ headsTo ws n := by
  rw [List.getD_eq_getElem?_getD, List.getElem?_eq_getElem h]; exact List.getElem_mem h
 have h2 : (headsTo ws n).getD k 0 ∈ List.range n := by
  unfold headsTo at this ⊢
  exact (List.mem_filter.1 this).1
 exact List.mem_range.1 h2

theorem wpIn_op_load {F : Fence} {n : Nat} {P : Program} {op : Oper} {a : Act} {w : World} {K : Act → World → Prop} {Q : Exit → Act → World → Prop} {p v : Value} (hF : ∀ f, F.fn f) (ty : TypeId) (x : Operand) (ho : op.op = .load ty x) (hx : a.eval x = p)
  (hl : (Instr.loadAt ty p).run P w = .ok v w) (h : K (a.put op.dst v) w) : Oper.wpIn F n P op a w K Q := by
 unfold Oper.wpIn
 refine ⟨fun f _ => hF f, ?_⟩
 rw [Oper.semAt_eq _ _ _ (fun c => by rw [ho]; intro e; cases e)]
 have e : (execOp a.eval op).run P w = .ok (.value v) w := by
  unfold execOp
  rw [ho]
  simp only [hx, Sem.run_bind, hl, Result.andThen_ok, Sem.run_pure]
 rw [e]
 exact h
theorem wpIn_op_store {F : Fence} {n : Nat} {P : Program} {op : Oper} {a : Act} {w w' : World} {K : Act → World → Prop} {Q : Exit → Act → World → Prop} {p v : Value} (hF : ∀ f, F.fn f) (ty : TypeId) (x y : Operand) (ho : op.op = .store ty x y) (hx : a.eval x = p) (hy : a.eval y = v)
  (hl : (Instr.storeAt ty p v).run P w = .ok () w') (h : K (a.put op.dst undef) w') : Oper.wpIn F n P op a w K Q := by
 unfold Oper.wpIn
 refine ⟨fun f _ => hF f, ?_⟩
 rw [Oper.semAt_eq _ _ _ (fun c => by rw [ho]; intro e; cases e)]
 have e : (execOp a.eval op).run P w = .ok .skip w' := by
  unfold execOp
  rw [ho]
  simp only [hx, hy, Sem.run_bind, hl, Result.andThen_ok, Sem.run_pure]
 rw [e]
 exact h

theorem results_cell1 {P : Program} {fn : Func} {p : Tmp} {ty : TypeId} (h : fn.results = #[.cell p ty]) (tmps : Array Value) (w : World) (q : Addr) (v : Value) (hp : tmps.getD p undef = .pointer (some q))
  (hl : (loadVar ty q).run P w = .ok v w) : (results fn tmps).run P w = .ok v w := by
 have hp' : tmps[p]?.getD undef = .pointer (some q) := by simpa using hp
 simp [results, h, hp', asAddr, hl]

/-- What the loop of flow keeps. -/
structure FlI (w : World) (ws : List Car) (s : Wt) (pre : List (Fin (outs ws).length)) (W : World) : Prop where
 a3 : ArrAt W (w.heap.size + 1 + 1 + 1) 95 77 (flowL ws s pre)
 a2 : ArrAt W (w.heap.size + 1 + 1) 95 77 (fun _ => 0)
 p1 : Blk W (w.heap.size + 1) #[.slice s.A0 s.ri.length s.c0, .slice s.A1 s.bo.length s.c1, .slice s.A2 s.lk.length s.c2, .slice s.A3 s.lo.length s.c3] 30
 bl : Below w.heap.size w W
 lt : w.heap.size + 6 ≤ W.heap.size
theorem FlI.kept {w : World} {ws : List Car} {s : Wt} {pre : List (Fin (outs ws).length)} {W W' : World} {row : Option Nat} (h : FlI w ws s pre W) (hg : W.grownBy W' row) (hr : ∀ r, row = some r → w.heap.size + 6 ≤ r ∧ ∃ o : Obj, W.heap[r]? = some o ∧ o.isCells = false) : FlI w ws s pre W' := by
 have hr2 := fun r e => (hr r e).2
 exact ⟨h.a3.kept hg hr2, h.a2.kept hg hr2, h.p1.kept hg hr2, h.bl.grown hg h.bl.size (fun k e => by have := (hr k e).1; omega), Nat.le_trans h.lt hg.size⟩

/-- The world behind a round, and what is told to a carrier that is fed. -/
def flW (g : Nat) (W : World) (x c : Nat) (a t d : Int) : World := ((W.drew.setCell ⟨g, 76, none⟩ (.int .i64 a)).setCell ⟨g, x, none⟩ (.int .i64 t)).setCell ⟨g, 60 + c, none⟩ (.int .i64 d)
theorem FlI.stores {w : World} {ws : List Car} {s : Wt} {pre : List (Fin (outs ws).length)} {W : World} (h : FlI w ws s pre W) (gd : Good ws) {x : Fin (outs ws).length} {a t d : Int} (f' : Nat → Int)
  (hf : f' = put (put (put (flowL ws s pre) 76 a) x.1 t) (60 + caAt ws x.1) d) :
  ArrAt (flW (w.heap.size + 1 + 1 + 1) W x.1 (caAt ws x.1) a t d) (w.heap.size + 1 + 1 + 1) 95 77 f' ∧ ArrAt (flW (w.heap.size + 1 + 1 + 1) W x.1 (caAt ws x.1) a t d) (w.heap.size + 1 + 1) 95 77 (fun _ => 0) ∧
  Blk (flW (w.heap.size + 1 + 1 + 1) W x.1 (caAt ws x.1) a t d) (w.heap.size + 1) #[.slice s.A0 s.ri.length s.c0, .slice s.A1 s.bo.length s.c1, .slice s.A2 s.lk.length s.c2, .slice s.A3 s.lo.length s.c3] 30 ∧
  Below w.heap.size W (flW (w.heap.size + 1 + 1 + 1) W x.1 (caAt ws x.1) a t d) ∧ (flW (w.heap.size + 1 + 1 + 1) W x.1 (caAt ws x.1) a t d).heap.size = W.heap.size ∧ KeepsOthers W (flW (w.heap.size + 1 + 1 + 1) W x.1 (caAt ws x.1) a t d) := by
 have hc := (gd.fine x.2).ca
 have hx := x.2
 have hn := gd.n2
 subst hf
 unfold flW
 refine ⟨((ArrAt.set (ArrAt.block h.a3 (W' := W.drew) rfl) (by omega) a).set (by omega) t).set (by omega) d, ((ArrAt.other (ArrAt.block h.a2 (W' := W.drew) rfl) _ _ (by show w.heap.size + 1 + 1 ≠ w.heap.size + 1 + 1 + 1; omega)).other _ _ (by show w.heap.size + 1 + 1 ≠ w.heap.size + 1 + 1 + 1; omega)).other _ _ (by show w.heap.size + 1 + 1 ≠ w.heap.size + 1 + 1 + 1; omega), ?_, ?_, by simp only [World.size_setCell]; rfl, ((KeepsOthers.drew W).trans (KeepsOthers.setCell _ _ _)).trans ((KeepsOthers.setCell _ _ _).trans (KeepsOthers.setCell _ _ _))⟩
 ·exact (Below.heap_setCell _ _ _ _ (by show w.heap.size + 1 ≠ w.heap.size + 1 + 1 + 1; omega)).trans ((Below.heap_setCell _ _ _ _ (by show w.heap.size + 1 ≠ w.heap.size + 1 + 1 + 1; omega)).trans ((Below.heap_setCell _ _ _ _ (by show w.heap.size + 1 ≠ w.heap.size + 1 + 1 + 1; omega)).trans h.p1))
 ·exact ((((Below.refl _ W).drew).setCell (p := ⟨w.heap.size + 1 + 1 + 1, 76, none⟩) (by show w.heap.size ≤ w.heap.size + 1 + 1 + 1; omega) _).setCell (p := ⟨w.heap.size + 1 + 1 + 1, x.1, none⟩) (by show w.heap.size ≤ w.heap.size + 1 + 1 + 1; omega) _).setCell (p := ⟨w.heap.size + 1 + 1 + 1, 60 + caAt ws x.1, none⟩) (by show w.heap.size ≤ w.heap.size + 1 + 1 + 1; omega) _
theorem FlI.step1 {w : World} {ws : List Car} {s : Wt} {pre : List (Fin (outs ws).length)} {W : World} (h : FlI w ws s pre W) (gd : Good ws) {x : Fin (outs ws).length} (hi : ¬ 0 ≤ (oAt (outs ws) x.1).into) {a t d : Int}
  (ha : a = flowL ws s pre 76 + lossOf s (flowL ws s pre) (caAt ws x.1) x.1) (ht : t = thrOf ws s (flowL ws s pre) (caAt ws x.1) x.1) (hd : d = flowL ws s pre (60 + caAt ws x.1) - lossOf s (flowL ws s pre) (caAt ws x.1) x.1 - t) :
  KeepsOthers W (flW (w.heap.size + 1 + 1 + 1) W x.1 (caAt ws x.1) a t d) ∧ Below w.heap.size W (flW (w.heap.size + 1 + 1 + 1) W x.1 (caAt ws x.1) a t d) ∧ FlI w ws s (pre ++ [x]) (flW (w.heap.size + 1 + 1 + 1) W x.1 (caAt ws x.1) a t d) := by
 have e : flowL ws s (pre ++ [x]) = put (put (put (flowL ws s pre) 76 a) x.1 t) (60 + caAt ws x.1) d := by
  rw [flowL_snoc]; unfold flowStep; dsimp only; rw [if_neg hi, ha, ht, hd, ht]
 obtain ⟨h1, h2, h3, h4, h5, h6⟩ := h.stores gd (f' := flowL ws s (pre ++ [x])) e
 exact ⟨h6, h4, h1, h2, h3, h.bl.trans h4, by rw [h5]; exact h.lt⟩
theorem FlI.step2 {w : World} {ws : List Car} {s : Wt} {pre : List (Fin (outs ws).length)} {W : World} (h : FlI w ws s pre W) (gd : Good ws) {x : Fin (outs ws).length} {q : Nat} (hi : (oAt (outs ws) x.1).into = (q : Int)) {a t d : Int}
  (ha : a = flowL ws s pre 76 + lossOf s (flowL ws s pre) (caAt ws x.1) x.1) (ht : t = thrOf ws s (flowL ws s pre) (caAt ws x.1) x.1) (hd : d = flowL ws s pre (60 + caAt ws x.1) - lossOf s (flowL ws s pre) (caAt ws x.1) x.1 - t) :
  KeepsOthers W ((flW (w.heap.size + 1 + 1 + 1) W x.1 (caAt ws x.1) a t d).setCell ⟨w.heap.size + 1 + 1 + 1, 60 + q, none⟩ (.int .i64 t)) ∧ Below w.heap.size W ((flW (w.heap.size + 1 + 1 + 1) W x.1 (caAt ws x.1) a t d).setCell ⟨w.heap.size + 1 + 1 + 1, 60 + q, none⟩ (.int .i64 t)) ∧
   FlI w ws s (pre ++ [x]) ((flW (w.heap.size + 1 + 1 + 1) W x.1 (caAt ws x.1) a t d).setCell ⟨w.heap.size + 1 + 1 + 1, 60 + q, none⟩ (.int .i64 t)) := by
 have e : flowL ws s (pre ++ [x]) = put (put (put (put (flowL ws s pre) 76 a) x.1 t) (60 + caAt ws x.1) d) (60 + q) t := by
  rw [flowL_snoc]; unfold flowStep; dsimp only; rw [if_pos (by omega), hi, ha, ht, hd, ht]; rfl
 have hq : q < 16 := by have h1 := (gd.fine x.2).into; have := gd.n1; omega
 obtain ⟨h1, h2, h3, h4, h5, h6⟩ := h.stores gd (x := x) (a := a) (t := t) (d := d) _ rfl
 have hB := h4.setCell (p := ⟨w.heap.size + 1 + 1 + 1, 60 + q, none⟩) (by show w.heap.size ≤ w.heap.size + 1 + 1 + 1; omega) (.int .i64 t)
 refine ⟨h6.trans (KeepsOthers.setCell _ _ _), hB, ?_, h2.other _ _ (by show w.heap.size + 1 + 1 ≠ w.heap.size + 1 + 1 + 1; omega), (Below.heap_setCell _ _ _ _ (by show w.heap.size + 1 ≠ w.heap.size + 1 + 1 + 1; omega)).trans h3, h.bl.trans hB, by rw [World.size_setCell, h5]; exact h.lt⟩
 rw [e]
 exact h1.set (by omega) t

set_option maxRecDepth 100000 in
set_option maxHeartbeats 2000000 in
theorem flow_in (n : Nat) (hn : 3 ≤ n) (A : Option Addr) (c : Nat) (ws : List Car) (s : Wt) (w : World) (hW : Wk w A ws) (g : Good ws) (hs : Wet w s) (ok : Ok ws s) :
  CallsIn Fence.wide n Tryz.prog 41 #[.agg #[.slice A ws.length c], s.v] w fun e w' => e = .returned (flV (flowF ws s)) ∧ Below w.heap.size w w' := by
 have h := hW.rd
 have hm : ws.length ≤ maxLen := by have := hW.n1; unfold maxLen; omega
 have hN : (outs ws).length ≤ 1000000000 := by have := hW.n2; omega
 have h1 : 1 ≤ n := by omega
 refine callsIn_of_wp_marks Tryz.func41 rfl trivial ?_ rfl
 obtain ⟨A0, A1, A2, A3, c0, c1, c2, c3, ri, bo, lk, lo⟩ := s
 unfold Wt.v
 dsimp only
 simp only [Tryz.ntmps41, List.size_toArray, List.length_cons, List.length_nil, Nat.reduceAdd, Nat.reduceSub, Array.replicate_succ, Array.replicate_zero, List.push_toArray, List.append_toArray, List.nil_append, List.cons_append]
 gi_wp2
 refine ⟨trivial, ?_⟩
 rw [zero123]
 have e16 : (#[.int .i64 0, .int .i64 0, .int .i64 0, .int .i64 0, .int .i64 0, .int .i64 0, .int .i64 0, .int .i64 0, .int .i64 0, .int .i64 0, .int .i64 0, .int .i64 0, .int .i64 0, .int .i64 0, .int .i64 0, .int .i64 0] : Array Value) = (List.replicate 16 (Value.int .i64 0)).toArray := rfl
 rw [e16]
 have hb1 : Below w.heap.size w (((((w.alloc (.cells #[.slice A ws.length c] 24)).alloc (.cells #[.slice A0 ri.length c0, .slice A1 bo.length c1, .slice A2 lk.length c2, .slice A3 lo.length c3] 30)).alloc (.cells (List.replicate 77 (Value.int .i64 0)).toArray 95)).alloc (.cells (List.replicate 77 (Value.int .i64 0)).toArray 95)).alloc (.cells (List.replicate 16 (Value.int .i64 0)).toArray 93)) :=
  (((((Below.refl _ w).alloc (Nat.le_refl _) _).alloc (by simp) _).alloc (by simp; omega) _).alloc (by simp; omega) _).alloc (by simp; omega) _
 have al : ∀ {W : World} {g n : Nat} {ty : TypeId} {f : Nat → Int} (o : Obj), ArrAt W g ty n f → ArrAt (W.alloc o) g ty n f := fun o h => h.kept (World.grownBy_alloc _ o none) (fun _ e => by cases e)
 have a2 := al (.cells (List.replicate 16 (Value.int .i64 0)).toArray 93) (al (.cells (List.replicate 77 (Value.int .i64 0)).toArray 95) (arr_zero ((w.alloc (.cells #[.slice A ws.length c] 24)).alloc (.cells #[.slice A0 ri.length c0, .slice A1 bo.length c1, .slice A2 lk.length c2, .slice A3 lo.length c3] 30)) 77 95))
 have a3 := al (.cells (List.replicate 16 (Value.int .i64 0)).toArray 93) (arr_zero (((w.alloc (.cells #[.slice A ws.length c] 24)).alloc (.cells #[.slice A0 ri.length c0, .slice A1 bo.length c1, .slice A2 lk.length c2, .slice A3 lo.length c3] 30)).alloc (.cells (List.replicate 77 (Value.int .i64 0)).toArray 95)) 77 95)
 have a4 := arr_zero ((((w.alloc (.cells #[.slice A ws.length c] 24)).alloc (.cells #[.slice A0 ri.length c0, .slice A1 bo.length c1, .slice A2 lk.length c2, .slice A3 lo.length c3] 30)).alloc (.cells (List.replicate 77 (Value.int .i64 0)).toArray 95)).alloc (.cells (List.replicate 77 (Value.int .i64 0)).toArray 95)) 16 93
 have q0 : Blk (((((w.alloc (.cells #[.slice A ws.length c] 24)).alloc (.cells #[.slice A0 ri.length c0, .slice A1 bo.length c1, .slice A2 lk.length c2, .slice A3 lo.length c3] 30)).alloc (.cells (List.replicate 77 (Value.int .i64 0)).toArray 95)).alloc (.cells (List.replicate 77 (Value.int .i64 0)).toArray 95)).alloc (.cells (List.replicate 16 (Value.int .i64 0)).toArray 93)) w.heap.size #[.slice A ws.length c] 24 :=
  blk_alloc (blk_alloc (blk_alloc (blk_alloc (blk_new _ _ _ rfl) _) _) _) _
 have q1 : Blk (((((w.alloc (.cells #[.slice A ws.length c] 24)).alloc (.cells #[.slice A0 ri.length c0, .slice A1 bo.length c1, .slice A2 lk.length c2, .slice A3 lo.length c3] 30)).alloc (.cells (List.replicate 77 (Value.int .i64 0)).toArray 95)).alloc (.cells (List.replicate 77 (Value.int .i64 0)).toArray 95)).alloc (.cells (List.replicate 16 (Value.int .i64 0)).toArray 93)) (w.heap.size + 1) #[.slice A0 ri.length c0, .slice A1 bo.length c1, .slice A2 lk.length c2, .slice A3 lo.length c3] 30 :=
  blk_alloc (blk_alloc (blk_alloc (blk_new _ _ _ (by simp)) _) _) _
 have hsz : (((((w.alloc (.cells #[.slice A ws.length c] 24)).alloc (.cells #[.slice A0 ri.length c0, .slice A1 bo.length c1, .slice A2 lk.length c2, .slice A3 lo.length c3] 30)).alloc (.cells (List.replicate 77 (Value.int .i64 0)).toArray 95)).alloc (.cells (List.replicate 77 (Value.int .i64 0)).toArray 95)).alloc (.cells (List.replicate 16 (Value.int .i64 0)).toArray 93)).heap.size = w.heap.size + 5 := by simp
 simp only [World.size_alloc] at a2 a3 a4
 generalize hgW : (((((w.alloc (.cells #[.slice A ws.length c] 24)).alloc (.cells #[.slice A0 ri.length c0, .slice A1 bo.length c1, .slice A2 lk.length c2, .slice A3 lo.length c3] 30)).alloc (.cells (List.replicate 77 (Value.int .i64 0)).toArray 95)).alloc (.cells (List.replicate 77 (Value.int .i64 0)).toArray 95)).alloc (.cells (List.replicate 16 (Value.int .i64 0)).toArray 93)) = W1 at *
 clear hgW al e16
 refine (callsIn_wide.2 (heads_any A c ws W1 (hW.ext hb1) g)).mono ?_
 rintro e w1 ⟨A9, c9, rfl, hr9, hf9, hbh⟩
 rw [ints_length]
 have hsz1 := hbh.size
 have HB := hd5 (hb1.trans (hbh.mono hb1.size)) (a2.below hbh (by omega)) (a3.below hbh (by omega)) ((hbh.block w.heap.size (by omega)).trans q0) ((hbh.block (w.heap.size + 1) (by omega)).trans q1)
 have b4 := a4.below hbh (by omega)
 have HR := hd2 hr9 hf9
 have HS := Lib.hid hs
 have HOk := Lib.hid ok
 have hle := headsTo_le ws ws.length
 have hle2 := g.n1
 clear hr9 hf9 hbh a2 a3 a4 q0 q1 hb1 hs ok
 gi_wp2
 gi_loopw [7, 8, 17] (fun _ _ i wr => ∃ k : Nat, k ≤ (headsTo ws ws.length).length ∧ i = .int .i64 k ∧ ArrAt wr (w.heap.size + 1 + 1 + 1 + 1) 93 16 (beginTo (headsTo ws ws.length) ri k) ∧ OnlyB (w.heap.size + 1 + 1 + 1 + 1) w1 wr)
  (fun _ _ i _ => (headsTo ws ws.length).length - (intOf i).toNat)
 case atStart => exact ⟨0, Nat.zero_le _, rfl, b4, rfl, fun _ _ => rfl, Below.refl _ _⟩
 case round =>
  obtain ⟨k, hk, rfl, hA, hO⟩ := hrel
  by_cases hlt : k < (headsTo ws ws.length).length
  ·have hltz : (k : Int) < ((headsTo ws ws.length).length : Int) := by omega
   obtain ⟨b9, o9, rfl, lb9, hc9⟩ := HR.out.1 (by rw [ints_length]; omega)
   have hfb := HR.out.2 _ rfl
   dsimp only at hfb
   have k9 := (hO.cell (b := b9) (o := o9 + k) (by omega)).trans (hc9 k (by rw [ints_length]; exact hlt))
   rw [nth_ints hlt] at k9
   have hh := headsTo_lt hlt
   have hln := HOk.out.l0
   dsimp only at hln
   obtain ⟨b0, o0, e0, lb0, hc0⟩ := HS.out.r0 (by show 0 < ri.length; omega)
   dsimp only at e0 hc0
   have k0 := (hO.cell (b := b0) (o := o0 + k) (by omega)).trans ((HB.out.1.cell (p := ⟨b0, o0 + k, none⟩) lb0).trans (hc0 k (by omega)))
   have w0 : wr.cell? ⟨w.heap.size + 1, 0, none⟩ = some (.slice (some ⟨b0, o0, none⟩) ri.length c0) := (hO.cell (by omega)).trans ((cell_row HB.out.2.2.2.2).trans (by rw [e0]; rfl))
   have hz : (k : Int) < (ri.length : Int) := by omega
   generalize hhd : (headsTo ws ws.length).getD k 0 = hd at *
   have hd1 : (hd : Int) < 16 := by omega
   have c4 := hA.cell (show hd < 16 by omega)
   have f4 := hA.frozen hd
   have hst := hA.set (show hd < 16 by omega) (nth ri k)
   have HN : Hid (ArrAt (wr.setCell ⟨w.heap.size + 1 + 1 + 1 + 1, hd, none⟩ (.int .i64 (nth ri k))) (w.heap.size + 1 + 1 + 1 + 1) 93 16 (beginTo (headsTo ws ws.length) ri (k + 1))) := Lib.hid (by
    have e : beginTo (headsTo ws ws.length) ri (k + 1) = put (beginTo (headsTo ws ws.length) ri k) hd (nth ri k) := by rw [← hhd]; rfl
    rw [e]; exact hst)
   have HO := Lib.hid hO
   clear hc9 hc0 hst hO hA e0
   gi_wp2
   go_roundw
   case rel => exact ⟨k + 1, by omega, by simp, HN.out, HO.out.set _⟩
   case measure => simp [intOf]; omega
  ·have hltz : ¬ (k : Int) < ((headsTo ws ws.length).length : Int) := by omega
   obtain rfl : k = (headsTo ws ws.length).length := by omega
   have b3 : ArrAt wr (w.heap.size + 1 + 1 + 1) 95 77 (fun _ => 0) := HB.out.2.2.1.block (hO.blk _ (by omega))
   have b2 : ArrAt wr (w.heap.size + 1 + 1) 95 77 (fun _ => 0) := HB.out.2.1.block (hO.blk _ (by omega))
   have p0 : Blk wr w.heap.size #[.slice A ws.length c] 24 := (hO.blk _ (by omega)).trans HB.out.2.2.2.1
   have p1 : Blk wr (w.heap.size + 1) #[.slice A0 ri.length c0, .slice A1 bo.length c1, .slice A2 lk.length c2, .slice A3 lo.length c3] 30 := (hO.blk _ (by omega)).trans HB.out.2.2.2.2
   have hbw : Below w.heap.size w wr := HB.out.1.trans (hO.bl.mono (by omega))
   generalize hbg : beginTo (headsTo ws ws.length) ri (headsTo ws ws.length).length = bg at *
   have hcopy : ∀ ty, (Builtin.copy_ #[28, 28] ty #[.slice (some ⟨w.heap.size + 1 + 1 + 1, 60, none⟩) 16 16, .slice (some ⟨w.heap.size + 1 + 1 + 1 + 1, 0, none⟩) 16 16]).run Tryz.prog wr.drew = .ok (goInt 16) (wr.drew.setCells (w.heap.size + 1 + 1 + 1) 60 (((List.range 16).map bg).map (Value.int .i64))) := fun ty => by
    have := run_copy_cells (P := Tryz.prog) wr.drew 28 28 ty 3 (w.heap.size + 1 + 1 + 1) 60 16 16 ⟨w.heap.size + 1 + 1 + 1 + 1, 0, none⟩ 16 16 (((List.range 16).map bg).map (Value.int .i64)) Tryz.underlying28 (by kernel_rfl) (by simp)
     (fun j v hv => by
      rw [add_eq, Nat.zero_add]
      simp only [List.map_map, List.getElem?_map] at hv
      by_cases hj : j < 16
      ·rw [List.getElem?_range hj] at hv
       cases hv
       exact hA.cell hj
      ·rw [List.getElem?_eq_none (by simpa using hj)] at hv; cases hv)
     (fun j hj => by rw [show wr.drew.cell? _ = _ from b3.cell (show 60 + j < 77 by simp at hj; omega)]; rfl) (fun j _ => b3.frozen _) (ints_oneCell _ _)
    simpa using this
   have hO3 : OnlyB (w.heap.size + 1 + 1 + 1) wr (wr.drew.setCells (w.heap.size + 1 + 1 + 1) 60 (((List.range 16).map bg).map (Value.int .i64))) := OnlyB.sets _ _ _ ⟨rfl, fun _ _ => rfl, (Below.refl _ wr).drew⟩
   have b3' : ArrAt (wr.drew.setCells (w.heap.size + 1 + 1 + 1) 60 (((List.range 16).map bg).map (Value.int .i64))) (w.heap.size + 1 + 1 + 1) 95 77 (flow0 ws ⟨A0, A1, A2, A3, c0, c1, c2, c3, ri, bo, lk, lo⟩) := by
    have := ArrAt.sets ((List.range 16).map bg) 60 wr.drew (fun _ => 0) (b3.block (W' := wr.drew) rfl) (by simp)
    unfold flow0
    dsimp only
    rw [hbg]
    exact this
   have b2' := b2.block (W' := wr.drew.setCells (w.heap.size + 1 + 1 + 1) 60 (((List.range 16).map bg).map (Value.int .i64))) (hO3.blk _ (by omega))
   have p0' := (hO3.blk w.heap.size (by omega)).trans p0
   have p1' := (hO3.blk (w.heap.size + 1) (by omega)).trans p1
   have hbw' := hbw.trans (hO3.bl.mono (by omega))
   have hsz' : wr.heap.size = (wr.drew.setCells (w.heap.size + 1 + 1 + 1) 60 (((List.range 16).map bg).map (Value.int .i64))).heap.size := hO3.size.symm
   have hws : w.heap.size + 5 ≤ wr.heap.size := by rw [hO.size]; omega
   have hcd := hcopy
   obtain ⟨W4, hW4⟩ : ∃ W4, W4 = wr.drew.setCells (w.heap.size + 1 + 1 + 1) 60 (((List.range 16).map bg).map (Value.int .i64)) := ⟨_, rfl⟩
   rw [← hW4] at b3' b2' p0' p1' hbw' hsz' hcd
   have HF := hd7 b3' b2' p0' p1' hbw' hsz' hws
   have hq0 := p0'
   have q0 : W4.cell? ⟨w.heap.size, 0, none⟩ = some (.slice A ws.length c) := cell_row hq0
   have HC := Lib.hid hcd
   clear hcopy hcd hW4 b3' b2' p0' p1' hbw' hsz' hO3 b3 b2 p0 p1 hbw hO hA hws hq0
   gi_wp2
   refine wpIn_region_still_tail 3 (by kernel_rfl) (by kernel_rfl) ?_
   simp only [List.take_succ_cons, List.take_zero, List.drop_succ_cons, List.drop_zero]
   repeat still_step
   try refine wpStill_nil ?_
   have hcd := HC.out
   change wpListIn _ _ _ _ _ _ _ wr.drew
   generalize wr.drew = wd at *
   gi_wp2
   refine ⟨trivial, ?_⟩
   refine (callsIn_wide.2 (outlets_any A c ws.length _)).mono ?_
   rintro e w' ⟨rfl, rfl⟩
   gi_wp2
   obtain ⟨d3, d2, d0, d1, dbl, dsz, dws⟩ := HF.out
   have hal : Below W4.heap.size W4 (W4.alloc (.cells #[.slice A ws.length c] 24)) := (Below.refl _ W4).alloc (Nat.le_refl _) _
   have c8 : (W4.alloc (.cells #[.slice A ws.length c] 24)).cell? ⟨W4.heap.size, 0, none⟩ = some (.slice A ws.length c) := by simp [go_sem]
   have hW2s : (W4.alloc (.cells #[.slice A ws.length c] 24)).heap.size = W4.heap.size + 1 := by simp
   have hI0 : FlI w ws ⟨A0, A1, A2, A3, c0, c1, c2, c3, ri, bo, lk, lo⟩ [] (W4.alloc (.cells #[.slice A ws.length c] 24)) := ⟨d3.below hal (by omega), d2.below hal (by omega), (hal.block (w.heap.size + 1) (by omega)).trans d1, dbl.trans (hal.mono dbl.size), by omega⟩
   generalize hgW : W4.alloc (.cells #[.slice A ws.length c] 24) = W2 at *
   clear hgW
   have hseq := outlets_stops (n - 1) (by omega) w.heap.size W4.heap.size A c ws W2 hI0.bl.size c8 (by omega) (h.below hI0.bl (Nat.le_refl _)) hm hN
   have hO : OwnFrom W2.heap.size (fun pre W => FlI w ws ⟨A0, A1, A2, A3, c0, c1, c2, c3, ri, bo, lk, lo⟩ pre W) := fun pre W W' row hi hgr hrow => hi.kept hgr (fun r e => ⟨by have := (hrow r e).1; omega, (hrow r e).2⟩)
   refine wpIn_rangeFunc_ownH rfl h1 (gf := 68) (lb := #[.pointer (some ⟨W4.heap.size, 0, none⟩)]) rfl trivial eg_outlets hseq belowK_t (belowK_b hI0.bl.size) (Below.refl _ W2) (fun _ => rfl)
    (fun pre W => FlI w ws ⟨A0, A1, A2, A3, c0, c1, c2, c3, ri, bo, lk, lo⟩ pre W) (fun _ _ _ => False) hO (fun _ _ _ _ _ hs _ _ => hs) hI0
    (fun x a' W => ∃ g9 g10, a' = { tmps := #[.agg #[.slice A ws.length c], .agg #[.slice A0 ri.length c0, .slice A1 bo.length c1, .slice A2 lk.length c2, .slice A3 lo.length c3], .pointer (some ⟨w.heap.size, 0, none⟩), .pointer (some ⟨w.heap.size + 1, 0, none⟩), .pointer (some ⟨w.heap.size + 1 + 1, 0, none⟩), .pointer (some ⟨w.heap.size + 1 + 1 + 1, 0, none⟩), .pointer (some ⟨w.heap.size + 1 + 1 + 1 + 1, 0, none⟩), u7, u8, .pointer (some ⟨g9, 0, none⟩), .pointer (some ⟨g10, 0, none⟩), undef, undef, undef, .agg #[.slice A ws.length c], .slice A9 (headsTo ws ws.length).length c9, .int .i64 (headsTo ws ws.length).length, .int .i64 (headsTo ws ws.length).length, .bool false, u19, u20, u21, u22, u23, u24, u25, u26, u27, u28, u29, .pointer (some ⟨w.heap.size + 1 + 1 + 1, 60, none⟩), .slice (some ⟨w.heap.size + 1 + 1 + 1, 60, none⟩) 16 16, .slice (some ⟨w.heap.size + 1 + 1 + 1 + 1, 0, none⟩) 16 16, .int .i64 16, .agg #[.slice A ws.length c], .func (.func 68) #[] #[.pointer (some ⟨W4.heap.size, 0, none⟩)], .agg #[.int .i64 (x.1 : Int), .int .i64 (caAt ws x.1 : Int), .int .i64 (atAt ws x.1 : Int)], (oAt (outs ws) x.1).v, undef, undef, undef, undef, undef, undef, undef, undef, undef, undef, undef, undef, undef, undef, undef, undef, undef, undef, undef, undef, undef, undef, undef, undef, undef, undef, undef, undef, undef, undef, undef, undef, undef, undef, undef, undef, undef, undef, undef, undef, undef, undef, undef, undef, undef, undef, undef, undef, undef, undef, undef, undef, undef, undef, undef, undef, undef, undef, undef, undef, undef], defers := [] } ∧ Bx W g9 g10 ws x.1)
    ?ownA ?assign ?body ?done (fun _ _ _ _ _ _ h _ => h.elim)
   case ownA =>
    rintro x a' _ W W' row ⟨g4, g5, e, hx⟩ hgr hrow
    exact ⟨g4, g5, e, hx.kept hgr (fun r e => (hrow r e).2)⟩
   case assign =>
    intro l pre x W K hi hK
    have hbl := hi.bl.size
    dsimp only [encI, Ot.v]
    gi_wp2
    exact hK _ _ (two_keeps _ _ _ _) (two_below hbl _ _) (hO.alloc _ (hO.alloc _ hi)) ⟨_, _, rfl, Bx.new W ws x.1⟩
   case body =>
    -- BODY
    rintro l pre x a' W hl hrec hi ⟨g9, g10, rfl, hx⟩ hpre
    have ok := HOk.out
    have hfin := g.fine x.2
    have hv := step_vals g ok (flow_bounds g ok pre) x.2
    have hbd := flow_bounds g ok pre
    have hx60 := g.n2
    have hxN := x.2
    obtain ⟨p0, p1, p2⟩ := hx.place
    obtain ⟨_, z1, z2, _⟩ := hx.outlet
    have l1 := ok.l1
    have l2 := ok.l2
    have l3 := ok.l3
    have r1 := ok.r1 x.1 x.2
    have r2 := ok.r2 x.1 x.2
    have r3 := ok.r3 x.1 x.2
    dsimp only at l1 l2 l3 r1 r2 r3
    obtain ⟨bx, hbx⟩ : ∃ bx : Nat, nth bo x.1 = (bx : Int) := ⟨(nth bo x.1).toNat, by omega⟩
    have hth : thrOf ws ⟨A0, A1, A2, A3, c0, c1, c2, c3, ri, bo, lk, lo⟩ (flowL ws ⟨A0, A1, A2, A3, c0, c1, c2, c3, ri, bo, lk, lo⟩ pre) (caAt ws x.1) x.1 = min (flowL ws ⟨A0, A1, A2, A3, c0, c1, c2, c3, ri, bo, lk, lo⟩ pre (60 + caAt ws x.1) - lossOf ⟨A0, A1, A2, A3, c0, c1, c2, c3, ri, bo, lk, lo⟩ (flowL ws ⟨A0, A1, A2, A3, c0, c1, c2, c3, ri, bo, lk, lo⟩ pre) (caAt ws x.1) x.1) (nth (oAt (outs ws) x.1).ps bx + nth lk x.1) := by
     unfold thrOf
     dsimp only
     rw [hbx, Int.toNat_natCast]
    have hls : lossOf ⟨A0, A1, A2, A3, c0, c1, c2, c3, ri, bo, lk, lo⟩ (flowL ws ⟨A0, A1, A2, A3, c0, c1, c2, c3, ri, bo, lk, lo⟩ pre) (caAt ws x.1) x.1 = min (flowL ws ⟨A0, A1, A2, A3, c0, c1, c2, c3, ri, bo, lk, lo⟩ pre (60 + caAt ws x.1)) (nth lo x.1) := rfl
    have hs1 := fun (hq : ¬ 0 ≤ (oAt (outs ws) x.1).into) => hi.step1 g hq rfl rfl rfl
    have hs2 := fun (q : Nat) (hq : (oAt (outs ws) x.1).into = (q : Int)) => hi.step2 g hq rfl rfl rfl
    have a3 := hi.a3
    have hq1 := hi.p1
    dsimp only at hq1
    have e1 : W.cell? ⟨w.heap.size + 1, 1, none⟩ = some (.slice A1 bo.length c1) := cell_row hq1
    have e2 : W.cell? ⟨w.heap.size + 1, 2, none⟩ = some (.slice A2 lk.length c2) := cell_row hq1
    have e3 : W.cell? ⟨w.heap.size + 1, 3, none⟩ = some (.slice A3 lo.length c3) := cell_row hq1
    have hbW := hi.bl
    have ht := hbd.t _ hfin.ca
    have hl76 := hbd.l
    have hpk := hfin.p bx (by omega)
    have hks := hfin.k
    have hin := hfin.into
    have hnl := g.n1
    have hca := hfin.ca
    obtain ⟨bb, ob, hA1, lbb, hcb⟩ := HS.out.r1 (by show 0 < bo.length; omega)
    obtain ⟨bk, okk, hA2, lbk, hck⟩ := HS.out.r2 (by show 0 < lk.length; omega)
    obtain ⟨bl, ol, hA3, lbl, hcl⟩ := HS.out.r3 (by show 0 < lo.length; omega)
    obtain ⟨bp, op, hP, lbp, hcp⟩ := (h.passes x.2) (by omega)
    dsimp only at hA1 hA2 hA3 hcb hck hcl
    have kb := (hbW.cell (p := ⟨bb, ob + x.1, none⟩) lbb).trans (hcb x.1 (by omega))
    have kk := (hbW.cell (p := ⟨bk, okk + x.1, none⟩) lbk).trans (hck x.1 (by omega))
    have kl := (hbW.cell (p := ⟨bl, ol + x.1, none⟩) lbl).trans (hcl x.1 (by omega))
    have kp := (hbW.cell (p := ⟨bp, op + bx, none⟩) lbp).trans (hcp bx (by omega))
    rw [hbx] at kb
    rw [hA1] at e1
    rw [hA2] at e2
    rw [hA3] at e3
    rw [hP] at z2
    have t0 := a3.cell (show 60 + caAt ws x.1 < 77 by omega)
    have t1 := a3.cell (show 76 < 77 by omega)
    have t2 := a3.cell (show x.1 < 77 by omega)
    have t3 := fun (q : Nat) (hq : q < 16) => a3.cell (show 60 + q < 77 by omega)
    have f0 := a3.frozen (60 + caAt ws x.1)
    have f1 := a3.frozen 76
    have f2 := a3.frozen x.1
    have f3 := fun (q : Nat) => a3.frozen (60 + q)
    have i1 : (caAt ws x.1 : Int) < 16 := by omega
    have i2 : (x.1 : Int) < (lo.length : Int) := by omega
    have i3 : (x.1 : Int) < (bo.length : Int) := by omega
    have i4 : (x.1 : Int) < (lk.length : Int) := by omega
    have i5 : (bx : Int) < ((oAt (outs ws) x.1).ps.length : Int) := by omega
    have i6 : (x.1 : Int) < 60 := by omega
    have j1 : ¬ 76 = x.1 := by omega
    have j2 : ¬ 76 = 60 + caAt ws x.1 := by omega
    have j3 : ¬ x.1 = 60 + caAt ws x.1 := by omega
    have j4 : ¬ x.1 = 76 := by omega
    have j5 : ¬ 60 + caAt ws x.1 = 76 := by omega
    have j6 : ¬ 60 + caAt ws x.1 = x.1 := by omega
    have HB76 : flowL ws ⟨A0, A1, A2, A3, c0, c1, c2, c3, ri, bo, lk, lo⟩ pre 76 ≤ 1048576000 := by have := hW.n2; omega
    have hl0 := hl76.1
    have n9 : ¬ g9 = w.heap.size + 1 + 1 + 1 := fun e => by
     obtain ⟨cs, u1, u2, _⟩ := a3
     have u3 := hx.p
     rw [e, u1] at u3
     cases u3
    have n10 : ¬ g10 = w.heap.size + 1 + 1 + 1 := fun e => by
     obtain ⟨cs, u1, u2, _⟩ := a3
     have u3 := hx.o
     rw [e, u1] at u3
     cases u3
    have n9' := fun e => n9 (Eq.symm e)
    have n10' := fun e => n10 (Eq.symm e)
    clear hcb hck hcl hcp hbd hl76 hfin hi hx hseq a3 hq1 hbW hO ok
    generalize lossOf ⟨A0, A1, A2, A3, c0, c1, c2, c3, ri, bo, lk, lo⟩ (flowL ws ⟨A0, A1, A2, A3, c0, c1, c2, c3, ri, bo, lk, lo⟩ pre) (caAt ws x.1) x.1 = L at *
    generalize thrOf ws ⟨A0, A1, A2, A3, c0, c1, c2, c3, ri, bo, lk, lo⟩ (flowL ws ⟨A0, A1, A2, A3, c0, c1, c2, c3, ri, bo, lk, lo⟩ pre) (caAt ws x.1) x.1 = T at *
    generalize flowL ws ⟨A0, A1, A2, A3, c0, c1, c2, c3, ri, bo, lk, lo⟩ pre (60 + caAt ws x.1) = F at *
    generalize flowL ws ⟨A0, A1, A2, A3, c0, c1, c2, c3, ri, bo, lk, lo⟩ pre 76 = F76 at *
    generalize nth lo x.1 = Lo at *
    generalize nth lk x.1 = Lk at *
    generalize nth (oAt (outs ws) x.1).ps bx = Pk at *
    have H1 := Lib.hid hs1
    have H2 := Lib.hid hs2
    clear hs1 hs2
    have w1 : IntKind.i64.wrap (F - L) = F - L := IntWalk.i64_in _ (by omega)
    have w2 : IntKind.i64.wrap (Pk + Lk) = Pk + Lk := IntWalk.i64_in _ (by omega)
    have w3 : IntKind.i64.wrap (F76 + L) = F76 + L := IntWalk.i64_in _ (by omega)
    have w4 : IntKind.i64.wrap (F - L - T) = F - L - T := IntWalk.i64_in _ (by omega)
    have m1 : (if Lo < F then Lo else F) = L := by rw [hls]; split <;> omega
    have m2 : (if Pk + Lk < F - L then Pk + Lk else F - L) = T := by rw [hth]; split <;> omega
    clear hls hth
    by_cases hq : 0 ≤ (oAt (outs ws) x.1).into
    ·obtain ⟨q, hq2⟩ : ∃ q : Nat, (oAt (outs ws) x.1).into = (q : Int) := ⟨((oAt (outs ws) x.1).into).toNat, by omega⟩
     have hq16 : q < 16 := by omega
     have H3 := Lib.hid (H2.out q hq2)
     have t4 := t3 q hq16
     have f4 := f3 q
     rw [hq2] at z1
     have i7 : (q : Int) < 16 := by omega
     have i8 : (0 : Int) ≤ (q : Int) := by omega
     have hqc : caAt ws x.1 < q := by omega
     have j11 : ¬ q = caAt ws x.1 := by omega
     have j12 : ¬ caAt ws x.1 = q := by omega
     have j7 : ¬ 60 + q = 76 := by omega
     have j8 : ¬ 60 + q = x.1 := by omega
     have j9 : ¬ 76 = 60 + q := by omega
     have j10 : ¬ x.1 = 60 + q := by omega
     clear H1 H2 t3 f3 hq hq2
     gi_wp2
     refine wpIn_region_made (fun _ => trivial) (fun X => X.cell? ⟨g10, 2, none⟩ = some (.slice (some ⟨bp, op, none⟩) (oAt (outs ws) x.1).ps.length (oAt (outs ws) x.1).c) ∧ X.cell? ⟨w.heap.size + 1, 1, none⟩ = some (.slice (some ⟨bb, ob, none⟩) bo.length c1) ∧ X.cell? ⟨w.heap.size + 1, 2, none⟩ = some (.slice (some ⟨bk, okk, none⟩) lk.length c2) ∧ X.cell? ⟨g9, 0, none⟩ = some (.int .i64 (x.1 : Int)) ∧ X.cell? ⟨bb, ob + x.1, none⟩ = some (.int .i64 (bx : Int)) ∧ X.cell? ⟨bp, op + bx, none⟩ = some (.int .i64 Pk) ∧ X.cell? ⟨bk, okk + x.1, none⟩ = some (.int .i64 Lk)) 18 (by kernel_rfl) (by kernel_rfl) (by kernel_rfl) (by rfl) ⟨z2, e1, e2, p0, kb, kp, kk⟩ ?_
     simp only [List.take_succ_cons, List.take_zero]
     iterate 18
      refine wpReads_opI (v := ?_) (by rfl) (fun W hW => ?_) ?_
      rotate_left
      focus
       obtain ⟨d1, d2, d3, d4, d5, d6, d7⟩ := hW
       go_simp
       try (with_reducible rfl)
      try simp only [Act.put, List.setIfInBounds_toArray, List.set_cons_zero, List.set_cons_succ]
     refine wpReads_nilI ⟨by rfl, .int .i64 T, W.drew, .inl ?_, ⟨z2, e1, e2, p0, kb, kp, kk⟩, ?_⟩
     ·go_simp
     ·have KD : KeepsOthers W W.drew := KeepsOthers.drew W
      gi_wp2
      exact ⟨H3.out.1.from _, H3.out.2.1, H3.out.2.2⟩
    ·have H3 := Lib.hid (H1.out hq)
     clear H1 H2 t3 f3
     gi_wp2
     refine wpIn_region_made (fun _ => trivial) (fun X => X.cell? ⟨g10, 2, none⟩ = some (.slice (some ⟨bp, op, none⟩) (oAt (outs ws) x.1).ps.length (oAt (outs ws) x.1).c) ∧ X.cell? ⟨w.heap.size + 1, 1, none⟩ = some (.slice (some ⟨bb, ob, none⟩) bo.length c1) ∧ X.cell? ⟨w.heap.size + 1, 2, none⟩ = some (.slice (some ⟨bk, okk, none⟩) lk.length c2) ∧ X.cell? ⟨g9, 0, none⟩ = some (.int .i64 (x.1 : Int)) ∧ X.cell? ⟨bb, ob + x.1, none⟩ = some (.int .i64 (bx : Int)) ∧ X.cell? ⟨bp, op + bx, none⟩ = some (.int .i64 Pk) ∧ X.cell? ⟨bk, okk + x.1, none⟩ = some (.int .i64 Lk)) 18 (by kernel_rfl) (by kernel_rfl) (by kernel_rfl) (by rfl) ⟨z2, e1, e2, p0, kb, kp, kk⟩ ?_
     simp only [List.take_succ_cons, List.take_zero]
     iterate 18
      refine wpReads_opI (v := ?_) (by rfl) (fun W hW => ?_) ?_
      rotate_left
      focus
       obtain ⟨d1, d2, d3, d4, d5, d6, d7⟩ := hW
       go_simp
       try (with_reducible rfl)
      try simp only [Act.put, List.setIfInBounds_toArray, List.set_cons_zero, List.set_cons_succ]
     refine wpReads_nilI ⟨by rfl, .int .i64 T, W.drew, .inl ?_, ⟨z2, e1, e2, p0, kb, kp, kk⟩, ?_⟩
     ·go_simp
     ·have KD : KeepsOthers W W.drew := KeepsOthers.drew W
      gi_wp2
      exact ⟨H3.out.1.from _, H3.out.2.1, H3.out.2.2⟩
    -- END
   case done =>
    rintro D ys W hD rfl hi hK
    have e76 : ∀ f : Nat → Int, ((List.range 77).map fun j => Value.int .i64 (f (0 + j))) = (List.range 77).map fun j => Value.int .i64 (f j) := fun f => by simp only [Nat.zero_add]
    obtain ⟨cs, hcs⟩ : ∃ cs : List Value, cs = (List.range 77).map fun j => Value.int .i64 (flowF ws ⟨A0, A1, A2, A3, c0, c1, c2, c3, ri, bo, lk, lo⟩ j) := ⟨_, rfl⟩
    have hlen : cs.length = 77 := by rw [hcs]; simp
    have hone : cs.toArray.all (·.oneCell') = true := all_oneCell_toArray (fun v hv => by
     rw [hcs] at hv
     obtain ⟨j, _, rfl⟩ := List.mem_map.1 hv
     rfl)
    have hrg : W.rangeAt (w.heap.size + 1 + 1 + 1) 0 cs := by
     have := hi.a3.range 0 77 (Nat.le_refl _)
     rw [e76] at this
     rw [hcs]; exact this
    have hinf : (Tryz.prog.info? 95).map (·.size) = some 77 := by kernel_rfl
    have hinf2 : (Tryz.prog.info? 95).map (·.size) = some cs.length := by rw [hlen]; exact hinf
    have hld1 : (Instr.loadAt 95 (.pointer (some ⟨w.heap.size + 1 + 1 + 1, 0, none⟩))).run Tryz.prog W = .ok (.agg cs.toArray) W := run_loadAt_mid W _ _ _ cs _ hrg Tryz.underlying95 (by rfl) hinf2
    have hld2 : (Instr.loadAt 95 (.pointer (some ⟨w.heap.size + 1 + 1 + 1, 0, none⟩))).run Tryz.prog W.drew = .ok (.agg cs.toArray) W.drew := run_loadAt_mid W.drew _ _ _ cs _ hrg Tryz.underlying95 (by rfl) hinf2
    have hst1 : (Instr.storeAt 95 (.pointer (some ⟨w.heap.size + 1 + 1, 0, none⟩)) (.agg cs.toArray)).run Tryz.prog W = .ok () (W.setCells (w.heap.size + 1 + 1) 0 cs) := by
     have := run_storeAt_mid (P := Tryz.prog) W (w.heap.size + 1 + 1) 0 95 cs.toArray (by rw [show cs.toArray.size = 77 by rw [List.size_toArray, hlen]]; exact hi.a2.there 0 77 (Nat.le_refl _)) (by rw [show cs.toArray.size = 77 by rw [List.size_toArray, hlen]]; exact hinf) hone
     simpa using this
    have hA5 : ArrAt (W.setCells (w.heap.size + 1 + 1) 0 cs) (w.heap.size + 1 + 1) 95 77 (flowF ws ⟨A0, A1, A2, A3, c0, c1, c2, c3, ri, bo, lk, lo⟩) := by
     have := ArrAt.sets ((List.range 77).map (flowF ws ⟨A0, A1, A2, A3, c0, c1, c2, c3, ri, bo, lk, lo⟩)) 0 W (fun _ => 0) hi.a2 (by simp)
     rw [List.map_map] at this
     rw [hcs]
     obtain ⟨cs2, u1, u2, u3⟩ := this
     refine ⟨cs2, u1, u2, fun j hj => ?_⟩
     rw [u3 j hj, puts_at, if_pos (by simp; omega)]
     simp [nth, hj]
    have hO5 : OnlyB (w.heap.size + 1 + 1) W (W.setCells (w.heap.size + 1 + 1) 0 cs) := OnlyB.sets _ _ _ ⟨rfl, fun _ _ => rfl, Below.refl _ W⟩
    obtain ⟨W5, hW5⟩ : ∃ W5, W5 = W.setCells (w.heap.size + 1 + 1) 0 cs := ⟨_, rfl⟩
    rw [← hW5] at hst1 hA5 hO5
    have hne : D ≠ w.heap.size + 1 + 1 := by have := hi.lt; omega
    have hK5 : W5.heap[D]? = some (.deferred (some [])) := (hO5.blk D hne).trans hK
    have hA6 : ArrAt (W5.putObj D (.deferred none)) (w.heap.size + 1 + 1) 95 77 (flowF ws ⟨A0, A1, A2, A3, c0, c1, c2, c3, ri, bo, lk, lo⟩) := hA5.block (World.putObj_heap_other (by omega))
    have hrg6 : (W5.putObj D (.deferred none)).rangeAt (w.heap.size + 1 + 1) 0 cs := by
     have := hA6.range 0 77 (Nat.le_refl _)
     rw [e76] at this
     rw [hcs]; exact this
    have hres : (loadVar 95 ⟨w.heap.size + 1 + 1, 0, none⟩).run Tryz.prog (W5.putObj D (.deferred none)) = .ok (.agg cs.toArray) (W5.putObj D (.deferred none)) := run_loadVar_mid _ _ _ _ cs _ hrg6 Tryz.underlying95 (by rfl) hinf2
    have HB := Lib.hid ((hi.bl.trans (hO5.bl.mono (by omega))).trans (belowK_b hI0.bl.size _ D (.deferred (some [])) (.deferred none) hD hK5 rfl rfl))
    have HV : Hid (Value.agg cs.toArray = flV (flowF ws ⟨A0, A1, A2, A3, c0, c1, c2, c3, ri, bo, lk, lo⟩)) := Lib.hid (by rw [hcs]; rfl)
    have HK5 := Lib.hid hK5
    have HRes := Lib.hid hres
    clear hseq hi hK hrg hone hinf hinf2 hW5 hcs hlen e76 hA5 hA6 hrg6 hO5 hK5 hres
    gi_wp2
    refine wpIn_op_load (fun _ => trivial) 95 _ rfl (by rfl) hld1 ?_
    rename_i hKK
    refine hKK _ _ ?_
    refine wpListIn_plain rfl fun K hK => wpIn_op_store (fun _ => trivial) 95 _ _ rfl (by rfl) (by rfl) hst1 (hK _ _ ?_)
    gi_wp2
    refine ⟨by simp, .inl ⟨_, _, rfl, run_takeDeferred HK5.out, ?_⟩⟩
    have hres := HRes.out
    exact ⟨.agg cs.toArray, results_cell1 Tryz.results41 _ _ _ _ (by rfl) hres, by rw [HV.out], HB.out⟩
theorem flow_any (A : Option Addr) (c : Nat) (ws : List Car) (s : Wt) (w : World) (hW : Wk w A ws) (g : Good ws) (hs : Wet w s) (ok : Ok ws s) :
  Calls Tryz.prog 41 #[.agg #[.slice A ws.length c], s.v] w fun e w' => e = .returned (flV (flowF ws s)) ∧ Below w.heap.size w w' := callsIn_wide.1 (flow_in 3 (Nat.le_refl _) A c ws s w hW g hs ok)
end Go.Proofs.YtegmniphgahblaaGreat
