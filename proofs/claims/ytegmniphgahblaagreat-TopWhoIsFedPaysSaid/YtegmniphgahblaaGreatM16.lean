/- Plain: the tree of works. No program here. | Plain: the tree of right works is right; its ways are those of the works. No program here. | Plain: with more payers nobody's share is greater; shares compare without overflow. No program here. | Plain: more water of the river; who pays by a case. No program here. | Plain: the tree of the meadow's works, and its shares. No program here. -/
import Derived.Test.YtegmniphgahblaaGreatM9
import Derived.Test.YtegmniphgahblaaGreatM10
import Derived.Test.YtegmniphgahblaaGreatW10
import Derived.Test.YtegmniphgahblaaGreatM13
import Derived.Test.YtegmniphgahblaaGreatW33
namespace Go.Proofs.YtegmniphgahblaaGreat
open Go.RowKit Go.Shelf

/-- From which carrier each is fed, told of the first k outlets. -/
def abvTo (ws : List Car) : Nat → Nat → Int
 | 0 => fun _ => -1
 | k + 1 => if 0 ≤ (oAt (outs ws) k).into then put (abvTo ws k) (oAt (outs ws) k).into.toNat (caAt ws k) else abvTo ws k
def rchT (ws : List Car) (cost : List Int) (c : Nat) : Rch := ⟨abvTo ws (start ws c) c, if c < cost.length then nth cost c else 0⟩
def rsTo (ws : List Car) (cost : List Int) (c : Nat) : List Rch := (List.range c).map (rchT ws cost)
theorem rsTo_succ (ws : List Car) (cost : List Int) (c : Nat) : rsTo ws cost (c + 1) = rsTo ws cost c ++ [rchT ws cost c] := by simp [rsTo, List.range_succ]
theorem rsTo_len (ws : List Car) (cost : List Int) (c : Nat) : (rsTo ws cost c).length = c := by simp [rsTo]
theorem rsTo_at (ws : List Car) (cost : List Int) {c i : Nat} (h : i < c) : rAt (rsTo ws cost c) i = rchT ws cost i := by simp [rAt, rsTo, h]
def payT (ws : List Car) (k : Nat) : Pay := ⟨(oAt (outs ws) k).id, caAt ws k, 1⟩
/-- Whether an outlet is a bed to which water flows. -/
def paysB (ws : List Car) (fl : List Int) (k : Nat) : Bool := decide ((oAt (outs ws) k).into < 0) && decide (0 < nth fl k)
def psTo (ws : List Car) (fl : List Int) (k : Nat) : List Pay := ((List.range k).filter (paysB ws fl)).map (payT ws)
theorem psTo_succ (ws : List Car) (fl : List Int) (k : Nat) : psTo ws fl (k + 1) = if paysB ws fl k = true then psTo ws fl k ++ [payT ws k] else psTo ws fl k := by
 unfold psTo
 rw [List.range_succ, List.filter_append]
 cases h : paysB ws fl k <;> simp [h]
theorem psTo_len (ws : List Car) (fl : List Int) (k : Nat) : (psTo ws fl k).length ≤ k := by
 unfold psTo
 rw [List.length_map]
 have := List.length_filter_le (paysB ws fl) (List.range k)
 rw [List.length_range] at this
 exact this
theorem right_parts {n c : Nat} {o : Ot} (h : rightB n c o = true) : (1 ≤ o.id ∧ o.id ≤ 1099511627776) ∧ (o.into = -1 ∨ ((c : Int) + 1 ≤ o.into ∧ o.into ≤ (n : Int) - 1)) := by
 unfold rightB headB withinB at h
 simp only [Bool.and_eq_true, decide_eq_true_eq, Bool.or_eq_true, Bool.not_eq_true', bne_eq_false_iff_eq] at h
 exact ⟨h.1.1.1.1.1, h.1.1.1.1.2⟩
theorem into_lt {n c : Nat} {o : Ot} (h : rightB n c o = true) (h0 : 0 ≤ o.into) : o.into < (n : Int) := by
 rcases (right_parts h).2 with h | h <;> omega
def rcL (r : Rch) : List Value := [.int .i64 r.ab, .int .i64 r.co]
def pyL (p : Pay) : List Value := [.int .i64 p.id, .int .i64 p.rc, .int .i64 p.wt]
/-- A tree that is being made: its box, its two lists; from where each carrier is fed. -/
structure FtI (V : World) (gT gA m : Nat) (v u : Value) (R : List Rch) (Y : List Pay) (f : Nat → Int) (W : World) : Prop where
 bt : ButB (fun b => b = gT ∨ b = gA) V W
 k : Blk W gT #[v, u] 42
 o1 : OwnK 65 2 rcL W V.heap.size v R
 o2 : OwnK 53 3 pyL W V.heap.size u Y
 ne : ∀ k, v.ownBlock = some k → u.ownBlock ≠ some k
 ab : IntF W gA m f
section
variable {V W W' : World} {gT gA m : Nat} {v u v' u' : Value} {R : List Rch} {Y : List Pay} {f : Nat → Int} {y : Rch} {z : Pay}
theorem FtI.later (h : FtI V gT gA m v u R Y f W) (hT : gT < V.heap.size) (hA : gA < V.heap.size) (hb : Below W.heap.size W W') : FtI V gT gA m v u R Y f W' := by
 have hz := h.bt.size
 exact ⟨h.bt.trans (ButB.of_below hb), (hb.block gT (by omega)).trans h.k, h.o1.later hb, h.o2.later hb, h.ne, h.ab.heap (hb.block gA (by omega))⟩
theorem FtI.app1 (h : FtI V gT gA m v u R Y f W) (hT : gT < V.heap.size) (hA : gA < V.heap.size) (hne : gT ≠ gA) (ho : OwnK 65 2 rcL W' V.heap.size v' (R ++ [y])) (hg : W.grownBy W' v.ownBlock) (hb : v'.ownBlock = v.ownBlock ∨ v'.ownBlock = some W.heap.size) :
  FtI V gT gA m v' u (R ++ [y]) Y f (W'.setCell ⟨gT, 0, none⟩ v') := by
 have hz := h.bt.size
 have hr : ∀ k, v.ownBlock = some k → V.heap.size ≤ k := fun k e => (h.o1.blkIs e).1
 have oth : ∀ b, b ≠ gT → (W'.setCell ⟨gT, 0, none⟩ v').heap[b]? = W'.heap[b]? := fun b hb => Below.heap_setCell W' ⟨gT, 0, none⟩ _ b hb
 have kT : Blk W' gT #[v, u] 42 := (hg.block gT (by omega) (fun e => by have := hr _ e.symm; omega)).trans h.k
 refine ⟨(h.bt.grown hg (fun r e => .inr (hr r e))).set (a := ⟨gT, 0, none⟩) (.inl rfl) _, heap_setCell_same _ _ 0 _ _ _ kT, ho.blk (fun b e => oth b (by have := (ho.blkIs e).1; omega)), (h.o2.blk (fun b e => hg.block b (h.o2.blkIs e).2.1 (fun e2 => h.ne b e2.symm e))).blk (fun b e => oth b (by have := (h.o2.blkIs e).1; omega)), fun k e => ?_, (h.ab.heap (hg.block gA (by omega) (fun e => by have := hr _ e.symm; omega))).heap (oth gA (fun e => hne e.symm))⟩
 rcases hb with hb | hb
 ·exact h.ne k (hb ▸ e)
 ·intro e2
  have := (h.o2.blkIs e2).2.1
  rw [hb] at e; cases e; omega
theorem FtI.app2 (h : FtI V gT gA m v u R Y f W) (hT : gT < V.heap.size) (hA : gA < V.heap.size) (hne : gT ≠ gA) (ho : OwnK 53 3 pyL W' V.heap.size u' (Y ++ [z])) (hg : W.grownBy W' u.ownBlock) (hb : u'.ownBlock = u.ownBlock ∨ u'.ownBlock = some W.heap.size) :
  FtI V gT gA m v u' R (Y ++ [z]) f (W'.setCell ⟨gT, 1, none⟩ u') := by
 have hz := h.bt.size
 have hr : ∀ k, u.ownBlock = some k → V.heap.size ≤ k := fun k e => (h.o2.blkIs e).1
 have oth : ∀ b, b ≠ gT → (W'.setCell ⟨gT, 1, none⟩ u').heap[b]? = W'.heap[b]? := fun b hb => Below.heap_setCell W' ⟨gT, 1, none⟩ _ b hb
 have kT : Blk W' gT #[v, u] 42 := (hg.block gT (by omega) (fun e => by have := hr _ e.symm; omega)).trans h.k
 refine ⟨(h.bt.grown hg (fun r e => .inr (hr r e))).set (a := ⟨gT, 1, none⟩) (.inl rfl) _, heap_setCell_same _ _ 1 _ _ _ kT, (h.o1.blk (fun b e => hg.block b (h.o1.blkIs e).2.1 (fun e2 => h.ne b e e2.symm))).blk (fun b e => oth b (by have := (h.o1.blkIs e).1; omega)), ho.blk (fun b e => oth b (by have := (ho.blkIs e).1; omega)), fun k e e2 => ?_, (h.ab.heap (hg.block gA (by omega) (fun e => by have := hr _ e.symm; omega))).heap (oth gA (fun e => hne e.symm))⟩
 rcases hb with hb | hb
 ·exact h.ne k e (hb ▸ e2)
 ·have := (h.o1.blkIs e).2.1
  rw [hb] at e2; cases e2; omega
theorem FtI.setA (h : FtI V gT gA m v u R Y f W) (hA : gA < V.heap.size) (hne : gT ≠ gA) {i : Nat} (hi : i < m) (x : Int) : FtI V gT gA m v u R Y (put f i x) (W.setCell ⟨gA, i, none⟩ (.int .i64 x)) := by
 have oth : ∀ b, b ≠ gA → (W.setCell ⟨gA, i, none⟩ (.int .i64 x)).heap[b]? = W.heap[b]? := fun b hb => Below.heap_setCell W ⟨gA, i, none⟩ _ b hb
 exact ⟨h.bt.set (a := ⟨gA, i, none⟩) (.inr rfl) _, (oth gT hne).trans h.k, h.o1.blk (fun b e => oth b (by have := (h.o1.blkIs e).1; omega)), h.o2.blk (fun b e => oth b (by have := (h.o2.blkIs e).1; omega)), h.ne, h.ab.set hi x⟩
theorem FtI.setO (h : FtI V gT gA m v u R Y f W) (hT : gT < V.heap.size) (hA : gA < V.heap.size) {b : Nat} (hb : V.heap.size ≤ b) (h1 : ∀ k, v.ownBlock = some k → k ≠ b) (h2 : ∀ k, u.ownBlock = some k → k ≠ b) (o : Nat) (x : Value) : FtI V gT gA m v u R Y f (W.setCell ⟨b, o, none⟩ x) := by
 have oth : ∀ c, c ≠ b → (W.setCell ⟨b, o, none⟩ x).heap[c]? = W.heap[c]? := fun c hc => Below.heap_setCell W ⟨b, o, none⟩ _ c hc
 refine ⟨⟨h.bt.os, h.bt.tape, h.bt.output, by rw [setCell_size']; exact h.bt.size, fun c hc hn => (oth c (by omega)).trans (h.bt.same c hc hn)⟩, (oth gT (by omega)).trans h.k, h.o1.blk (fun k e => oth k (h1 k e)), h.o2.blk (fun k e => oth k (h2 k e)), h.ne, h.ab.heap (oth gA (by omega))⟩
end
end Go.Proofs.YtegmniphgahblaaGreat
namespace Go.Proofs.YtegmniphgahblaaGreat
open Go.RowKit Go.Shelf

theorem lt_start {ws : List Car} {c k : Nat} (hc : c < ws.length) (hk : k < (outs ws).length) (h : caAt ws k < c) : k < start ws c := by
 have h1 := place_eq hk
 have h2 := atAt_lt hk
 have h3 := caAt_lt hk
 have h4 := start_succ h3
 have h5 := start_mono (ws := ws) (c := caAt ws k + 1) (d := c) h (by omega)
 omega
/-- From which carrier a carrier is fed, by its feeding outlet. -/
theorem abvTo_at {ws : List Car} (g : Good ws) (c : Nat) : ∀ k, k ≤ (outs ws).length → abvTo ws k c = match upO ws (c : Int) with | some x => if x < k then (caAt ws x : Int) else -1 | none => -1
 | 0, _ => by
  cases upO ws (c : Int) with
  | none => rfl
  | some x => rfl
 | k + 1, hk => by
  have ih := abvTo_at g c k (by omega)
  have e : abvTo ws (k + 1) = if 0 ≤ (oAt (outs ws) k).into then put (abvTo ws k) (oAt (outs ws) k).into.toNat (caAt ws k) else abvTo ws k := rfl
  rw [e]
  by_cases h0 : 0 ≤ (oAt (outs ws) k).into
  ·rw [if_pos h0]
   unfold put
   by_cases hc : c = (oAt (outs ws) k).into.toNat
   ·rw [if_pos hc]
    have hu := upO_of g (show k < (outs ws).length by omega) h0
    rw [show (oAt (outs ws) k).into = (c : Int) by omega] at hu
    rw [hu]
    show _ = if k < k + 1 then _ else _
    rw [if_pos (Nat.lt_succ_self k)]
   ·rw [if_neg hc, ih]
    cases hu : upO ws (c : Int) with
    | none => rfl
    | some x =>
     have h1 := (upO_some hu).2
     have hx : x ≠ k := fun e => by rw [e] at h1; omega
     by_cases hl : x < k
     ·show (if x < k then _ else _) = if x < k + 1 then _ else _
      rw [if_pos hl, if_pos (by omega)]
     ·show (if x < k then _ else _) = if x < k + 1 then _ else _
      rw [if_neg hl, if_neg (by omega)]
  ·rw [if_neg h0, ih]
   cases hu : upO ws (c : Int) with
   | none => rfl
   | some x =>
    have h1 := (upO_some hu).2
    have hx : x ≠ k := fun e => by rw [e] at h1; omega
    by_cases hl : x < k
    ·show (if x < k then _ else _) = if x < k + 1 then _ else _
     rw [if_pos hl, if_pos (by omega)]
    ·show (if x < k then _ else _) = if x < k + 1 then _ else _
     rw [if_neg hl, if_neg (by omega)]
theorem rch_ab {ws : List Car} (g : Good ws) (cost : List Int) {c : Nat} (hc : c < ws.length) : (rchT ws cost c).ab = match upO ws (c : Int) with | some x => (caAt ws x : Int) | none => -1 := by
 have h := abvTo_at g c (start ws c) (start_le (by omega))
 show abvTo ws (start ws c) c = _
 rw [h]
 cases hu : upO ws (c : Int) with
 | none => rfl
 | some x =>
  have h1 := up_lower g hu
  show (if x < start ws c then _ else _) = _
  rw [if_pos (lt_start hc h1.1 h1.2)]
section
variable {ws : List Car} {cost : List Int}
theorem rsTo_ok (g : Good ws) (hm : ws.length ≤ 6) (hc : ∀ i, i < cost.length → 0 ≤ nth cost i ∧ nth cost i ≤ 65535) : RsOk (rsTo ws cost ws.length) := by
 refine ⟨by rw [rsTo_len]; omega, fun i hi => ?_, fun i hi => ?_⟩
 ·rw [rsTo_len] at hi
  rw [rsTo_at ws cost hi, rch_ab g cost hi]
  cases hu : upO ws (i : Int) with
  | none => exact ⟨Int.le_refl _, by show (-1 : Int) < i; omega⟩
  | some x =>
   have := (up_lower g hu).2
   exact ⟨by show (-1 : Int) ≤ (caAt ws x : Int); omega, by show (caAt ws x : Int) < i; omega⟩
 ·rw [rsTo_len] at hi
  rw [rsTo_at ws cost hi]
  show 0 ≤ (if i < cost.length then nth cost i else 0) ∧ (if i < cost.length then nth cost i else 0) ≤ 65536
  by_cases h : i < cost.length
  ·have := hc i h
   rw [if_pos h]; omega
  ·rw [if_neg h]; omega
theorem abF_at (g : Good ws) {c : Nat} (hc : c < ws.length) : abF (rsTo ws cost ws.length) c = match upO ws (c : Int) with | some x => (caAt ws x : Int) | none => -1 := by
 unfold abF
 rw [rsTo_at ws cost hc, rch_ab g cost hc]
/-- The way up from a carrier is that of the outlet's path. -/
theorem way_path (g : Good ws) : ∀ (c x : Nat), caAt ws x = c → x < (outs ws).length → (∀ r, r < ws.length → abF (rsTo ws cost ws.length) r < r) → way (abF (rsTo ws cost ws.length)) (caAt ws x : Int) = (upList ws x).map (caAt ws) := by
 intro c
 induction c using Nat.strongRecOn with
 | _ c ih =>
  intro x hx hlt hab
  have hl := caAt_lt hlt
  rw [way_cons hab (by omega) (by omega), Int.toNat_natCast, abF_at g hl]
  rcases upList_cases g x with ⟨h1, h2⟩ | ⟨y, h1, h2⟩
  ·rw [h1, h2]
   show caAt ws x :: way _ (-1) = [caAt ws x]
   rw [way_neg (by omega)]
  ·have h3 := up_lower g h1
   rw [h1, h2, List.map_cons, ← ih (caAt ws y) (by omega) y rfl h3.1 hab]
theorem mem_psTo {fl : List Int} {n : Nat} {y : Pay} : y ∈ psTo ws fl n ↔ ∃ k, k < n ∧ paysB ws fl k = true ∧ payT ws k = y := by
 unfold psTo
 rw [List.mem_map]
 constructor
 ·rintro ⟨k, hk, e⟩
  have h := List.mem_filter.1 hk
  exact ⟨k, List.mem_range.1 h.1, h.2, e⟩
 ·rintro ⟨k, h1, h2, e⟩
  exact ⟨k, List.mem_filter.2 ⟨List.mem_range.2 h1, h2⟩, e⟩
theorem psTo_at {fl : List Int} {n i : Nat} (h : i < (psTo ws fl n).length) : ∃ k, k < n ∧ paysB ws fl k = true ∧ yAt (psTo ws fl n) i = payT ws k := by
 have hm : yAt (psTo ws fl n) i ∈ psTo ws fl n := by
  unfold yAt
  rw [List.getD_eq_getElem?_getD, List.getElem?_eq_getElem h]
  exact List.getElem_mem h
 obtain ⟨k, h1, h2, h3⟩ := mem_psTo.1 hm
 exact ⟨k, h1, h2, h3.symm⟩
theorem psTo_has {fl : List Int} {n k : Nat} (hk : k < n) (hp : paysB ws fl k = true) : ∃ i, i < (psTo ws fl n).length ∧ yAt (psTo ws fl n) i = payT ws k := by
 obtain ⟨i, hi, e⟩ := List.mem_iff_getElem.1 (mem_psTo.2 ⟨k, hk, hp, rfl⟩)
 refine ⟨i, hi, ?_⟩
 unfold yAt
 rw [List.getD_eq_getElem?_getD, List.getElem?_eq_getElem hi]
 exact e
/-- The outlets of the payers are apart. -/
theorem psTo_nodup {fl : List Int} {n : Nat} (g : Good ws) (hn : n ≤ (outs ws).length) : ∀ i j, i < (psTo ws fl n).length → j < (psTo ws fl n).length → (yAt (psTo ws fl n) i).id = (yAt (psTo ws fl n) j).id → i = j := by
 have hnd : ((List.range n).filter (paysB ws fl)).Nodup := List.nodup_range.filter _
 have hp : (psTo ws fl n).Pairwise (fun a b => a.id ≠ b.id) := by
  unfold psTo
  refine List.pairwise_map.2 (List.Pairwise.imp_of_mem (fun {a b} ha hb hab e => ?_) hnd)
  have h1 := List.mem_range.1 (List.mem_filter.1 ha).1
  have h2 := List.mem_range.1 (List.mem_filter.1 hb).1
  exact hab (g.ids a b (by omega) (by omega) e)
 have hq := List.pairwise_iff_getElem.1 hp
 have hat : ∀ k (hk : k < (psTo ws fl n).length), yAt (psTo ws fl n) k = (psTo ws fl n)[k] := fun k hk => by
  unfold yAt
  rw [List.getD_eq_getElem?_getD, List.getElem?_eq_getElem hk]
  rfl
 intro i j hi hj e
 rw [hat i hi, hat j hj] at e
 rcases Nat.lt_trichotomy i j with h | h | h
 ·exact absurd e (hq i j hi hj h)
 ·exact h
 ·exact absurd e.symm (hq j i hj hi h)
theorem psTo_ok {fl : List Int} (g : Good ws) (hN : (outs ws).length ≤ 14) : PsOk (rsTo ws cost ws.length) (psTo ws fl (outs ws).length) := by
 have hl := psTo_len ws fl (outs ws).length
 have hw : ∀ i, i < (psTo ws fl (outs ws).length).length → wtF (psTo ws fl (outs ws).length) i = 1 := fun i hi => by
  obtain ⟨k, _, _, e⟩ := psTo_at hi
  unfold wtF
  rw [e]; rfl
 refine ⟨by omega, fun i hi => ?_, fun i hi => ?_, fun i hi => ?_, psTo_nodup g (Nat.le_refl _), ?_⟩
 ·obtain ⟨k, hk, _, e⟩ := psTo_at hi
  have := caAt_lt hk
  rw [e, rsTo_len]
  exact ⟨by show (0 : Int) ≤ (caAt ws k : Int); omega, by show (caAt ws k : Int) < _; omega⟩
 ·have := hw i hi
  show 1 ≤ wtF _ i
  omega
 ·obtain ⟨k, hk, _, e⟩ := psTo_at hi
  rw [e]
  exact (right_parts (g.right k hk)).1
 ·have h : ∀ n, n ≤ (psTo ws fl (outs ws).length).length → sumTo (wtF (psTo ws fl (outs ws).length)) n = n := fun n => by
   induction n with
   | zero => intro _; rfl
   | succ n ih =>
    intro hn
    show sumTo _ n + wtF _ n = _
    rw [ih (by omega), hw n (by omega)]
    omega
  rw [h _ (Nat.le_refl _)]
  omega
end
end Go.Proofs.YtegmniphgahblaaGreat
namespace Go.Proofs.YtegmniphgahblaaGreat
open Go.RowKit Go.Shelf

theorem yAt_left (l : List Pay) (y : Pay) {i : Nat} (h : i < l.length) : yAt (l ++ [y]) i = yAt l i := by
 unfold yAt
 rw [List.getD_eq_getElem?_getD, List.getD_eq_getElem?_getD, List.getElem?_append_left h]
theorem yAt_last (l : List Pay) (y : Pay) : yAt (l ++ [y]) l.length = y := by
 unfold yAt
 rw [List.getD_eq_getElem?_getD, List.getElem?_append_right (Nat.le_refl _)]
 simp
theorem allF_snoc (rs : List Rch) (ps : List Pay) (y : Pay) (r : Nat) : allF rs (ps ++ [y]) r = allF rs ps r + (if isUp (abF rs) y.rc.toNat r = true then y.wt else 0) := by
 have e : allF rs (ps ++ [y]) r = allTo rs (ps ++ [y]) ps.length r + (if usF rs (ps ++ [y]) ps.length r = true then wtF (ps ++ [y]) ps.length else 0) := by
  unfold allF
  rw [List.length_append]
  rfl
 have e1 : usF rs (ps ++ [y]) ps.length r = isUp (abF rs) y.rc.toNat r := by unfold usF rcF; rw [yAt_last]
 have e2 : wtF (ps ++ [y]) ps.length = y.wt := by unfold wtF; rw [yAt_last]
 rw [e, e1, e2]
 congr 1
 exact sumTo_congr fun i hi => by unfold usF rcF wtF; rw [yAt_left ps y hi]
/-- How many payers use a reach, told by the outlets. -/
theorem allF_psTo (rs : List Rch) (ws : List Car) (fl : List Int) (r : Nat) : ∀ n, allF rs (psTo ws fl n) r = sumTo (fun k => if paysB ws fl k = true ∧ isUp (abF rs) (caAt ws k) r = true then 1 else 0) n
 | 0 => rfl
 | n + 1 => by
  have ih := allF_psTo rs ws fl r n
  rw [psTo_succ]
  show _ = sumTo _ n + (if paysB ws fl n = true ∧ isUp (abF rs) (caAt ws n) r = true then 1 else 0)
  by_cases hp : paysB ws fl n = true
  ·rw [if_pos hp, allF_snoc, ih]
   congr 1
   show (if isUp (abF rs) ((caAt ws n : Int)).toNat r = true then (1 : Int) else 0) = _
   rw [Int.toNat_natCast]
   by_cases hu : isUp (abF rs) (caAt ws n) r = true
   ·rw [if_pos hu, if_pos ⟨hp, hu⟩]
   ·rw [if_neg hu, if_neg (fun h => hu h.2)]
  ·rw [if_neg hp, ih, if_neg (fun h => hp h.1), Int.add_zero]
theorem allF_more (rs : List Rch) {ws : List Car} {f1 f2 : List Int} {n : Nat} (h : ∀ k, k < n → paysB ws f1 k = true → paysB ws f2 k = true) (r : Nat) : allF rs (psTo ws f1 n) r ≤ allF rs (psTo ws f2 n) r := by
 rw [allF_psTo, allF_psTo]
 refine sumTo_le fun k hk => ?_
 by_cases e : paysB ws f1 k = true ∧ isUp (abF rs) (caAt ws k) r = true
 ·rw [if_pos e, if_pos ⟨h k hk e.1, e.2⟩]; exact Int.le_refl _
 ·rw [if_neg e]
  by_cases e2 : paysB ws f2 k = true ∧ isUp (abF rs) (caAt ws k) r = true
  ·rw [if_pos e2]; omega
  ·rw [if_neg e2]; exact Int.le_refl _
theorem allF_le14 (rs : List Rch) (ws : List Car) (fl : List Int) {n : Nat} (hn : n ≤ 14) (r : Nat) : allF rs (psTo ws fl n) r ≤ 14 := by
 rw [allF_psTo]
 have h : ∀ m, sumTo (fun k => if paysB ws fl k = true ∧ isUp (abF rs) (caAt ws k) r = true then 1 else 0) m ≤ (m : Int) := fun m => by
  induction m with
  | zero => exact Int.le_refl _
  | succ m ih =>
   show sumTo _ m + (if paysB ws fl m = true ∧ isUp (abF rs) (caAt ws m) r = true then 1 else 0) ≤ _
   by_cases e : paysB ws fl m = true ∧ isUp (abF rs) (caAt ws m) r = true
   ·rw [if_pos e]; omega
   ·rw [if_neg e]; omega
 have := h n
 omega
/-- A share with more payers is not greater. -/
theorem shN_more {rs : List Rch} (hr : RsOk rs) {ws : List Car} {f1 f2 : List Int} {n : Nat} (h : ∀ k, k < n → paysB ws f1 k = true → paysB ws f2 k = true) (p1 : PsOk rs (psTo ws f1 n))
  {i j : Nat} (hi : i < (psTo ws f1 n).length) (e : yAt (psTo ws f1 n) i = yAt (psTo ws f2 n) j) : shN rs (psTo ws f2 n) j ≤ shN rs (psTo ws f1 n) i := by
 unfold shN
 rw [← e]
 have hu : ∀ r ∈ way (abF rs) (yAt (psTo ws f1 n) i).rc, usF rs (psTo ws f1 n) i r = true := fun r hr' => (way_us hr p1 hi r).1 hr'
 generalize way (abF rs) (yAt (psTo ws f1 n) i).rc = l at hu
 unfold sN
 induction l with
 | nil => exact Nat.le_refl _
 | cons x l ih =>
  rw [List.map_cons, List.map_cons, List.sum_cons, List.sum_cons]
  refine Nat.add_le_add ?_ (ih fun r hr' => hu r (List.mem_cons_of_mem _ hr'))
  have h1 := wt_le_all p1 hi (hu x List.mem_cons_self)
  have h2 := allF_more rs h x
  unfold stN
  rw [show wtF (psTo ws f2 n) j = wtF (psTo ws f1 n) i by unfold wtF; rw [e]]
  exact Nat.mul_le_mul_left _ (Nat.div_le_div_left (by omega) (by omega))
theorem step14 : ∀ a, a ≤ 14 → 14858 ∣ lcmT / a := by
 unfold lcmT
 decide
theorem shN_dvd {rs : List Rch} {ws : List Car} {fl : List Int} {n : Nat} (hn : n ≤ 14) (i : Nat) : 14858 ∣ shN rs (psTo ws fl n) i := by
 unfold shN sN
 generalize way (abF rs) (yAt (psTo ws fl n) i).rc = l
 induction l with
 | nil => exact Nat.dvd_zero _
 | cons x l ih =>
  rw [List.map_cons, List.sum_cons]
  refine Nat.dvd_add ?_ ih
  have h1 := allF_le14 rs ws fl hn x
  unfold stN
  exact Nat.dvd_trans (step14 (allF rs (psTo ws fl n) x).toNat (by omega)) (Nat.dvd_mul_left _ _)
theorem ratD_small {S : Nat} (h : 14858 ∣ S) : ratD S lcmT ≤ 360360 := by
 obtain ⟨_, h2, h3, h4⟩ := rat_parts (n := S) (d := lcmT) (by unfold lcmT; omega)
 have hg : 14858 ≤ Nat.gcd S lcmT := Nat.le_of_dvd h4 (Nat.dvd_gcd h ⟨360360, rfl⟩)
 by_cases hd : ratD S lcmT ≤ 360360
 ·exact hd
 ·exfalso
  have := Nat.mul_le_mul (show 360361 ≤ ratD S lcmT by omega) hg
  rw [← h2] at this
  unfold lcmT at this
  omega
theorem ratN_small {S : Nat} (h : 14858 ∣ S) (hS : S ≤ 6 * (65536 * lcmT)) : ratN S lcmT ≤ 393216 * 360360 := by
 have h1 := ratD_small h
 have h2 := rat_cross (n := S) (d := lcmT) (by unfold lcmT; omega)
 have h3 : ratN S lcmT * lcmT ≤ (393216 * 360360) * lcmT := by
  rw [h2]
  refine Nat.le_trans (Nat.mul_le_mul hS h1) ?_
  unfold lcmT
  decide
 exact Nat.le_of_mul_le_mul_right h3 (by unfold lcmT; omega)
theorem rat_le {n m d : Nat} (hd : 0 < d) (h : n ≤ m) : ratN n d * ratD m d ≤ ratN m d * ratD n d := by
 have h1 := rat_cross (n := n) hd
 have h2 := rat_cross (n := m) hd
 refine Nat.le_of_mul_le_mul_right ?_ hd
 rw [show ratN n d * ratD m d * d = ratN n d * d * ratD m d by rw [Nat.mul_right_comm], show ratN m d * ratD n d * d = ratN m d * d * ratD n d by rw [Nat.mul_right_comm], h1, h2, Nat.mul_assoc, Nat.mul_assoc, Nat.mul_comm (ratD n d)]
 exact Nat.mul_le_mul_right _ h
theorem shN_le6 {rs : List Rch} (hr : RsOk rs) (h6 : rs.length ≤ 6) {ps : List Pay} (hp : PsOk rs ps) {i : Nat} (hi : i < ps.length) : shN rs ps i ≤ 6 * (65536 * lcmT) := by
 have hrc := hp.rc i hi
 have h1 := way_len hr.ab rs.length (yAt ps i).rc hrc.2 hrc.2
 refine Nat.le_trans (sN_le hr hp hi _ fun r hm => ⟨(way_lt hr.ab _ hrc.2 r hm).2, (way_us hr hp hi r).1 hm⟩) ?_
 exact Nat.mul_le_mul_right _ (by omega)
/-- What the law compares. -/
theorem shares_cmp {S S' : Nat} (d1 : 14858 ∣ S) (d2 : 14858 ∣ S') (h1 : S ≤ 6 * (65536 * lcmT)) (h2 : S' ≤ 6 * (65536 * lcmT)) (h : S' ≤ S) :
  IntKind.i64.wrap ((ratN S' lcmT : Int) * (ratD S lcmT : Int)) = (ratN S' lcmT : Int) * (ratD S lcmT : Int) ∧ IntKind.i64.wrap ((ratN S lcmT : Int) * (ratD S' lcmT : Int)) = (ratN S lcmT : Int) * (ratD S' lcmT : Int) ∧ (ratN S' lcmT : Int) * (ratD S lcmT : Int) ≤ (ratN S lcmT : Int) * (ratD S' lcmT : Int) := by
 have a1 := Nat.mul_le_mul (ratN_small d2 h2) (ratD_small d1)
 have a2 := Nat.mul_le_mul (ratN_small d1 h1) (ratD_small d2)
 have a3 := rat_le (d := lcmT) (by unfold lcmT; omega) h
 rw [← Int.natCast_mul, ← Int.natCast_mul]
 exact ⟨IntWalk.i64_in _ (by omega), IntWalk.i64_in _ (by omega), by omega⟩
end Go.Proofs.YtegmniphgahblaaGreat
namespace Go.Proofs.YtegmniphgahblaaGreat
open Go.RowKit Go.Shelf

/-- More water of the river. -/
def richV (ri more : List Int) (i : Nat) : Int := min 1048576 (nth ri i + if i < more.length then nth more i else 0)
def richL (ri more : List Int) (k : Nat) : List Int := (List.range k).map (richV ri more)
theorem richL_succ (ri more : List Int) (k : Nat) : richL ri more (k + 1) = richL ri more k ++ [richV ri more k] := by simp [richL, List.range_succ]
theorem richL_len (ri more : List Int) (k : Nat) : (richL ri more k).length = k := by simp [richL]
theorem nth_rich {ri more : List Int} {i k : Nat} (h : i < k) : nth (richL ri more k) i = richV ri more i := nth_range _ h
/-- t is s, with more water of the river. -/
structure Richer (s t : Wt) (more : List Int) : Prop where
 ri : t.ri = richL s.ri more s.ri.length
 bo : t.bo = s.bo
 lk : t.lk = s.lk
 lo : t.lo = s.lo
section
variable {ws : List Car} {s t : Wt} {more : List Int}
theorem Richer.ok (h : Richer s t more) (hm : ∀ i, i < more.length → 0 ≤ nth more i ∧ nth more i ≤ 65535) (k : Ok ws s) : Ok ws t := by
 refine ⟨by rw [h.ri, richL_len]; exact k.l0, by rw [h.bo]; exact k.l1, by rw [h.lk]; exact k.l2, by rw [h.lo]; exact k.l3, fun i hi => ?_, by rw [h.bo]; exact k.r1, by rw [h.lk]; exact k.r2, by rw [h.lo]; exact k.r3⟩
 rw [h.ri, richL_len] at hi
 rw [h.ri, nth_rich hi]
 have h1 := k.r0 i hi
 unfold richV
 by_cases e : i < more.length
 ·have := hm i e
  rw [if_pos e]; omega
 ·rw [if_neg e]; omega
theorem Richer.up (h : Richer s t more) (hm : ∀ i, i < more.length → 0 ≤ nth more i ∧ nth more i ≤ 65535) (k : Ok ws s) (x : Nat) : Up ws x s t := by
 refine ⟨fun j hj => ?_, fun i _ => by rw [h.bo]; exact Int.le_refl _, fun i _ => by rw [h.lk]; exact Int.le_refl _, fun i _ => by rw [h.lo]; exact Int.le_refl _⟩
 have hl : j < s.ri.length := by rw [k.l0]; exact hj
 have h1 := k.r0 j hl
 rw [riv_at hj, h.ri, nth_rich hl]
 have h2 : nth s.ri j ≤ richV s.ri more j := by
  unfold richV
  by_cases e : j < more.length
  ·have := hm j e
   rw [if_pos e]; omega
  ·rw [if_neg e]; omega
 split <;> omega
theorem Richer.flow (h : Richer s t more) (hm : ∀ i, i < more.length → 0 ≤ nth more i ∧ nth more i ≤ 65535) (g : Good ws) (k : Ok ws s) {x : Nat} (hx : x < (outs ws).length) : flowF ws s x ≤ flowF ws t x := mono_flow g k (h.ok hm k) hx (h.up hm k x)
theorem cw_ok (hc : checkE ws = 0) (k : Ok ws s) : cwE ws s = 0 := by unfold cwE; rw [if_pos hc, water_iff.2 k]
theorem flows_nth (he : cwE ws s = 0) {x : Nat} (hx : x < (outs ws).length) : nth (flowsO ws s) x = flowF ws s x := by
 unfold flowsO
 rw [if_pos he, nth_range _ hx]
/-- Who paid pays when the river gives more. -/
theorem Richer.pays (h : Richer s t more) (hm : ∀ i, i < more.length → 0 ≤ nth more i ∧ nth more i ≤ 65535) (hc : checkE ws = 0) (g : Good ws) (k : Ok ws s) : ∀ x, x < (outs ws).length → paysB ws (flowsO ws s) x = true → paysB ws (flowsO ws t) x = true := fun x hx hp => by
 have h1 := flows_nth (cw_ok hc k) hx
 have h2 := flows_nth (cw_ok hc (h.ok hm k)) hx
 have h3 := h.flow hm g k hx
 unfold paysB at hp ⊢
 rw [Bool.and_eq_true, decide_eq_true_eq, decide_eq_true_eq] at hp ⊢
 exact ⟨hp.1, by omega⟩
end
/-- Whether one of the first k payers has an ID. -/
def payId (ps : List Pay) (id : Int) (k : Nat) : Bool := (List.range k).any fun i => decide ((yAt ps i).id = id)
theorem payId_succ (ps : List Pay) (id : Int) (k : Nat) : payId ps id (k + 1) = (payId ps id k || decide ((yAt ps k).id = id)) := by simp [payId, List.range_succ]
theorem payId_iff {ps : List Pay} {id : Int} {k : Nat} : payId ps id k = true ↔ ∃ i, i < k ∧ (yAt ps i).id = id := by simp [payId]
theorem payId_psTo {ws : List Car} (g : Good ws) {fl : List Int} {x : Nat} (hx : x < (outs ws).length) : payId (psTo ws fl (outs ws).length) (oAt (outs ws) x).id (psTo ws fl (outs ws).length).length = paysB ws fl x := by
 rw [Bool.eq_iff_iff, payId_iff]
 constructor
 ·rintro ⟨i, hi, e⟩
  obtain ⟨k, hk, hp, e2⟩ := psTo_at hi
  rw [e2] at e
  exact g.ids k x hk hx e ▸ hp
 ·intro hp
  obtain ⟨i, hi, e⟩ := psTo_has hx hp
  exact ⟨i, hi, by rw [e]; rfl⟩
theorem idx_of {ws : List Car} (g : Good ws) {x : Nat} (hx : x < (outs ws).length) : idxO ws (oAt (outs ws) x).id = some x :=
 idxO_first hx rfl fun i hi e => by have := g.ids i x (by omega) hx e; omega
theorem fc_of {ws : List Car} (g : Good ws) {x : Nat} (hx : x < (outs ws).length) : fcI ws (oAt (outs ws) x).id = (caAt ws x : Int) := by
 unfold fcI
 rw [idx_of g hx]
/-- The beds, as outlets. -/
def bdX (ws : List Car) : List Nat := (List.range (outs ws).length).filter fun i => decide ((oAt (outs ws) i).into < 0)
theorem bdX_at {ws : List Car} {i : Nat} (h : i < (bdX ws).length) : (bdX ws).getD i 0 < (outs ws).length ∧ (oAt (outs ws) ((bdX ws).getD i 0)).into < 0 := by
 have hm : (bdX ws).getD i 0 ∈ bdX ws := by
  rw [List.getD_eq_getElem?_getD, List.getElem?_eq_getElem h]
  exact List.getElem_mem h
 have h1 := List.mem_filter.1 hm
 exact ⟨List.mem_range.1 h1.1, of_decide_eq_true h1.2⟩
theorem bdL_bdX {ws : List Car} (hc : checkE ws = 0) : bdL ws = (bdX ws).map fun i => (oAt (outs ws) i).id := by
 unfold bdL
 rw [if_pos hc]
 rfl
theorem bdL_at {ws : List Car} (hc : checkE ws = 0) {i : Nat} (h : i < (bdX ws).length) : nth (bdL ws) i = (oAt (outs ws) ((bdX ws).getD i 0)).id := by
 rw [bdL_bdX hc]
 unfold nth
 rw [List.getD_eq_getElem?_getD, List.getD_eq_getElem?_getD, List.getElem?_map, List.getElem?_eq_getElem h]
 rfl
theorem bdX_le (ws : List Car) : (bdX ws).length ≤ (outs ws).length := by
 have := List.length_filter_le (fun i => decide ((oAt (outs ws) i).into < 0)) (List.range (outs ws).length)
 rw [List.length_range] at this
 exact this
/-- The path of a payer in the works, and in the tree. -/
theorem path_way {ws : List Car} {cost : List Int} (g : Good ws) (ok : RsOk (rsTo ws cost ws.length)) {x : Nat} (hx : x < (outs ws).length) : (way (abF (rsTo ws cost ws.length)) (caAt ws x : Int)).reverse = (pathN ws x).map (caAt ws) := by
 rw [way_path g _ x rfl hx (by have := ok.ab; rwa [rsTo_len] at this), ← List.map_reverse]
 rfl
theorem path_at {ws : List Car} {cost : List Int} (g : Good ws) (ok : RsOk (rsTo ws cost ws.length)) {x k : Nat} (hx : x < (outs ws).length) (hk : k < (pathN ws x).length) :
  fcI ws (nth (ptX ws x) k) = nth (ints (way (abF (rsTo ws cost ws.length)) (caAt ws x : Int)).reverse) k := by
 have h1 := path_lt g hx hk
 have e1 : nth (ptX ws x) k = (oAt (outs ws) ((pathN ws x).getD k 0)).id := by
  unfold ptX nth
  rw [List.getD_eq_getElem?_getD, List.getD_eq_getElem?_getD, List.getElem?_map, List.getElem?_eq_getElem hk]
  rfl
 rw [e1, fc_of g h1, path_way g ok hx, nth_ints (by rw [List.length_map]; exact hk)]
 rw [List.getD_eq_getElem?_getD, List.getD_eq_getElem?_getD, List.getElem?_map, List.getElem?_eq_getElem hk]
 rfl
theorem path_len {ws : List Car} {cost : List Int} (g : Good ws) (ok : RsOk (rsTo ws cost ws.length)) {x : Nat} (hx : x < (outs ws).length) : (way (abF (rsTo ws cost ws.length)) (caAt ws x : Int)).length = (ptX ws x).length := by
 rw [← List.length_reverse, path_way g ok hx]
 unfold ptX
 rw [List.length_map, List.length_map]
/-- Who pays, by the ends of the case. -/
theorem pays_ends {ws : List Car} {cs : Cs} {s : Wt} (hc : checkE ws = 0) (g : Good ws) (k : CsOk ws cs) (ok : Ok ws s) (hf : fitsB cs s = true) {x : Nat} (hx : x < (outs ws).length) (hi : (oAt (outs ws) x).into < 0) :
  ((endsF ws cs x).1 > 0 → paysB ws (flowsO ws s) x = true) ∧ ((endsF ws cs x).2 = 0 → paysB ws (flowsO ws s) x = false) := by
 have h1 := flows_nth (cw_ok hc ok) hx
 have h2 := flow_between g k ok hf hx
 unfold paysB
 rw [decide_eq_true hi, Bool.true_and, h1]
 exact ⟨fun h => decide_eq_true (by omega), fun h => decide_eq_false (by omega)⟩
end Go.Proofs.YtegmniphgahblaaGreat
namespace Go.Proofs.YtegmniphgahblaaGreat
open Go.RowKit Go.Shelf

def exN (s : Wt) : Prop := s.ri = [100] ∧ s.bo = [1, 1, 2, 1] ∧ s.lk = [5, 1, 0, 2] ∧ s.lo = [2, 10, 3, 0]
section
variable (m : MA)
set_option maxRecDepth 100000
theorem ex_check : checkE (mead m) = 0 := by kernel_rfl
theorem ex_cw {s : Wt} (h : exN s) : cwE (mead m) s = 0 := by
 obtain ⟨A0, A1, A2, A3, c0, c1, c2, c3, ri, bo, lk, lo⟩ := s
 obtain ⟨rfl, rfl, rfl, rfl⟩ := h
 kernel_rfl
theorem ex_flow {s : Wt} (h : exN s) : flowsO (mead m) s = [45, 31, 20, 22] := by
 obtain ⟨A0, A1, A2, A3, c0, c1, c2, c3, ri, bo, lk, lo⟩ := s
 obtain ⟨rfl, rfl, rfl, rfl⟩ := h
 kernel_rfl
theorem ex_good : Good (mead m) := good_of_check (ex_check m)
theorem ex_len : (mead m).length = 2 := rfl
theorem ex_outs : (outs (mead m)).length = 4 := rfl
theorem ex_rs : rsTo (mead m) [9, 4] 2 = [⟨-1, 9⟩, ⟨0, 4⟩] := by kernel_rfl
theorem ex_ps : (psTo (mead m) [45, 31, 20, 22] 4).length = 3 := by kernel_rfl
theorem ex_pl : psTo (mead m) [45, 31, 20, 22] 4 = [⟨2, 0, 1⟩, ⟨3, 1, 1⟩, ⟨4, 1, 1⟩] := by kernel_rfl
def exR : List Rch := [⟨-1, 9⟩, ⟨0, 4⟩]
def exP : List Pay := [⟨2, 0, 1⟩, ⟨3, 1, 1⟩, ⟨4, 1, 1⟩]
theorem ex_all0 : allF exR exP 0 = 3 := by kernel_rfl
theorem ex_all1 : allF exR exP 1 = 2 := by kernel_rfl
theorem ex_st (i r : Nat) (c w a n : Int) (hc : coF exR r = c) (hw : wtF exP i = w) (ha : allF exR exP r = a) (hn : c.toNat * w.toNat * (lcmT / a.toNat) = n.toNat) : stN exR exP i r = n.toNat := by
 unfold stN
 rw [hc, hw, ha, hn]
theorem ex_s0 : shN exR exP 0 = 3 * lcmT := by
 have h : shN exR exP 0 = stN exR exP 0 0 := by kernel_rfl
 rw [h, ex_st 0 0 9 1 3 (3 * lcmT) (by rfl) (by rfl) ex_all0 (by decide)]
 rfl
theorem ex_s1 : shN exR exP 1 = 5 * lcmT := by
 have h : shN exR exP 1 = stN exR exP 1 1 + stN exR exP 1 0 := by kernel_rfl
 rw [h, ex_st 1 1 4 1 2 (2 * lcmT) (by rfl) (by rfl) ex_all1 (by decide), ex_st 1 0 9 1 3 (3 * lcmT) (by rfl) (by rfl) ex_all0 (by decide)]
 rfl
theorem ex_s2 : shN exR exP 2 = 5 * lcmT := by
 have h : shN exR exP 2 = stN exR exP 2 1 + stN exR exP 2 0 := by kernel_rfl
 rw [h, ex_st 2 1 4 1 2 (2 * lcmT) (by rfl) (by rfl) ex_all1 (by decide), ex_st 2 0 9 1 3 (3 * lcmT) (by rfl) (by rfl) ex_all0 (by decide)]
 rfl
theorem ex_sh : shTo exR exP 3 = [3 * lcmT, 5 * lcmT, 5 * lcmT] := by
 show [shN exR exP 0, shN exR exP 1, shN exR exP 2] = _
 rw [ex_s0, ex_s1, ex_s2]
theorem ex_sh3 : shL (3 * lcmT) = [.int .i64 3, .int .i64 1] := by kernel_rfl
theorem ex_sh5 : shL (5 * lcmT) = [.int .i64 5, .int .i64 1] := by kernel_rfl
end
end Go.Proofs.YtegmniphgahblaaGreat
