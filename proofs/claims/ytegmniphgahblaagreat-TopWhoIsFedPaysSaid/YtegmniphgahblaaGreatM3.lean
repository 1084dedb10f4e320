/- Plain: inside a fence: a scope through which the run goes without a goto, and a label. No program here. | Walks: find. | Walks: listed. | Walks: all, and the closures of checkWater. | Plain: a region that draws its order: from a state on, all that is left is quiet (its callees may lay blocks): ONE walk of what is left. No program here. | Walks: checkWater, CheckWater. | Walks: CheckWater. -/
import Derived.ControlIn
import Derived.Scope
import Derived.Test.YtegmniphgahblaaGreatM2
import Derived.Test.YtegmniphgahblaaGreatM1
import Derived.Shelf.Abstract
import Derived.Deep.RegionHeld3
namespace Go.Proofs.YtegmniphgahblaaGreat

section
variable {F : Fence} {n : Nat} {P : Program} {Q : Exit → Act → World → Prop} {a : Act} {w : World} {b : Frame} {k : List Item} {cs : List Frame}
theorem stepR_scope {c : Code} : step P (lone (b.atR a (.code (.scope c) :: k)) cs w) = .next (lone (b.atR a (.code c :: .inScope c :: k)) cs w) :=
 step_lone_go (by simp [stepG, stepG.exec, Frame.atR])
theorem stepR_inScope {c : Code} : step P (lone (b.atR a (.inScope c :: k)) cs w) = .next (lone (b.atR a k) cs w) :=
 step_lone_go (by simp [stepG, stepG.exec, Frame.atR])
theorem wpIn_scope_straight {c : Code} (h : c.wpIn F n P (Exit.noGoto Q) a w) : (Code.scope c).wpIn F n P Q a w := by
 intro b k cs hro hb hr
 have h0 : (lone (b.atR a (.code (.scope c) :: k)) cs w).fenced P F := fenced_calm hb hr rfl
 obtain ⟨e, a₁, w₁, hq, harr⟩ := h b (.inScope c :: k) cs hro hb hr
 cases e with
 | normal => exact ⟨.normal, a₁, w₁, hq, .head h0 stepR_scope (StepsIn.trans harr (.one (fenced_calm hb hr rfl) stepR_inScope))⟩
 | exit id =>
  have hx : exitTo id (.inScope c :: k) = exitTo id k := by simp [exitTo]
  exact ⟨_, a₁, w₁, hq, .of_steps (.one h0 stepR_scope) ⟨fun k' hk => harr.1 k' (by rw [hx]; exact hk), fun hr hk => harr.2 hr (by rw [hx]; exact hk)⟩⟩
 | goto l => exact hq.elim
 | ret => exact ⟨_, a₁, w₁, hq, .of_steps (.one h0 stepR_scope) harr⟩
 | panic ch => exact ⟨_, a₁, w₁, hq, .of_steps (.one h0 stepR_scope) harr⟩
 | outgrown => exact ⟨_, a₁, w₁, hq, .of_steps (.one h0 stepR_scope) harr⟩
end
end Go.Proofs.YtegmniphgahblaaGreat
namespace Go.Proofs.YtegmniphgahblaaGreat
open Go.RowKit Go.Shelf
attribute [local go_sem] Oper.semAt_some

/-- The number of the outlet that has an ID. -/
def idxO (ws : List Car) (id : Int) : Option Nat := (List.range (outs ws).length).find? fun i => decide ((oAt (outs ws) i).id = id)
theorem idxO_some {ws : List Car} {id : Int} {i : Nat} (h : idxO ws id = some i) : i < (outs ws).length ∧ (oAt (outs ws) i).id = id := by
 unfold idxO at h
 exact ⟨by simpa using List.mem_of_find?_eq_some h, by simpa using List.find?_some h⟩
theorem idxO_none {ws : List Car} {id : Int} (h : ∀ y : Fin (outs ws).length, (oAt (outs ws) y.1).id ≠ id) : idxO ws id = none := by
 unfold idxO
 rw [List.find?_eq_none]
 intro i hi
 have := h ⟨i, by simpa using hi⟩
 simpa using this
theorem idxO_first {ws : List Car} {id : Int} {k : Nat} (hk : k < (outs ws).length) (h : (oAt (outs ws) k).id = id) (hn : ∀ i, i < k → (oAt (outs ws) i).id ≠ id) : idxO ws id = some k := by
 unfold idxO
 rw [List.find?_range_eq_some]
 exact ⟨by simpa using h, by simpa using hk, fun i hi => by simpa using hn i hi⟩
def plO (ws : List Car) (o : Option Nat) : Int × Int × Int := match o with | none => (0, 0, 0) | some i => pl ws i

abbrev Blk (W : World) (g : Nat) (cs : Array Value) (ty : TypeId) : Prop := W.heap[g]? = some (.cells cs ty (0, 0))
theorem Blk.kept {W W' : World} {row : Option Nat} {g : Nat} {cs : Array Value} {ty : TypeId} (h : Blk W g cs ty) (hg : W.grownBy W' row) (hr : ∀ r, row = some r → ∃ o : Obj, W.heap[r]? = some o ∧ o.isCells = false) : Blk W' g cs ty := heap_kept h rfl hg hr
theorem blk_frozen {W : World} {g i : Nat} {cs : Array Value} {ty : TypeId} (h : Blk W g cs ty) : W.frozen? ⟨g, i, none⟩ = false := by simp [World.frozen?, show W.heap[g]? = _ from h]
theorem bf {W : World} {g : Nat} {cs : Array Value} {ty : TypeId} (i : Nat) (h : Blk W g cs ty) : W.frozen? ⟨g, i, none⟩ = false := blk_frozen h

structure FindI (w : World) (ws : List Car) (id : Int) (pre : List (Fin (outs ws).length)) (W : World) : Prop where
 i1 : Blk W (w.heap.size + 1) #[.int .i64 id] 3
 r : Blk W (w.heap.size + 1 + 1) #[.int .i64 0, .int .i64 0, .int .i64 0] 103
 o : Blk W (w.heap.size + 1 + 1 + 1) #[.int .i64 0, .int .i64 0, .int .i64 0] 103
 f : Blk W (w.heap.size + 1 + 1 + 1 + 1) #[.bool false] 4
 bl : Below w.heap.size w W
 lt : w.heap.size + 6 ≤ W.heap.size
 no : ∀ y ∈ pre, (oAt (outs ws) y.1).id ≠ id
theorem FindI.kept {w : World} {ws : List Car} {id : Int} {pre : List (Fin (outs ws).length)} {W W' : World} {row : Option Nat} (h : FindI w ws id pre W) (hg : W.grownBy W' row) (hr : ∀ r, row = some r → w.heap.size + 6 ≤ r ∧ ∃ o : Obj, W.heap[r]? = some o ∧ o.isCells = false) : FindI w ws id pre W' := by
 have hr2 := fun r e => (hr r e).2
 exact ⟨h.i1.kept hg hr2, h.r.kept hg hr2, h.o.kept hg hr2, h.f.kept hg hr2, h.bl.grown hg h.bl.size (fun k e => by have := (hr k e).1; omega), Nat.le_trans h.lt hg.size, h.no⟩

/-- Behind the break: the place that was found. -/
structure FoundI (w : World) (p : Int × Int × Int) (W : World) : Prop where
 r : Blk W (w.heap.size + 1 + 1) #[.int .i64 0, .int .i64 0, .int .i64 0] 103
 o0 : W.cell? ⟨w.heap.size + 1 + 1 + 1, 0, none⟩ = some (.int .i64 p.1)
 o1 : W.cell? ⟨w.heap.size + 1 + 1 + 1, 1, none⟩ = some (.int .i64 p.2.1)
 o2 : W.cell? ⟨w.heap.size + 1 + 1 + 1, 2, none⟩ = some (.int .i64 p.2.2)
 f : W.cell? ⟨w.heap.size + 1 + 1 + 1 + 1, 0, none⟩ = some (.bool true)
 bl : Below w.heap.size w W
 lt : w.heap.size + 6 ≤ W.heap.size
theorem FoundI.kept {w : World} {p : Int × Int × Int} {W W' : World} {row : Option Nat} (h : FoundI w p W) (hg : W.grownBy W' row) (hr : ∀ r, row = some r → w.heap.size + 6 ≤ r ∧ ∃ o : Obj, W.heap[r]? = some o ∧ o.isCells = false) : FoundI w p W' := by
 have hr2 := fun r e => (hr r e).2
 exact ⟨h.r.kept hg hr2, cell_kept h.o0 hg hr2, cell_kept h.o1 hg hr2, cell_kept h.o2 hg hr2, cell_kept h.f hg hr2, h.bl.grown hg h.bl.size (fun k e => by have := (hr k e).1; omega), Nat.le_trans h.lt hg.size⟩
theorem FindI.found {w : World} {ws : List Car} {id : Int} {pre : List (Fin (outs ws).length)} {W : World} (h : FindI w ws id pre W) (p : Int × Int × Int) :
  FoundI w p ((((W.setCell ⟨w.heap.size + 1 + 1 + 1, 0, none⟩ (.int .i64 p.1)).setCell ⟨w.heap.size + 1 + 1 + 1, 1, none⟩ (.int .i64 p.2.1)).setCell ⟨w.heap.size + 1 + 1 + 1, 2, none⟩ (.int .i64 p.2.2)).setCell ⟨w.heap.size + 1 + 1 + 1 + 1, 0, none⟩ (.bool true)) := by
 have k : ∀ {W : World} {g : Nat} {cs : Array Value} {ty : TypeId} (a : Addr) (v : Value), g ≠ a.block → Blk W g cs ty → Blk (W.setCell a v) g cs ty := fun a v hne hb => (Below.heap_setCell _ _ _ _ hne).trans hb
 have c0 : W.cell? ⟨w.heap.size + 1 + 1 + 1, 0, none⟩ = some (.int .i64 0) := cell_row h.o
 have c1 : W.cell? ⟨w.heap.size + 1 + 1 + 1, 1, none⟩ = some (.int .i64 0) := cell_row h.o
 have c2 : W.cell? ⟨w.heap.size + 1 + 1 + 1, 2, none⟩ = some (.int .i64 0) := cell_row h.o
 have cf : W.cell? ⟨w.heap.size + 1 + 1 + 1 + 1, 0, none⟩ = some (.bool false) := cell_row h.f
 have n : ∀ (W : World) (p q : Addr) (v : Value), p ≠ q → (W.setCell p v).cell? q = W.cell? q := fun W p q v hne => World.cell?_setCell_other W p q v hne
 refine ⟨k _ _ (by simp) (k _ _ (by simp) (k _ _ (by simp) (k _ _ (by simp) h.r))), ?_, ?_, ?_, ?_, (((h.bl.setCell ?_ _).setCell ?_ _).setCell ?_ _).setCell ?_ _, ?_⟩
 ·rw [n _ _ _ _ (by simp), n _ _ _ _ (by simp), n _ _ _ _ (by simp)]; exact World.cell?_setCell_same' _ _ _ (by rw [c0]; rfl)
 ·rw [n _ _ _ _ (by simp), n _ _ _ _ (by simp)]; exact World.cell?_setCell_same' _ _ _ (by rw [n _ _ _ _ (by simp), c1]; rfl)
 ·rw [n _ _ _ _ (by simp)]; exact World.cell?_setCell_same' _ _ _ (by rw [n _ _ _ _ (by simp), n _ _ _ _ (by simp), c2]; rfl)
 ·exact World.cell?_setCell_same' _ _ _ (by rw [n _ _ _ _ (by simp), n _ _ _ _ (by simp), n _ _ _ _ (by simp), cf]; rfl)
 ·show w.heap.size ≤ w.heap.size + 1 + 1 + 1; omega
 ·show w.heap.size ≤ w.heap.size + 1 + 1 + 1; omega
 ·show w.heap.size ≤ w.heap.size + 1 + 1 + 1; omega
 ·show w.heap.size ≤ w.heap.size + 1 + 1 + 1 + 1; omega
 ·simp only [World.size_setCell]; exact h.lt

theorem blk_alloc {W : World} {g : Nat} {cs : Array Value} {ty : TypeId} (h : Blk W g cs ty) (o : Obj) : Blk (W.alloc o) g cs ty := (Below.heap_alloc _ _ _ (Array.getElem?_eq_some_iff.1 h).1).trans h
theorem blk_new (W : World) (cs : Array Value) (ty : TypeId) {g : Nat} (hg : g = W.heap.size) : Blk (W.alloc (.cells cs ty)) g cs ty := by subst hg; exact World.alloc_heap_new W _
theorem FindI.start (w : World) (S : Value) (ws : List Car) (id : Int) : FindI w ws id [] ((((((w.alloc (.cells #[S] 24)).alloc (.cells #[.int .i64 id] 3)).alloc (.cells #[.int .i64 0, .int .i64 0, .int .i64 0] 103)).alloc (.cells #[.int .i64 0, .int .i64 0, .int .i64 0] 103)).alloc (.cells #[.bool false] 4)).alloc (.cells #[S] 24)) :=
 ⟨blk_alloc (blk_alloc (blk_alloc (blk_alloc (blk_new _ _ _ (by simp)) _) _) _) _, blk_alloc (blk_alloc (blk_alloc (blk_new _ _ _ (by simp)) _) _) _, blk_alloc (blk_alloc (blk_new _ _ _ (by simp)) _) _, blk_alloc (blk_new _ _ _ (by simp)) _,
  ((((((Below.refl _ w).alloc (Nat.le_refl _) _).alloc (by simp) _).alloc (by simp; omega) _).alloc (by simp; omega) _).alloc (by simp; omega) _).alloc (by simp; omega) _, by simp, fun y h => (by cases h)⟩

theorem find_fin {w W : World} {D : Nat} (hr : Blk W (w.heap.size + 1 + 1) #[.int .i64 0, .int .i64 0, .int .i64 0] 103) (hb : Below w.heap.size w W) (hD : w.heap.size + 6 ≤ D) (hK : W.heap[D]? = some (.deferred (some []))) (x y z : Int) :
  ((((W.drew.setCell ⟨w.heap.size + 1 + 1, 0, none⟩ (.int .i64 x)).setCell ⟨w.heap.size + 1 + 1, 1, none⟩ (.int .i64 y)).setCell ⟨w.heap.size + 1 + 1, 2, none⟩ (.int .i64 z)).heap[D]? = some (.deferred (some []))) ∧
  ((((W.drew.setCell ⟨w.heap.size + 1 + 1, 0, none⟩ (.int .i64 x)).setCell ⟨w.heap.size + 1 + 1, 1, none⟩ (.int .i64 y)).setCell ⟨w.heap.size + 1 + 1, 2, none⟩ (.int .i64 z)).putObj D (.deferred none)).cell? ⟨w.heap.size + 1 + 1, 0, none⟩ = some (.int .i64 x) ∧
  ((((W.drew.setCell ⟨w.heap.size + 1 + 1, 0, none⟩ (.int .i64 x)).setCell ⟨w.heap.size + 1 + 1, 1, none⟩ (.int .i64 y)).setCell ⟨w.heap.size + 1 + 1, 2, none⟩ (.int .i64 z)).putObj D (.deferred none)).cell? ⟨w.heap.size + 1 + 1, 1, none⟩ = some (.int .i64 y) ∧
  ((((W.drew.setCell ⟨w.heap.size + 1 + 1, 0, none⟩ (.int .i64 x)).setCell ⟨w.heap.size + 1 + 1, 1, none⟩ (.int .i64 y)).setCell ⟨w.heap.size + 1 + 1, 2, none⟩ (.int .i64 z)).putObj D (.deferred none)).cell? ⟨w.heap.size + 1 + 1, 2, none⟩ = some (.int .i64 z) ∧
  Below w.heap.size w ((((W.drew.setCell ⟨w.heap.size + 1 + 1, 0, none⟩ (.int .i64 x)).setCell ⟨w.heap.size + 1 + 1, 1, none⟩ (.int .i64 y)).setCell ⟨w.heap.size + 1 + 1, 2, none⟩ (.int .i64 z)).putObj D (.deferred none)) := by
 have n : ∀ (W : World) (p q : Addr) (v : Value), p ≠ q → (W.setCell p v).cell? q = W.cell? q := fun W p q v hne => World.cell?_setCell_other W p q v hne
 have r0 : W.drew.cell? ⟨w.heap.size + 1 + 1, 0, none⟩ = some (.int .i64 0) := cell_row (W := W.drew) hr
 have r1 : W.drew.cell? ⟨w.heap.size + 1 + 1, 1, none⟩ = some (.int .i64 0) := cell_row (W := W.drew) hr
 have r2 : W.drew.cell? ⟨w.heap.size + 1 + 1, 2, none⟩ = some (.int .i64 0) := cell_row (W := W.drew) hr
 have k : ∀ {W : World} (a : Addr) (v : Value), D ≠ a.block → W.heap[D]? = some (.deferred (some [])) → (W.setCell a v).heap[D]? = some (.deferred (some [])) := fun a v hne hb => (Below.heap_setCell _ _ _ _ hne).trans hb
 have hk := k (W := (W.drew.setCell ⟨w.heap.size + 1 + 1, 0, none⟩ (.int .i64 x)).setCell ⟨w.heap.size + 1 + 1, 1, none⟩ (.int .i64 y)) ⟨w.heap.size + 1 + 1, 2, none⟩ (.int .i64 z) (by show D ≠ w.heap.size + 1 + 1; omega) (k _ _ (by show D ≠ w.heap.size + 1 + 1; omega) (k (W := W.drew) _ _ (by show D ≠ w.heap.size + 1 + 1; omega) hK))
 refine ⟨hk, ?_, ?_, ?_, ((((hb.drew).setCell ?_ _).setCell ?_ _).setCell ?_ _).trans (belowK_b (w := w) (Nat.le_refl _) _ D _ _ (by omega) hk rfl rfl)⟩
 ·rw [putObj_cell (by omega), n _ _ _ _ (by simp), n _ _ _ _ (by simp)]; exact World.cell?_setCell_same' _ _ _ (by rw [r0]; rfl)
 ·rw [putObj_cell (by omega), n _ _ _ _ (by simp)]; exact World.cell?_setCell_same' _ _ _ (by rw [n _ _ _ _ (by simp), r1]; rfl)
 ·rw [putObj_cell (by omega)]; exact World.cell?_setCell_same' _ _ _ (by rw [n _ _ _ _ (by simp), n _ _ _ _ (by simp), r2]; rfl)
 ·show w.heap.size ≤ w.heap.size + 1 + 1; omega
 ·show w.heap.size ≤ w.heap.size + 1 + 1; omega
 ·show w.heap.size ≤ w.heap.size + 1 + 1; omega

set_option maxRecDepth 100000 in
set_option maxHeartbeats 2000000 in
theorem find_in (n : Nat) (hn : 3 ≤ n) (A : Option Addr) (c : Nat) (ws : List Car) (id : Int) (w : World) (hW : Wk w A ws) :
  CallsIn Fence.wide n Tryz.prog 52 #[.agg #[.slice A ws.length c], .int .i64 id] w fun e w' => e = .returned (.tuple #[plV (plO ws (idxO ws id)), .bool (idxO ws id).isSome]) ∧ Below w.heap.size w w' := by
 have h := hW.rd
 have hm : ws.length ≤ maxLen := by have := hW.n1; unfold maxLen; omega
 have hN : (outs ws).length ≤ 1000000000 := by have := hW.n2; omega
 have h1 : 1 ≤ n := by omega
 obtain ⟨R, hR⟩ : ∃ R : Value, R = .tuple #[plV (plO ws (idxO ws id)), .bool (idxO ws id).isSome] := ⟨_, rfl⟩
 rw [← hR]
 have HNo := Lib.hid (fun (hy : ∀ y : Fin (outs ws).length, (oAt (outs ws) y.1).id ≠ id) => (show R = .tuple #[.agg #[.int .i64 0, .int .i64 0, .int .i64 0], .bool false] by rw [hR, idxO_none hy]; rfl))
 have HYes := Lib.hid (fun (j : Nat) (x : Fin (outs ws).length) (pre' : List (Fin (outs ws).length)) (hj : j < (outs ws).length) (e : firsts (outs ws).length (j + 1) = pre' ++ [x]) (h3 : (oAt (outs ws) x.1).id = id) (h4 : ∀ y ∈ pre', (oAt (outs ws) y.1).id ≠ id) =>
  (show R = .tuple #[.agg #[.int .i64 (x.1 : Int), .int .i64 (caAt ws x.1 : Int), .int .i64 (atAt ws x.1 : Int)], .bool true] by
   rw [firsts_succ hj] at e
   have e2 := List.append_inj' e rfl
   have e3 : x = ⟨j, hj⟩ := by have := e2.2; simp at this; exact this.symm
   subst e3
   rw [hR, idxO_first hj h3 (fun i hi => h4 ⟨i, by omega⟩ (by rw [← e2.1]; exact firsts_mem.2 hi))]
   rfl))
 clear hR
 refine callsIn_of_wp_marks Tryz.func52 rfl trivial ?_ rfl
 simp only [Tryz.ntmps52, List.size_toArray, List.length_cons, List.length_nil, Nat.reduceAdd, Nat.reduceSub, Array.replicate_succ, Array.replicate_zero, List.push_toArray, List.append_toArray, List.nil_append, List.cons_append]
 gi_wp2
 refine wpIn_scope_straight ?_
 gi_wp2
 refine wpIn_label ?_
 gi_wp2
 refine ⟨trivial, ?_⟩
 refine (callsIn_wide.2 (outlets_any A c ws.length _)).mono ?_
 rintro e w' ⟨rfl, rfl⟩
 gi_wp2
 have hI0 := FindI.start w (.slice A ws.length c) ws id
 have c8 : ((((((w.alloc (.cells #[.slice A ws.length c] 24)).alloc (.cells #[.int .i64 id] 3)).alloc (.cells #[.int .i64 0, .int .i64 0, .int .i64 0] 103)).alloc (.cells #[.int .i64 0, .int .i64 0, .int .i64 0] 103)).alloc (.cells #[.bool false] 4)).alloc (.cells #[.slice A ws.length c] 24)).cell? ⟨w.heap.size + 1 + 1 + 1 + 1 + 1, 0, none⟩ = some (.slice A ws.length c) := by simp [go_sem]
 have hsz : ((((((w.alloc (.cells #[.slice A ws.length c] 24)).alloc (.cells #[.int .i64 id] 3)).alloc (.cells #[.int .i64 0, .int .i64 0, .int .i64 0] 103)).alloc (.cells #[.int .i64 0, .int .i64 0, .int .i64 0] 103)).alloc (.cells #[.bool false] 4)).alloc (.cells #[.slice A ws.length c] 24)).heap.size = w.heap.size + 6 := by simp
 generalize hgW : ((((((w.alloc (.cells #[.slice A ws.length c] 24)).alloc (.cells #[.int .i64 id] 3)).alloc (.cells #[.int .i64 0, .int .i64 0, .int .i64 0] 103)).alloc (.cells #[.int .i64 0, .int .i64 0, .int .i64 0] 103)).alloc (.cells #[.bool false] 4)).alloc (.cells #[.slice A ws.length c] 24)) = W2 at *
 clear hgW
 have hseq := outlets_stops (n - 1) (by omega) w.heap.size (w.heap.size + 1 + 1 + 1 + 1 + 1) A c ws W2 hI0.bl.size c8 (by omega) (h.below hI0.bl (Nat.le_refl _)) hm hN
 have hO : OwnFrom W2.heap.size (fun pre W => FindI w ws id pre W) := fun pre W W' row hi hgr hrow => hi.kept hgr (fun r e => ⟨by have := (hrow r e).1; omega, (hrow r e).2⟩)
 obtain ⟨Ix, hIx⟩ : ∃ Ix : Code → List (Fin (outs ws).length) → World → Prop, ∀ k pre W, Ix k pre W ↔ (k = .exit 0 ∧ ∃ pre' x, pre = pre' ++ [x] ∧ (oAt (outs ws) x.1).id = id ∧ (∀ y ∈ pre', (oAt (outs ws) y.1).id ≠ id) ∧ FoundI w (pl ws x.1) W) := ⟨_, fun _ _ _ => Iff.rfl⟩
 have hOx : ∀ k, OwnFrom W2.heap.size (Ix k) := fun k pre W W' row hi hgr hrow => by
  obtain ⟨i1, pre', x, i2, i3, i4, i5⟩ := (hIx _ _ _).1 hi
  exact (hIx _ _ _).2 ⟨i1, pre', x, i2, i3, i4, i5.kept hgr (fun r e => ⟨by have := (hrow r e).1; omega, (hrow r e).2⟩)⟩
 refine wpIn_rangeFunc_ownH rfl h1 (gf := 68) (lb := #[.pointer (some ⟨w.heap.size + 1 + 1 + 1 + 1 + 1, 0, none⟩)]) rfl trivial eg_outlets hseq belowK_t (belowK_b hI0.bl.size) (Below.refl _ W2) (fun _ => rfl)
  (fun pre W => FindI w ws id pre W) Ix hO hOx hI0
  (fun x a' W => ∃ g4 g5, a' = { tmps := #[.agg #[.slice A ws.length c], .int .i64 id, .pointer (some ⟨w.heap.size, 0, none⟩), .pointer (some ⟨w.heap.size + 1, 0, none⟩), .pointer (some ⟨w.heap.size + 1 + 1, 0, none⟩), .bool false, .pointer (some ⟨w.heap.size + 1 + 1 + 1, 0, none⟩), .pointer (some ⟨w.heap.size + 1 + 1 + 1 + 1, 0, none⟩), .pointer (some ⟨g4, 0, none⟩), .pointer (some ⟨g5, 0, none⟩),
    .agg #[.int .i64 0, .int .i64 0, .int .i64 0], .agg #[.slice A ws.length c], .func (.func 68) #[] #[.pointer (some ⟨w.heap.size + 1 + 1 + 1 + 1 + 1, 0, none⟩)], .agg #[.int .i64 (x.1 : Int), .int .i64 (caAt ws x.1 : Int), .int .i64 (atAt ws x.1 : Int)], (oAt (outs ws) x.1).v,
    undef, undef, undef, undef, undef, undef, undef], defers := [] } ∧ Bx W g4 g5 ws x.1)
  ?ownA ?assign ?body ?done ?stop
 case ownA =>
  rintro x a' _ W W' row ⟨g4, g5, e, hx⟩ hgr hrow
  exact ⟨g4, g5, e, hx.kept hgr (fun r e => (hrow r e).2)⟩
 case assign =>
  intro l pre x W K hi hK
  have hbl := hi.bl.size
  dsimp only [encI, Ot.v]
  gi_wp2
  exact hK _ _ (two_keeps _ _ _ _) (two_below hbl _ _) (hO.alloc _ (hO.alloc _ hi)) ⟨_, _, rfl, Bx.new W ws x.1⟩
 case body =>
  rintro l pre x a' W hl hrec hi ⟨g4, g5, rfl, hx⟩ hpre
  obtain ⟨p0, p1, p2⟩ := hx.place
  obtain ⟨o0, o1, o2, o3, o4, o5, o6⟩ := hx.outlet
  have i1 : W.cell? ⟨w.heap.size + 1, 0, none⟩ = some (.int .i64 id) := cell_row hi.i1
  have f0 : W.cell? ⟨w.heap.size + 1 + 1 + 1, 0, none⟩ = some (.int .i64 0) := cell_row hi.o
  have f1 : W.cell? ⟨w.heap.size + 1 + 1 + 1, 1, none⟩ = some (.int .i64 0) := cell_row hi.o
  have f2 : W.cell? ⟨w.heap.size + 1 + 1 + 1, 2, none⟩ = some (.int .i64 0) := cell_row hi.o
  have f3 : W.cell? ⟨w.heap.size + 1 + 1 + 1 + 1, 0, none⟩ = some (.bool false) := cell_row hi.f
  have z0 := bf 0 hi.o
  have z1 := bf 1 hi.o
  have z2 := bf 2 hi.o
  have z3 := bf 0 hi.f
  have HI := hd2 hi (hi.found (pl ws x.1))
  have hsb := hi.bl.size
  clear hx hi hseq o1 o2 o3 o4 o5 o6
  by_cases hq : (oAt (outs ws) x.1).id = id
  ·have hqz : ((oAt (outs ws) x.1).id == id) = true := by simpa using hq
   have HQ := Lib.hid hq
   clear hq
   gi_wp2
   refine ⟨((((KeepsOthers.setCell _ _ _).trans (KeepsOthers.setCell _ _ _)).trans (KeepsOthers.setCell _ _ _)).trans (KeepsOthers.setCell _ _ _)).from _, (hIx _ _ _).2 ⟨rfl, pre, x, rfl, HQ.out, HI.out.1.no, HI.out.2⟩⟩
  ·have hqz : ((oAt (outs ws) x.1).id == id) = false := by simpa using hq
   have HQ := Lib.hid hq
   clear hq
   gi_wp2
   refine ⟨KeepsFrom.refl _ _, Below.refl _ _, ⟨HI.out.1.i1, HI.out.1.r, HI.out.1.o, HI.out.1.f, HI.out.1.bl, HI.out.1.lt, fun y hy => ?_⟩⟩
   rcases List.mem_append.1 hy with hy | hy
   ·exact HI.out.1.no y hy
   ·rw [List.mem_singleton.1 hy]; exact HQ.out
 case done =>
  rintro D ys W hD rfl hi hK
  have hno := HNo.out (fun y => hi.no y (List.mem_finRange y))
  have hD' : w.heap.size + 6 ≤ D := by omega
  have f0 : W.cell? ⟨w.heap.size + 1 + 1 + 1, 0, none⟩ = some (.int .i64 0) := cell_row hi.o
  have f1 : W.cell? ⟨w.heap.size + 1 + 1 + 1, 1, none⟩ = some (.int .i64 0) := cell_row hi.o
  have f2 : W.cell? ⟨w.heap.size + 1 + 1 + 1, 2, none⟩ = some (.int .i64 0) := cell_row hi.o
  have f3 : W.cell? ⟨w.heap.size + 1 + 1 + 1 + 1, 0, none⟩ = some (.bool false) := cell_row hi.f
  have hrr := bf 0 hi.r
  have hrr1 := bf 1 hi.r
  have hrr2 := bf 2 hi.r
  have r0 : W.cell? ⟨w.heap.size + 1 + 1, 0, none⟩ = some (.int .i64 0) := cell_row hi.r
  have r1 : W.cell? ⟨w.heap.size + 1 + 1, 1, none⟩ = some (.int .i64 0) := cell_row hi.r
  have r2 : W.cell? ⟨w.heap.size + 1 + 1, 2, none⟩ = some (.int .i64 0) := cell_row hi.r
  have HT := Lib.hid (find_fin hi.r hi.bl hD' hK 0 0 0)
  have n3 : ∀ (V : World) (g i j : Nat) (u : Value), g ≠ w.heap.size + 1 + 1 → (V.setCell ⟨w.heap.size + 1 + 1, j, none⟩ u).cell? ⟨g, i, none⟩ = V.cell? ⟨g, i, none⟩ := fun V g i j u hne => World.cell?_setCell_other V _ _ u (fun e => hne (by cases e; rfl))
  have HS : Hid (((fun X => X.cell? ⟨w.heap.size + 1 + 1 + 1, 0, none⟩ = some (.int .i64 0) ∧ X.cell? ⟨w.heap.size + 1 + 1 + 1, 1, none⟩ = some (.int .i64 0) ∧ X.cell? ⟨w.heap.size + 1 + 1 + 1, 2, none⟩ = some (.int .i64 0) ∧ X.cell? ⟨w.heap.size + 1 + 1 + 1 + 1, 0, none⟩ = some (.bool false)) : World → Prop) (((W.drew.setCell ⟨w.heap.size + 1 + 1, 0, none⟩ (.int .i64 0)).setCell ⟨w.heap.size + 1 + 1, 1, none⟩ (.int .i64 0)).setCell ⟨w.heap.size + 1 + 1, 2, none⟩ (.int .i64 0))) := Lib.hid ⟨by rw [n3 _ _ _ _ _ (by omega), n3 _ _ _ _ _ (by omega), n3 _ _ _ _ _ (by omega)]; exact f0, by rw [n3 _ _ _ _ _ (by omega), n3 _ _ _ _ _ (by omega), n3 _ _ _ _ _ (by omega)]; exact f1, by rw [n3 _ _ _ _ _ (by omega), n3 _ _ _ _ _ (by omega), n3 _ _ _ _ _ (by omega)]; exact f2, by rw [n3 _ _ _ _ _ (by omega), n3 _ _ _ _ _ (by omega), n3 _ _ _ _ _ (by omega)]; exact f3⟩
  clear hseq hi n3
  gi_wp2
  refine wpIn_region_made (fun _ => trivial) (fun X => X.cell? ⟨w.heap.size + 1 + 1 + 1, 0, none⟩ = some (.int .i64 0) ∧ X.cell? ⟨w.heap.size + 1 + 1 + 1, 1, none⟩ = some (.int .i64 0) ∧ X.cell? ⟨w.heap.size + 1 + 1 + 1, 2, none⟩ = some (.int .i64 0) ∧ X.cell? ⟨w.heap.size + 1 + 1 + 1 + 1, 0, none⟩ = some (.bool false)) 2 (by kernel_rfl) (by kernel_rfl) (by kernel_rfl) (by rfl) ⟨f0, f1, f2, f3⟩ ?_
  simp only [List.take_succ_cons, List.take_zero]
  iterate 2
   refine wpReads_opI (v := ?_) (by rfl) (fun W hW => ?_) ?_
   rotate_left
   focus
    obtain ⟨d1, d2, d3, d4⟩ := hW
    go_simp
    try (with_reducible rfl)
   try simp only [Act.put, List.setIfInBounds_toArray, List.set_cons_zero, List.set_cons_succ]
  refine wpReads_nilI ⟨by rfl, undef, (((W.drew.setCell ⟨w.heap.size + 1 + 1, 0, none⟩ (.int .i64 0)).setCell ⟨w.heap.size + 1 + 1, 1, none⟩ (.int .i64 0)).setCell ⟨w.heap.size + 1 + 1, 2, none⟩ (.int .i64 0)), .inr ⟨?_, rfl⟩, HS.out, ?_⟩
  ·go_simp
  ·generalize hWW : (((W.drew.setCell ⟨w.heap.size + 1 + 1, 0, none⟩ (.int .i64 0)).setCell ⟨w.heap.size + 1 + 1, 1, none⟩ (.int .i64 0)).setCell ⟨w.heap.size + 1 + 1, 2, none⟩ (.int .i64 0)) = WW at *
   gi_wp2
   rw [Exit.noGoto_ret]
   show bodyPostM _ _ _ _ _ _ _ _
   refine ⟨by simp, .inl ⟨_, _, rfl, run_takeDeferred HT.out.1, ?_⟩⟩
   obtain ⟨_, t0, t1, t2, t3⟩ := HT.out
   exact ⟨.tuple #[.agg #[.int .i64 0, .int .i64 0, .int .i64 0], .bool false], by simp [results, Tryz.results52, go_sem, t0, t1, t2], by rw [hno], t3⟩
 case stop =>
  intro D k pre W hD hpre hi0 hK
  obtain ⟨rfl, pre', x, e, i3, i4, hi⟩ := (hIx _ _ _).1 hi0
  obtain ⟨j, hj, rfl⟩ := hpre
  have hno := HYes.out j x pre' hj e i3 i4
  have hD' : w.heap.size + 6 ≤ D := by omega
  have f0 := hi.o0
  have f1 := hi.o1
  have f2 := hi.o2
  have f3 := hi.f
  simp only [pl] at f0 f1 f2
  have hrr := bf 0 hi.r
  have hrr1 := bf 1 hi.r
  have hrr2 := bf 2 hi.r
  have r0 : W.cell? ⟨w.heap.size + 1 + 1, 0, none⟩ = some (.int .i64 0) := cell_row hi.r
  have r1 : W.cell? ⟨w.heap.size + 1 + 1, 1, none⟩ = some (.int .i64 0) := cell_row hi.r
  have r2 : W.cell? ⟨w.heap.size + 1 + 1, 2, none⟩ = some (.int .i64 0) := cell_row hi.r
  have HT := Lib.hid (find_fin hi.r hi.bl hD' hK (x.1 : Int) (caAt ws x.1 : Int) (atAt ws x.1 : Int))
  have n3 : ∀ (V : World) (g i j : Nat) (u : Value), g ≠ w.heap.size + 1 + 1 → (V.setCell ⟨w.heap.size + 1 + 1, j, none⟩ u).cell? ⟨g, i, none⟩ = V.cell? ⟨g, i, none⟩ := fun V g i j u hne => World.cell?_setCell_other V _ _ u (fun e => hne (by cases e; rfl))
  have HS : Hid (((fun X => X.cell? ⟨w.heap.size + 1 + 1 + 1, 0, none⟩ = some (.int .i64 (x.1 : Int)) ∧ X.cell? ⟨w.heap.size + 1 + 1 + 1, 1, none⟩ = some (.int .i64 (caAt ws x.1 : Int)) ∧ X.cell? ⟨w.heap.size + 1 + 1 + 1, 2, none⟩ = some (.int .i64 (atAt ws x.1 : Int)) ∧ X.cell? ⟨w.heap.size + 1 + 1 + 1 + 1, 0, none⟩ = some (.bool true)) : World → Prop) (((W.drew.setCell ⟨w.heap.size + 1 + 1, 0, none⟩ (.int .i64 (x.1 : Int))).setCell ⟨w.heap.size + 1 + 1, 1, none⟩ (.int .i64 (caAt ws x.1 : Int))).setCell ⟨w.heap.size + 1 + 1, 2, none⟩ (.int .i64 (atAt ws x.1 : Int)))) := Lib.hid ⟨by rw [n3 _ _ _ _ _ (by omega), n3 _ _ _ _ _ (by omega), n3 _ _ _ _ _ (by omega)]; exact f0, by rw [n3 _ _ _ _ _ (by omega), n3 _ _ _ _ _ (by omega), n3 _ _ _ _ _ (by omega)]; exact f1, by rw [n3 _ _ _ _ _ (by omega), n3 _ _ _ _ _ (by omega), n3 _ _ _ _ _ (by omega)]; exact f2, by rw [n3 _ _ _ _ _ (by omega), n3 _ _ _ _ _ (by omega), n3 _ _ _ _ _ (by omega)]; exact f3⟩
  clear hseq hi n3
  gi_wp2
  refine wpIn_region_made (fun _ => trivial) (fun X => X.cell? ⟨w.heap.size + 1 + 1 + 1, 0, none⟩ = some (.int .i64 (x.1 : Int)) ∧ X.cell? ⟨w.heap.size + 1 + 1 + 1, 1, none⟩ = some (.int .i64 (caAt ws x.1 : Int)) ∧ X.cell? ⟨w.heap.size + 1 + 1 + 1, 2, none⟩ = some (.int .i64 (atAt ws x.1 : Int)) ∧ X.cell? ⟨w.heap.size + 1 + 1 + 1 + 1, 0, none⟩ = some (.bool true)) 2 (by kernel_rfl) (by kernel_rfl) (by kernel_rfl) (by rfl) ⟨f0, f1, f2, f3⟩ ?_
  simp only [List.take_succ_cons, List.take_zero]
  iterate 2
   refine wpReads_opI (v := ?_) (by rfl) (fun W hW => ?_) ?_
   rotate_left
   focus
    obtain ⟨d1, d2, d3, d4⟩ := hW
    go_simp
    try (with_reducible rfl)
   try simp only [Act.put, List.setIfInBounds_toArray, List.set_cons_zero, List.set_cons_succ]
  refine wpReads_nilI ⟨by rfl, undef, (((W.drew.setCell ⟨w.heap.size + 1 + 1, 0, none⟩ (.int .i64 (x.1 : Int))).setCell ⟨w.heap.size + 1 + 1, 1, none⟩ (.int .i64 (caAt ws x.1 : Int))).setCell ⟨w.heap.size + 1 + 1, 2, none⟩ (.int .i64 (atAt ws x.1 : Int))), .inr ⟨?_, rfl⟩, HS.out, ?_⟩
  ·go_simp
  ·generalize hWW : (((W.drew.setCell ⟨w.heap.size + 1 + 1, 0, none⟩ (.int .i64 (x.1 : Int))).setCell ⟨w.heap.size + 1 + 1, 1, none⟩ (.int .i64 (caAt ws x.1 : Int))).setCell ⟨w.heap.size + 1 + 1, 2, none⟩ (.int .i64 (atAt ws x.1 : Int))) = WW at *
   gi_wp2
   rw [Exit.noGoto_ret]
   show bodyPostM _ _ _ _ _ _ _ _
   refine ⟨by simp, .inl ⟨_, _, rfl, run_takeDeferred HT.out.1, ?_⟩⟩
   obtain ⟨_, t0, t1, t2, t3⟩ := HT.out
   exact ⟨.tuple #[.agg #[.int .i64 (x.1 : Int), .int .i64 (caAt ws x.1 : Int), .int .i64 (atAt ws x.1 : Int)], .bool true], by simp [results, Tryz.results52, go_sem, t0, t1, t2], by rw [hno], t3⟩
theorem find_any (A : Option Addr) (c : Nat) (ws : List Car) (id : Int) (w : World) (hW : Wk w A ws) :
  Calls Tryz.prog 52 #[.agg #[.slice A ws.length c], .int .i64 id] w fun e w' => e = .returned (.tuple #[plV (plO ws (idxO ws id)), .bool (idxO ws id).isSome]) ∧ Below w.heap.size w w' := callsIn_wide.1 (find_in 3 (Nat.le_refl _) A c ws id w hW)
end Go.Proofs.YtegmniphgahblaaGreat
namespace Go.Proofs.YtegmniphgahblaaGreat
open Go.RowKit Go.Shelf
attribute [local go_sem] Oper.semAt_some

theorem info42 : (Tryz.prog.info? 69).map (fun i => (i.zero, i.size, i.bytes)) = some (some (.agg #[.int .i64 0, .int .i64 0, .slice none 0 0, .int .i64 0, .int .i64 0, .int .i64 0, .int .i64 0]), 7, 72) := by kernel_rfl

/-- The cells of some outlets. -/
def cellsO (l : List Ot) : List Value := l.flatMap Ot.cells
theorem cellsO_length (l : List Ot) : (cellsO l).length = l.length * 7 := by
 induction l with
 | nil => rfl
 | cons x r ih => simp only [cellsO, List.flatMap_cons, List.length_append, List.length_cons] at ih ⊢; rw [ih]; simp [Ot.cells]; omega
theorem cellsO_at : ∀ (l : List Ot) (i j : Nat), i < l.length → j < 7 → (cellsO l)[i * 7 + j]? = (oAt l i).cells[j]?
 | [], i, j, h, _ => absurd h (by simp)
 | x :: r, 0, j, _, hj => by
  have : j < x.cells.length := by simpa [Ot.cells] using hj
  simp [cellsO, oAt, List.getElem?_append_left this]
 | x :: r, i + 1, j, h, hj => by
  have hl : x.cells.length = 7 := rfl
  have e := cellsO_at r i j (by simpa using h) hj
  have e2 : cellsO (x :: r) = x.cells ++ cellsO r := rfl
  rw [e2, List.getElem?_append_right (by omega), show (i + 1) * 7 + j - x.cells.length = i * 7 + j by omega, e]
  rfl
/-- A slice of the call's own that holds some outlets. -/
def OwnO (w : World) (base : Nat) (v : Value) (l : List Ot) : Prop := w.ownsRow base 69 7 v l.length (cellsO l)
theorem OwnO.rd {w : World} {base B : Nat} {v : Value} {l : List Ot} (h : OwnO w base v l) (hp : ∀ i, i < l.length → Rd w B (oAt l i).P (oAt l i).ps) (hB : ∀ k, v.ownBlock = some k → k < B) : ∃ A c, v = .slice A l.length c ∧ RdO w B A l ∧ Fresh base A := by
 have h0 := h
 rcases h.2 with ⟨rfl, hn⟩ | ⟨g, cap, cur, rfl, hb, hg, hnc, hcm, hcs, ht⟩
 ·refine ⟨none, 0, by rw [hn], fun hl => absurd hl (by omega), fun _ e => by cases e⟩
 ·refine ⟨_, _, rfl, fun hl => ⟨g, 0, rfl, hB g rfl, fun i hi => ?_⟩, fun ad e => by cases e; exact hb⟩
  have c : ∀ j u, j < 7 → (oAt l i).cells[j]? = some u → w.cell? ⟨g, 0 + i * 7 + j, none⟩ = some u := fun j u hj hu => by
   have h1 := World.ownsRow.cells h0 (g := g) rfl (i * 7 + j) u (by rw [cellsO_at l i j hi hj]; exact hu)
   rw [add_eq] at h1
   rw [show 0 + i * 7 + j = 0 + (i * 7 + j) by omega]
   exact h1
  exact ⟨c 0 _ (by omega) rfl, c 1 _ (by omega) rfl, c 2 _ (by omega) rfl, c 3 _ (by omega) rfl, c 4 _ (by omega) rfl, c 5 _ (by omega) rfl, c 6 _ (by omega) rfl, hp i hi⟩

theorem cell_alloc {W : World} {a : Addr} {v : Value} (h : W.cell? a = some v) (o : Obj) : (W.alloc o).cell? a = some v := cell_kept h (World.grownBy_alloc W o none) (fun _ e => by cases e)
theorem frozen_alloc {W : World} {a : Addr} {v : Value} (h : W.cell? a = some v) (o : Obj) : (W.alloc o).frozen? a = W.frozen? a := frozen_kept h (World.grownBy_alloc W o none) (fun _ e => by cases e)
theorem row_slice {w : World} {base size n : Nat} {e : TypeId} {v : Value} {xs : List Value} (h : w.ownsRow base e size v n xs) : ∃ A c, v = .slice A n c := by
 rcases h.2 with ⟨rfl, hn⟩ | ⟨g, cap, cur, rfl, _⟩
 ·exact ⟨none, 0, by rw [hn]⟩
 ·exact ⟨_, _, rfl⟩
/-- The box of the outlet of a loop over the outlets. -/
abbrev BxO (W : World) (g : Nat) (ws : List Car) (x : Nat) : Prop := Blk W g #[.int .i64 (oAt (outs ws) x).id, .int .i64 (oAt (outs ws) x).into, .slice (oAt (outs ws) x).P (oAt (outs ws) x).ps.length (oAt (outs ws) x).c, .int .i64 (oAt (outs ws) x).kl, .int .i64 (oAt (outs ws) x).kh, .int .i64 (oAt (outs ws) x).sl, .int .i64 (oAt (outs ws) x).sh] 69
theorem one_keeps (B : Nat) (W : World) (o : Obj) : KeepsFrom B W (W.alloc o) := (KeepsOthers.alloc W o).from B
theorem one_below {m : Nat} {W : World} (h : m ≤ W.heap.size) (o : Obj) : Below m W (W.alloc o) := (Below.refl _ W).alloc h o
def outsL (ws : List Car) (l : List (Fin (outs ws).length)) : List Ot := l.map fun i => oAt (outs ws) i.1
theorem outsL_all (ws : List Car) : outsL ws (List.finRange (outs ws).length) = outs ws := by
 refine List.ext_getElem? fun i => ?_
 unfold outsL oAt
 rw [List.getElem?_map]
 by_cases h : i < (outs ws).length
 ·simp [h, List.getD_eq_getElem?_getD]
 ·simp [Nat.le_of_not_lt h]

set_option maxRecDepth 100000 in
set_option maxHeartbeats 2000000 in
theorem listed_in (n : Nat) (hn : 3 ≤ n) (A : Option Addr) (c : Nat) (ws : List Car) (w : World) (hW : Wk w A ws) :
  CallsIn Fence.wide n Tryz.prog 32 #[.agg #[.slice A ws.length c]] w fun e w' => ∃ A' c', e = .returned (.slice A' (outs ws).length c') ∧ RdO w' w'.heap.size A' (outs ws) ∧ Fresh w.heap.size A' ∧ Below w.heap.size w w' := by
 have h := hW.rd
 have hm : ws.length ≤ maxLen := by have := hW.n1; unfold maxLen; omega
 have hN : (outs ws).length ≤ 1000000000 := by have := hW.n2; omega
 have h1 : 1 ≤ n := by omega
 obtain ⟨i0, hi0, hz0, hz1, hz2⟩ := info_parts info42
 refine callsIn_of_wp_marks Tryz.func32 rfl trivial ?_ rfl
 simp only [Tryz.ntmps32, List.size_toArray, List.length_cons, List.length_nil, Nat.reduceAdd, Nat.reduceSub, Array.replicate_succ, Array.replicate_zero, List.push_toArray, List.append_toArray, List.nil_append, List.cons_append]
 gi_wp2
 refine ⟨trivial, ?_⟩
 refine (callsIn_wide.2 (outlets_any A c ws.length _)).mono ?_
 rintro e w' ⟨rfl, rfl⟩
 gi_wp2
 have hb : Below w.heap.size w (((w.alloc (.cells #[.slice A ws.length c] 24)).alloc (.cells #[.slice none 0 0] 32)).alloc (.cells #[.slice A ws.length c] 24)) :=
  (((Below.refl _ w).alloc (Nat.le_refl _) _).alloc (by simp) _).alloc (by simp; omega) _
 have c3 : (((w.alloc (.cells #[.slice A ws.length c] 24)).alloc (.cells #[.slice none 0 0] 32)).alloc (.cells #[.slice A ws.length c] 24)).cell? ⟨w.heap.size + 1, 0, none⟩ = some (.slice none 0 0) := by simp [go_sem]
 have f3 : (((w.alloc (.cells #[.slice A ws.length c] 24)).alloc (.cells #[.slice none 0 0] 32)).alloc (.cells #[.slice A ws.length c] 24)).frozen? ⟨w.heap.size + 1, 0, none⟩ = false := by simp [go_sem]
 have c8 : (((w.alloc (.cells #[.slice A ws.length c] 24)).alloc (.cells #[.slice none 0 0] 32)).alloc (.cells #[.slice A ws.length c] 24)).cell? ⟨w.heap.size + 1 + 1, 0, none⟩ = some (.slice A ws.length c) := by simp [go_sem]
 have hsz : (((w.alloc (.cells #[.slice A ws.length c] 24)).alloc (.cells #[.slice none 0 0] 32)).alloc (.cells #[.slice A ws.length c] 24)).heap.size = w.heap.size + 3 := by simp
 generalize hgW : (((w.alloc (.cells #[.slice A ws.length c] 24)).alloc (.cells #[.slice none 0 0] 32)).alloc (.cells #[.slice A ws.length c] 24)) = W2 at *
 clear hgW
 have hseq := outlets_stops (n - 1) (by omega) w.heap.size (w.heap.size + 1 + 1) A c ws W2 hb.size c8 (by omega) (h.below hb (Nat.le_refl _)) hm hN
 obtain ⟨I, hI⟩ : ∃ I : List (Fin (outs ws).length) → World → Prop, ∀ pre W, I pre W ↔ ((∃ A2 c2, W.cell? ⟨w.heap.size + 1, 0, none⟩ = some (.slice A2 pre.length c2) ∧ OwnO W (w.heap.size + 3) (.slice A2 pre.length c2) (outsL ws pre)) ∧ W.frozen? ⟨w.heap.size + 1, 0, none⟩ = false ∧ Below w.heap.size w W ∧ W2.heap.size ≤ W.heap.size) := ⟨_, fun _ _ => Iff.rfl⟩
 have hO : OwnFrom W2.heap.size I := by
  intro pre W W' row h0 hgr hrow
  obtain ⟨⟨A2, c2, i1, i2⟩, i3, i4, i5⟩ := (hI _ _).1 h0
  have hr2 := fun r e => (hrow r e).2
  refine (hI _ _).2 ⟨⟨A2, c2, cell_kept i1 hgr hr2, ?_⟩, (frozen_kept i1 hgr hr2).trans i3, i4.grown hgr i4.size (fun k e => by have := (hrow k e).1; omega), Nat.le_trans i5 hgr.size⟩
  rcases i2.2 with ⟨e, hn⟩ | ⟨g, cap, cur, e, hbg, hg, hrest⟩
  ·exact ⟨i2.1, .inl ⟨e, hn⟩⟩
  ·exact ⟨i2.1, .inr ⟨g, cap, cur, e, hbg, heap_kept hg rfl hgr hr2, hrest⟩⟩
 refine wpIn_rangeFunc_ownH rfl h1 (gf := 68) (lb := #[.pointer (some ⟨w.heap.size + 1 + 1, 0, none⟩)]) rfl trivial eg_outlets hseq belowK_t (belowK_b hb.size) (Below.refl _ W2) (fun _ => rfl)
  I (fun _ _ _ => False) hO (fun _ _ _ _ _ hs _ _ => hs) ((hI _ _).2 ⟨⟨none, 0, c3, World.ownsRow_nil _ _ _ _⟩, f3, hb, Nat.le_refl _⟩)
  (fun x a' W => ∃ g5, a' = { tmps := #[.agg #[.slice A ws.length c], .pointer (some ⟨w.heap.size, 0, none⟩), .slice none 0 0, .pointer (some ⟨w.heap.size + 1, 0, none⟩), undef, .pointer (some ⟨g5, 0, none⟩), .agg #[.slice A ws.length c], .func (.func 68) #[] #[.pointer (some ⟨w.heap.size + 1 + 1, 0, none⟩)],
    .agg #[.int .i64 (x.1 : Int), .int .i64 (caAt ws x.1 : Int), .int .i64 (atAt ws x.1 : Int)], (oAt (outs ws) x.1).v, undef, undef, undef, undef, undef], defers := [] } ∧ BxO W g5 ws x.1)
  ?ownA ?assign ?body ?done (fun _ _ _ _ _ _ h _ => h.elim)
 case ownA =>
  rintro x a' _ W W' row ⟨g5, e, hx⟩ hgr hrow
  exact ⟨g5, e, hx.kept hgr (fun r e => (hrow r e).2)⟩
 case assign =>
  intro l pre x W K hi hK
  have hs := ((hI _ _).1 hi).2.2.2
  have hbl := ((hI _ _).1 hi).2.2.1.size
  dsimp only [encI, Ot.v]
  gi_wp2
  exact hK _ _ (one_keeps _ _ _) (one_below hbl _) (hO.alloc _ hi) ⟨_, rfl, blk_new W _ _ rfl⟩
 case body =>
  rintro l pre x a' W hl hrec hi ⟨g5, rfl, hx⟩ hpre
  obtain ⟨⟨A2, c2, i1, i2⟩, i3, i4, i5⟩ := (hI _ _).1 hi
  have o0 : W.cell? ⟨g5, 0, none⟩ = some (.int .i64 (oAt (outs ws) x.1).id) := cell_row hx
  have o1 : W.cell? ⟨g5, 1, none⟩ = some (.int .i64 (oAt (outs ws) x.1).into) := cell_row hx
  have o2 : W.cell? ⟨g5, 2, none⟩ = some (.slice (oAt (outs ws) x.1).P (oAt (outs ws) x.1).ps.length (oAt (outs ws) x.1).c) := cell_row hx
  have o3 : W.cell? ⟨g5, 3, none⟩ = some (.int .i64 (oAt (outs ws) x.1).kl) := cell_row hx
  have o4 : W.cell? ⟨g5, 4, none⟩ = some (.int .i64 (oAt (outs ws) x.1).kh) := cell_row hx
  have o5 : W.cell? ⟨g5, 5, none⟩ = some (.int .i64 (oAt (outs ws) x.1).sl) := cell_row hx
  have o6 : W.cell? ⟨g5, 6, none⟩ = some (.int .i64 (oAt (outs ws) x.1).sh) := cell_row hx
  have hnew := World.news_of_block (cs := #[.int .i64 (oAt (outs ws) x.1).id, .int .i64 (oAt (outs ws) x.1).into, .slice (oAt (outs ws) x.1).P (oAt (outs ws) x.1).ps.length (oAt (outs ws) x.1).c, .int .i64 (oAt (outs ws) x.1).kl, .int .i64 (oAt (outs ws) x.1).kh, .int .i64 (oAt (outs ws) x.1).sl, .int .i64 (oAt (outs ws) x.1).sh]) (t := 69) (fr := (0, 0)) (World.alloc_heap_new W (.cells #[.int .i64 (oAt (outs ws) x.1).id, .int .i64 (oAt (outs ws) x.1).into, .slice (oAt (outs ws) x.1).P (oAt (outs ws) x.1).ps.length (oAt (outs ws) x.1).c, .int .i64 (oAt (outs ws) x.1).kl, .int .i64 (oAt (outs ws) x.1).kh, .int .i64 (oAt (outs ws) x.1).sl, .int .i64 (oAt (outs ws) x.1).sh] 69))
  have hlenL : (outsL ws pre).length = pre.length := by simp [outsL]
  have hown : (W.alloc (.cells #[.int .i64 (oAt (outs ws) x.1).id, .int .i64 (oAt (outs ws) x.1).into, .slice (oAt (outs ws) x.1).P (oAt (outs ws) x.1).ps.length (oAt (outs ws) x.1).c, .int .i64 (oAt (outs ws) x.1).kl, .int .i64 (oAt (outs ws) x.1).kh, .int .i64 (oAt (outs ws) x.1).sl, .int .i64 (oAt (outs ws) x.1).sh] 69)).ownsRow (w.heap.size + 3) 69 7 (.slice A2 pre.length c2) pre.length (cellsO (outsL ws pre)) := by
   have := World.ownsRow.alloc i2 (.cells #[.int .i64 (oAt (outs ws) x.1).id, .int .i64 (oAt (outs ws) x.1).into, .slice (oAt (outs ws) x.1).P (oAt (outs ws) x.1).ps.length (oAt (outs ws) x.1).c, .int .i64 (oAt (outs ws) x.1).kl, .int .i64 (oAt (outs ws) x.1).kh, .int .i64 (oAt (outs ws) x.1).sl, .int .i64 (oAt (outs ws) x.1).sh] 69)
   rw [hlenL] at this
   exact this
  have hblk : ∀ j, (Value.slice A2 pre.length c2).ownBlock = some j → w.heap.size + 3 ≤ j ∧ ∃ o, W.heap[j]? = some o ∧ o.isCells = true := fun j e => by
   rcases i2.2 with ⟨e2, _⟩ | ⟨g, cap, cur, e2, hbg, hg, _⟩
   ·rw [e2] at e; cases e
   ·rw [e2] at e; cases e; exact ⟨hbg, _, hg, rfl⟩
  have hpl : pre.length < 1000 := by have := hW.n2; omega
  have HK := hd7 hown hblk hnew i1 i3 i4 i5
  clear hx hi hseq hown hnew i2 i3 i4 i5 hblk
  gi_wp2_with (gi_at_builtin; go_loud (refine wpListIn_append_own_at _ rfl _ _ 32 rfl (w.heap.size + 3) 69 i0 (.agg #[.int .i64 0, .int .i64 0, .slice none 0 0, .int .i64 0, .int .i64 0, .int .i64 0, .int .i64 0]) 7 72 Tryz.underlying32 hi0 hz0 hz1 hz2 rfl (by decide) (.slice A2 pre.length c2) pre.length _ rfl HK.out.1 ⟨W.heap.size, 0, none⟩ 1 1 [.int .i64 (oAt (outs ws) x.1).id, .int .i64 (oAt (outs ws) x.1).into, .slice (oAt (outs ws) x.1).P (oAt (outs ws) x.1).ps.length (oAt (outs ws) x.1).c, .int .i64 (oAt (outs ws) x.1).kl, .int .i64 (oAt (outs ws) x.1).kh, .int .i64 (oAt (outs ws) x.1).sl, .int .i64 (oAt (outs ws) x.1).sh] rfl (by simp) HK.out.2.2.1 (by simp [Value.oneCell']) (by unfold maxLen; omega) (by omega) (by rw [World.size_alloc]; have := HK.out.2.2.2.2.2.2; omega) ?_; intro v' w9 hown1 hgrow _ _; obtain ⟨A', c', rfl⟩ := row_slice hown1; have z1 := grown_cell hgrow (g := w.heap.size + 1) (i := 0) (v := .slice A2 pre.length c2) ((cell_alloc HK.out.2.2.2.1 _)) (fun e => by have := (HK.out.2.1 _ e.symm).1; omega); have z2 : w9.frozen? ⟨w.heap.size + 1, 0, none⟩ = false := (grown_frozen hgrow (cell_alloc HK.out.2.2.2.1 _) (fun e => by have := (HK.out.2.1 _ e.symm).1; omega)).trans ((frozen_alloc HK.out.2.2.2.1 _).trans HK.out.2.2.2.2.1); have HG := hd2 hown1 hgrow; clear hown1 hgrow))
  obtain ⟨hk1, hk2, hk3, hk4, hk5, hk6, hk7⟩ := HK.out
  have hsz9 : W.heap.size ≤ w9.heap.size := by have := HG.out.2.size; simp at this; omega
  have hb9 : Below w.heap.size W w9 := ((Below.refl _ W).alloc hk6.size _).grown HG.out.2 (by simp; have := hk6.size; omega) (fun k e => by have := (hk2 k e).1; omega)
  refine ⟨(((KeepsOthers.alloc W _).trans (KeepsOthers.of_grownBy HG.out.2 (fun j o e ho => ?_))).trans (KeepsOthers.setCell _ _ _)).from _, hb9.setCell (p := ⟨w.heap.size + 1, 0, none⟩) (by show w.heap.size ≤ w.heap.size + 1; omega) _,
   (hI _ _).2 ⟨⟨A', c', ?_, ?_⟩, by rw [World.frozen?_setCell]; exact z2, (hk6.trans hb9).setCell (p := ⟨w.heap.size + 1, 0, none⟩) (by show w.heap.size ≤ w.heap.size + 1; omega) _, by rw [World.size_setCell]; omega⟩⟩
  ·obtain ⟨_, o', h3, h4⟩ := hk2 j e
   have h5 := (Below.heap_alloc W (.cells #[.int .i64 (oAt (outs ws) x.1).id, .int .i64 (oAt (outs ws) x.1).into, .slice (oAt (outs ws) x.1).P (oAt (outs ws) x.1).ps.length (oAt (outs ws) x.1).c, .int .i64 (oAt (outs ws) x.1).kl, .int .i64 (oAt (outs ws) x.1).kh, .int .i64 (oAt (outs ws) x.1).sl, .int .i64 (oAt (outs ws) x.1).sh] 69) j (Array.getElem?_eq_some_iff.1 h3).1).trans h3
   rw [h5] at ho
   cases ho
   exact h4
  ·rw [List.length_append]; exact World.cell?_setCell_same' _ _ _ (by rw [z1]; rfl)
  ·unfold OwnO
   have e1 : outsL ws (pre ++ [x]) = outsL ws pre ++ [oAt (outs ws) x.1] := by simp [outsL]
   have e2 : cellsO (outsL ws pre ++ [oAt (outs ws) x.1]) = cellsO (outsL ws pre) ++ (oAt (outs ws) x.1).cells := by simp [cellsO]
   rw [e1, e2, List.length_append, List.length_append, hlenL]
   exact ownsRow_setCell_below HG.out.1 (by show w.heap.size + 1 < _; omega) _
 case done =>
  rintro D ys W hD rfl hi hK
  obtain ⟨⟨A2, c2, i1, i2⟩, i3, i4, i5⟩ := (hI _ _).1 hi
  gi_wp2
  refine ⟨by simp, .inl ⟨_, _, rfl, run_takeDeferred hK, ?_⟩⟩
  rw [outsL_all] at i2
  have hbD := belowK_b hb.size W D (.deferred (some [])) (.deferred none) hD hK rfl rfl
  have hown : OwnO (W.putObj D (.deferred none)) (w.heap.size + 3) (.slice A2 (List.finRange (outs ws).length).length c2) (outs ws) := by
   rcases i2.2 with ⟨e, hn⟩ | ⟨g, cap, cur, e, hbg, hg, hrest⟩
   ·exact ⟨i2.1, .inl ⟨e, hn⟩⟩
   ·exact ⟨i2.1, .inr ⟨g, cap, cur, e, hbg, (World.putObj_heap_other (fun e' => by rw [e', hK] at hg; cases hg)).trans hg, hrest⟩⟩
  have hsD : (W.putObj D (.deferred none)).heap.size = W.heap.size := by simp [World.putObj]
  obtain ⟨A', c', e', hrd, hfr⟩ := hown.rd (B := W.heap.size) (fun i hi => ((h.passes hi).below (i4.trans hbD) (Nat.le_refl _)).mono i4.size) (fun k e => by
   rcases i2.2 with ⟨e2, _⟩ | ⟨g, cap, cur, e2, hbg, hg, _⟩
   ·rw [e2] at e; cases e
   ·rw [e2] at e; cases e; exact (Array.getElem?_eq_some_iff.1 hg).1)
  exact ⟨_, results_tmp rfl _ _ _, A', c', by rw [← e', List.length_finRange]; rfl, by rw [hsD]; exact hrd, hfr.mono (by omega), i4.trans hbD⟩

theorem listed_any (A : Option Addr) (c : Nat) (ws : List Car) (w : World) (hW : Wk w A ws) :
  Calls Tryz.prog 32 #[.agg #[.slice A ws.length c]] w fun e w' => ∃ A' c', e = .returned (.slice A' (outs ws).length c') ∧ RdO w' w'.heap.size A' (outs ws) ∧ Fresh w.heap.size A' ∧ Below w.heap.size w w' := callsIn_wide.1 (listed_in 3 (Nat.le_refl _) A c ws w hW)
end Go.Proofs.YtegmniphgahblaaGreat
namespace Go.Proofs.YtegmniphgahblaaGreat
open Go.RowKit

/-- Is it so for each number of a list, and are they as many? -/
def allB (xs : List Int) (n : Nat) (p : Nat → Int → Bool) : Bool := decide (xs.length = n) && (List.range xs.length).all fun i => p i (nth xs i)
theorem allB_false {xs : List Int} {n : Nat} {p : Nat → Int → Bool} {i : Nat} (hi : i < xs.length) (h : p i (nth xs i) = false) : allB xs n p = false := by
 unfold allB
 rw [Bool.and_eq_false_iff]
 right
 rw [List.all_eq_false]
 exact ⟨i, by simpa using hi, by rw [h]; decide⟩
theorem allB_true {xs : List Int} {n : Nat} {p : Nat → Int → Bool} (hn : xs.length = n) (h : ∀ i, i < xs.length → p i (nth xs i) = true) : allB xs n p = true := by
 unfold allB
 rw [decide_eq_true hn, Bool.true_and, List.all_eq_true]
 exact fun i hi => h i (by simpa using hi)

set_option maxRecDepth 100000 in
set_option maxHeartbeats 800000 in
theorem all_any (gf : Nat) (lb : Array Value) (eg : ∀ args w, (callFunc gf args).run Tryz.prog w = .ok (.enter gf args) w) (p : Nat → Int → Bool) (A : Option Addr) (c : Nat) (xs : List Int) (n : Nat) (w : World) (h : Rd w w.heap.size A xs) (hm : xs.length ≤ maxLen) (hn : n ≤ 1000000)
  (hp : ∀ i W, i < n → Below w.heap.size w W → Calls Tryz.prog gf (#[.int .i64 i, .int .i64 (nth xs i)] ++ lb) W fun e w' => e = .returned (.bool (p i (nth xs i))) ∧ Below W.heap.size W w') :
  Calls Tryz.prog 33 #[.slice A xs.length c, .int .i64 n, .func (.func gf) #[] lb] w fun e w' => e = .returned (.bool (allB xs n p)) ∧ Below w.heap.size w w' := by
 have hf := @allB_false xs n p
 have ht := @allB_true xs n p
 have hne : xs.length ≠ n → allB xs n p = false := fun h => by unfold allB; rw [decide_eq_false h]; rfl
 generalize allB xs n p = R at *
 have HF := hd3 @hf ht hne
 clear hf ht hne
 unfold maxLen at hm
 by_cases hq : xs.length = n
 rotate_left
 ·have hqz : ((xs.length : Int) != (n : Int)) = true := by simp; omega
  have hr := HF.out.2.2 hq
  subst hr
  clear hp h hq
  go_enter Tryz.func33, Tryz.ntmps33
  go_wp2
  go_ret
  exact ⟨rfl, Below.refl _ _⟩
 subst hq
 have HP := Lib.hid hp
 clear hp
 go_enter Tryz.func33, Tryz.ntmps33
 go_wp2
 go_loopg [7, 8, 15] xs.length (fun gg _ _ i wr => ∃ t : Nat, t ≤ xs.length ∧ xs.length - t ≤ gg ∧ i = .int .i64 t ∧ Aside (Below w.heap.size w wr ∧ ∀ j, j < t → p j (nth xs j) = true))
 case atStart => exact ⟨0, Nat.zero_le _, by omega, rfl, Below.refl _ _, fun j hj => absurd hj (Nat.not_lt_zero _)⟩
 case round =>
  obtain ⟨t, ht, hg, rfl, hA⟩ := hrel
  have HA := Lib.hid hA.out
  clear hA
  by_cases hlt : t < xs.length
  ·have hltz : (t : Int) < (xs.length : Int) := by omega
   obtain ⟨b, off, rfl, lb, hc⟩ := h (by omega)
   have k1 := (HA.out.1.cell (p := ⟨b, off + t, none⟩) lb).trans (hc t hlt)
   have hcall := HP.out t wr hlt HA.out.1
   have hno := fun (h : p t (nth xs t) = false) => HF.out.1 hlt h
   have HPT : Hid (∀ q, p t (nth xs t) = q → q = true → p t (nth xs t) = true) := Lib.hid fun q h1 h2 => h1.trans h2
   have HNo := Lib.hid hno
   clear hc h hno
   cases hq : p t (nth xs t)
   ·have hr := HNo.out hq
    subst hr
    rw [hq] at hcall
    have HC := Lib.hid hcall
    clear hcall hq HPT HNo
    go_wp2_with (go_at_fn gf; refine HC.out.mono ?_; rintro e w1 ⟨rfl, hb⟩)
    go_ret
    exact ⟨rfl, HA.out.1.trans (hb.mono HA.out.1.size)⟩
   ·rw [hq] at hcall
    have HC := Lib.hid hcall
    have HQ := Lib.hid hq
    clear hcall hq HPT HNo
    go_wp2_with (go_at_fn gf; refine HC.out.mono ?_; rintro e w1 ⟨rfl, hb⟩; have HB := Lib.hid hb; clear hb)
    go_roundg (xs.length - (t + 1))
    case measure => omega
    case rel => exact ⟨t + 1, by omega, by omega, by go_num, (show _ ∧ _ from ⟨HA.out.1.trans (HB.out.mono HA.out.1.size), fun j hj => by
     by_cases e : j = t
     ·subst e; exact HQ.out
     ·exact HA.out.2 j (by omega)⟩)⟩
  ·have hltz : ¬ (t : Int) < (xs.length : Int) := by omega
   obtain rfl : t = xs.length := by omega
   have hr := HF.out.2.1 trivial HA.out.2
   subst hr
   go_wp2
   go_ret
   exact ⟨rfl, HA.out.1⟩

theorem cw1_any (i : Nat) (x : Int) (w : World) : Calls Tryz.prog 35 #[.int .i64 i, .int .i64 x] w fun e w' => e = .returned (.bool (withinB x 0 1048576)) ∧ Below w.heap.size w w' := by
 go_enter Tryz.func35, Tryz.ntmps35
 go_wp2_with (go_at_call 36; refine (within_any _ _ _ _).mono ?_; rintro e y ⟨rfl, rfl⟩)
 go_ret
 exact ⟨rfl, Below.refl _ _⟩

set_option maxRecDepth 100000 in
theorem cw2_any (i B c : Nat) (A : Option Addr) (x : Int) (l : List Ot) (w : World) (hc : w.cell? ⟨B, 0, none⟩ = some (.slice A l.length c)) (h : RdO w w.heap.size A l) (hi : i < l.length) (hl : (oAt l i).ps.length ≤ 1000) :
  Calls Tryz.prog 37 #[.int .i64 i, .int .i64 x, .pointer (some ⟨B, 0, none⟩)] w fun e w' => e = .returned (.bool (withinB x 0 ((oAt l i).ps.length - 1))) ∧ Below w.heap.size w w' := by
 obtain ⟨b, off, rfl, lb, ho⟩ := h (by omega)
 have k2 := (ho i hi).c2
 have hiz : (i : Int) < (l.length : Int) := by omega
 have hwr : IntKind.i64.wrap (((oAt l i).ps.length : Int) - 1) = ((oAt l i).ps.length : Int) - 1 := IntWalk.i64_in _ (by omega)
 clear ho h
 generalize (oAt l i).ps.length = m at *
 generalize (oAt l i).P = P at *
 generalize (oAt l i).c = pc at *
 go_enter Tryz.func37, Tryz.ntmps37
 go_wp2_with (go_at_call 36; refine (within_any _ _ _ _).mono ?_; rintro e y ⟨rfl, rfl⟩)
 go_ret
 exact ⟨rfl, Below.refl _ _⟩

set_option maxRecDepth 100000 in
set_option maxHeartbeats 800000 in
theorem cw3_any (i B c : Nat) (A : Option Addr) (x : Int) (l : List Ot) (w : World) (hc : w.cell? ⟨B, 0, none⟩ = some (.slice A l.length c)) (hB : B < w.heap.size) (h : RdO w w.heap.size A l) (hi : i < l.length) :
  Calls Tryz.prog 38 #[.int .i64 i, .int .i64 x, .pointer (some ⟨B, 0, none⟩)] w fun e w' => e = .returned (.bool (withinB x (oAt l i).kl (oAt l i).kh)) ∧ Below w.heap.size w w' := by
 obtain ⟨b, off, rfl, lb, ho⟩ := h (by omega)
 have k3 := (ho i hi).c3
 have k4 := (ho i hi).c4
 have hiz : (i : Int) < (l.length : Int) := by omega
 clear ho h
 generalize (oAt l i).kl = lo at *
 generalize (oAt l i).kh = hi' at *
 go_enter Tryz.func38, Tryz.ntmps38
 go_wp2
 refine wp_region_ext (by kernel_rfl) (by kernel_rfl) ?_
 intro ι _ X hX hC
 have rX := fun k => (bcell (hX k)).1
 repeat (first | go_big_quiet_skip | (go_big_quiet_want; go_big_quiet_op; first | go_big_quiet_on | (apply Exists.intro; refine ⟨fun _ => ?_, ?_⟩; (focus (go_at_call 36; exact Calls.ext_same (within_any _ _ _ _))); go_big_quiet_on)))
 refine wpQuiet_nil ?_
 intro w1 hb1
 clear rX hX hC
 have HB := Lib.hid hb1
 clear hb1
 go_wp2
 go_ret
 exact ⟨rfl, HB.out⟩
set_option maxRecDepth 100000 in
set_option maxHeartbeats 800000 in
theorem cw4_any (i B c : Nat) (A : Option Addr) (x : Int) (l : List Ot) (w : World) (hc : w.cell? ⟨B, 0, none⟩ = some (.slice A l.length c)) (hB : B < w.heap.size) (h : RdO w w.heap.size A l) (hi : i < l.length) :
  Calls Tryz.prog 39 #[.int .i64 i, .int .i64 x, .pointer (some ⟨B, 0, none⟩)] w fun e w' => e = .returned (.bool (withinB x (oAt l i).sl (oAt l i).sh)) ∧ Below w.heap.size w w' := by
 obtain ⟨b, off, rfl, lb, ho⟩ := h (by omega)
 have k3 := (ho i hi).c5
 have k4 := (ho i hi).c6
 have hiz : (i : Int) < (l.length : Int) := by omega
 clear ho h
 generalize (oAt l i).sl = lo at *
 generalize (oAt l i).sh = hi' at *
 go_enter Tryz.func39, Tryz.ntmps39
 go_wp2
 refine wp_region_ext (by kernel_rfl) (by kernel_rfl) ?_
 intro ι _ X hX hC
 have rX := fun k => (bcell (hX k)).1
 repeat (first | go_big_quiet_skip | (go_big_quiet_want; go_big_quiet_op; first | go_big_quiet_on | (apply Exists.intro; refine ⟨fun _ => ?_, ?_⟩; (focus (go_at_call 36; exact Calls.ext_same (within_any _ _ _ _))); go_big_quiet_on)))
 refine wpQuiet_nil ?_
 intro w1 hb1
 clear rX hX hC
 have HB := Lib.hid hb1
 clear hb1
 go_wp2
 go_ret
 exact ⟨rfl, HB.out⟩
end Go.Proofs.YtegmniphgahblaaGreat
namespace Go.Proofs.YtegmniphgahblaaGreat
open Go.RowKit

section
variable {P : Program} {md : Region.Mode} {ops : Array Oper} {C S : World → Prop}
theorem wpAnyH_of_quiet {Q : Act → Prop} {Q' : Exit → Act → World → Prop} (hCS : ∀ w, C w → S w) (hQ : ∀ a w, C w → Q a → Q' .normal a w) : ∀ (fuel : Nat) (listed : Array Bool) (a : Act) (w : World), C w →
  wpAnyQ P md ops C Q fuel listed a → wpAnyH P md ops Q' S fuel listed a w
 | 0, _, _, _, hw, h => ⟨h.1, hQ _ _ hw h.2⟩
 | fuel + 1, _, _, _, hw, h => ⟨fun h0 => hQ _ _ hw (h.1 h0), fun i hi => wpOp_of_qOp hw (fun a' w' hw' hk => ⟨hCS _ hw', wpAnyH_of_quiet hCS hQ fuel _ a' w' hw' hk⟩) (h.2 i hi)⟩

theorem wpAnyH_ext {Q : Exit → Act → World → Prop} {a : Act} {w : World} {l rest : List Oper} {listed : Array Bool} (k : Nat) (hs : Region.noSelect l.toArray = true) (hr : l.drop k = rest) (hB : Region.lexFrom .any l.toArray rest.length k listed = true)
  (hS : ∀ w', Below w.heap.size w w' → S w')
  (h : ∀ (ι : Type) (_ : Nonempty ι) (X : ι → World), (∀ k, Below w.heap.size w (X k)) → (∀ w', Below w.heap.size w w' → ∃ k, w' = X k) →
   wpQuiet P l.toArray (fun w' => ∃ k, w' = X k) (fun a' => ∀ w', Below w.heap.size w w' → Q .normal a' w') rest a) : wpAnyH P .any l.toArray Q S rest.length listed a w := by
 have h1 := h { w' : World // Below w.heap.size w w' } ⟨⟨w, Below.refl _ _⟩⟩ Subtype.val (fun k => k.2) (fun w' hw => ⟨⟨w', hw⟩, rfl⟩)
 refine wpAnyH_of_quiet (C := fun w' => ∃ k : { w' : World // Below w.heap.size w w' }, w' = k.1) (Q := fun a' => ∀ w', Below w.heap.size w w' → Q .normal a' w') (fun w' ⟨k, e⟩ => hS w' (e ▸ k.2)) (fun a' w' ⟨k, e⟩ hq => hq w' (e ▸ k.2)) _ _ _ _ ⟨⟨w, Below.refl _ _⟩, rfl⟩ ?_
 exact wpAnyQ_lex hs rest k listed a (fun j => by rw [← hr]; simp [List.getElem?_drop]) hB h1
end
end Go.Proofs.YtegmniphgahblaaGreat
namespace Go.Proofs.YtegmniphgahblaaGreat
open Go.RowKit

/-- Water, as it reads. -/
structure Wt where
 A0 : Option Addr
 A1 : Option Addr
 A2 : Option Addr
 A3 : Option Addr
 c0 : Nat
 c1 : Nat
 c2 : Nat
 c3 : Nat
 ri : List Int
 bo : List Int
 lk : List Int
 lo : List Int
def Wt.v (s : Wt) : Value := .agg #[.slice s.A0 s.ri.length s.c0, .slice s.A1 s.bo.length s.c1, .slice s.A2 s.lk.length s.c2, .slice s.A3 s.lo.length s.c3]
structure Wet (w : World) (s : Wt) : Prop where
 r0 : Rd w w.heap.size s.A0 s.ri
 r1 : Rd w w.heap.size s.A1 s.bo
 r2 : Rd w w.heap.size s.A2 s.lk
 r3 : Rd w w.heap.size s.A3 s.lo
 m0 : s.ri.length ≤ 1000
 m1 : s.bo.length ≤ 1000
 m2 : s.lk.length ≤ 1000
 m3 : s.lo.length ≤ 1000
theorem Rd.ext {w w' : World} {A : Option Addr} {xs : List Int} (h : Rd w w.heap.size A xs) (hb : Below w.heap.size w w') : Rd w' w'.heap.size A xs := (h.below hb (Nat.le_refl _)).mono hb.size
theorem Wet.ext {w w' : World} {s : Wt} (h : Wet w s) (hb : Below w.heap.size w w') : Wet w' s := ⟨h.r0.ext hb, h.r1.ext hb, h.r2.ext hb, h.r3.ext hb, h.m0, h.m1, h.m2, h.m3⟩
theorem lt_of_cell' {W : World} {g i : Nat} {v : Value} (h : W.cell? ⟨g, i, none⟩ = some v) : g < W.heap.size := by
 obtain ⟨o, ho, _⟩ := cells_of_cell h
 exact (Array.getElem?_eq_some_iff.1 ho).1
theorem RdO.ext {w w' : World} {A : Option Addr} {l : List Ot} (h : RdO w w.heap.size A l) (hb : Below w.heap.size w w') : RdO w' w'.heap.size A l := (h.below hb (Nat.le_refl _)).up hb.size

def wB0 (ws : List Car) (s : Wt) : Bool := allB s.ri (headsTo ws ws.length).length fun _ x => withinB x 0 1048576
def wB1 (ws : List Car) (s : Wt) : Bool := allB s.bo (outs ws).length fun i x => withinB x 0 ((oAt (outs ws) i).ps.length - 1)
def wB2 (ws : List Car) (s : Wt) : Bool := allB s.lk (outs ws).length fun i x => withinB x (oAt (outs ws) i).kl (oAt (outs ws) i).kh
def wB3 (ws : List Car) (s : Wt) : Bool := allB s.lo (outs ws).length fun i x => withinB x (oAt (outs ws) i).sl (oAt (outs ws) i).sh
def waterB (ws : List Car) (s : Wt) : Bool := wB0 ws s && wB1 ws s && wB2 ws s && wB3 ws s
def waterE (ws : List Car) (s : Wt) : Int := if waterB ws s = true then 0 else 1

set_option maxRecDepth 100000 in
theorem eg_cw1 : ∀ args w, (callFunc 35 args).run Tryz.prog w = .ok (.enter 35 args) w := fun _ _ => by rfl
set_option maxRecDepth 100000 in
theorem eg_cw2 : ∀ args w, (callFunc 37 args).run Tryz.prog w = .ok (.enter 37 args) w := fun _ _ => by rfl
set_option maxRecDepth 100000 in
theorem eg_cw3 : ∀ args w, (callFunc 38 args).run Tryz.prog w = .ok (.enter 38 args) w := fun _ _ => by rfl
set_option maxRecDepth 100000 in
theorem eg_cw4 : ∀ args w, (callFunc 39 args).run Tryz.prog w = .ok (.enter 39 args) w := fun _ _ => by rfl

set_option maxRecDepth 100000 in
set_option maxHeartbeats 3200000 in
theorem checkWater_any (A : Option Addr) (c : Nat) (ws : List Car) (s : Wt) (w : World) (h : Wk w A ws) (g : Good ws) (hs : Wet w s) :
  Calls Tryz.prog 14 #[.agg #[.slice A ws.length c], s.v] w fun e w' => e = .returned (.int .i64 (waterE ws s)) ∧ Below w.heap.size w w' := by
 obtain ⟨A0, A1, A2, A3, c0, c1, c2, c3, ri, bo, lk, lo⟩ := s
 have hd : waterE ws ⟨A0, A1, A2, A3, c0, c1, c2, c3, ri, bo, lk, lo⟩ = if (wB0 ws ⟨A0, A1, A2, A3, c0, c1, c2, c3, ri, bo, lk, lo⟩ && wB1 ws ⟨A0, A1, A2, A3, c0, c1, c2, c3, ri, bo, lk, lo⟩ && wB2 ws ⟨A0, A1, A2, A3, c0, c1, c2, c3, ri, bo, lk, lo⟩ && wB3 ws ⟨A0, A1, A2, A3, c0, c1, c2, c3, ri, bo, lk, lo⟩) = true then 0 else 1 := rfl
 have hb1 : Below w.heap.size w ((w.alloc (.cells #[.slice A ws.length c] 24)).alloc (.cells #[.slice A0 ri.length c0, .slice A1 bo.length c1, .slice A2 lk.length c2, .slice A3 lo.length c3] 30)) := ((Below.refl _ w).alloc (Nat.le_refl _) _).alloc (by simp) _
 have hB0 := fun W (hW : Below w.heap.size w W) => all_any 35 #[] eg_cw1 (fun _ x => withinB x 0 1048576) A0 c0 ri (headsTo ws ws.length).length W (hs.r0.ext hW) (by have := hs.m0; dsimp only at this; unfold maxLen; omega) (by have := headsTo_le ws ws.length; have := g.n1; omega) (fun i V _ _ => cw1_any i (nth ri i) V)
 have hB1 := fun W (hW : Below w.heap.size w W) B A' c' (hc : W.cell? ⟨B, 0, none⟩ = some (.slice A' (outs ws).length c')) (hl : RdO W W.heap.size A' (outs ws)) (hBl : B < W.heap.size) => all_any 37 #[.pointer (some ⟨B, 0, none⟩)] eg_cw2 (fun i x => withinB x 0 ((oAt (outs ws) i).ps.length - 1)) A1 c1 bo (outs ws).length W (hs.r1.ext hW) (by have := hs.m1; dsimp only at this; unfold maxLen; omega) (by have := g.n2; omega) (fun i V hi hV => cw2_any i B c' A' (nth bo i) (outs ws) V ((hV.cell (p := ⟨B, 0, none⟩) hBl).trans hc) (hl.ext hV) hi (by have := g.right i hi; unfold rightB headB at this; simp only [Bool.and_eq_true] at this; have h8 := this.1.1.1.2; unfold withinB at h8; simp at h8; omega))
 have hB2 := fun W (hW : Below w.heap.size w W) B A' c' (hc : W.cell? ⟨B, 0, none⟩ = some (.slice A' (outs ws).length c')) (hl : RdO W W.heap.size A' (outs ws)) (hBl : B < W.heap.size) => all_any 38 #[.pointer (some ⟨B, 0, none⟩)] eg_cw3 (fun i x => withinB x (oAt (outs ws) i).kl (oAt (outs ws) i).kh) A2 c2 lk (outs ws).length W (hs.r2.ext hW) (by have := hs.m2; dsimp only at this; unfold maxLen; omega) (by have := g.n2; omega) (fun i V hi hV => cw3_any i B c' A' (nth lk i) (outs ws) V ((hV.cell (p := ⟨B, 0, none⟩) hBl).trans hc) (Nat.lt_of_lt_of_le hBl hV.size) (hl.ext hV) hi)
 have hB3 := fun W (hW : Below w.heap.size w W) B A' c' (hc : W.cell? ⟨B, 0, none⟩ = some (.slice A' (outs ws).length c')) (hl : RdO W W.heap.size A' (outs ws)) (hBl : B < W.heap.size) => all_any 39 #[.pointer (some ⟨B, 0, none⟩)] eg_cw4 (fun i x => withinB x (oAt (outs ws) i).sl (oAt (outs ws) i).sh) A3 c3 lo (outs ws).length W (hs.r3.ext hW) (by have := hs.m3; dsimp only at this; unfold maxLen; omega) (by have := g.n2; omega) (fun i V hi hV => cw4_any i B c' A' (nth lo i) (outs ws) V ((hV.cell (p := ⟨B, 0, none⟩) hBl).trans hc) (Nat.lt_of_lt_of_le hBl hV.size) (hl.ext hV) hi)
 have hHd := fun W (hW : Below w.heap.size w W) => heads_any A c ws W (h.ext hW) g
 have hLs := listed_any A c ws _ (h.ext hb1)
 unfold Wt.v
 dsimp only
 have e0 : allB ri (headsTo ws ws.length).length (fun _ x => withinB x 0 1048576) = wB0 ws ⟨A0, A1, A2, A3, c0, c1, c2, c3, ri, bo, lk, lo⟩ := rfl
 have e1 : allB bo (outs ws).length (fun i x => withinB x 0 ((oAt (outs ws) i).ps.length - 1)) = wB1 ws ⟨A0, A1, A2, A3, c0, c1, c2, c3, ri, bo, lk, lo⟩ := rfl
 have e2 : allB lk (outs ws).length (fun i x => withinB x (oAt (outs ws) i).kl (oAt (outs ws) i).kh) = wB2 ws ⟨A0, A1, A2, A3, c0, c1, c2, c3, ri, bo, lk, lo⟩ := rfl
 have e3 : allB lo (outs ws).length (fun i x => withinB x (oAt (outs ws) i).sl (oAt (outs ws) i).sh) = wB3 ws ⟨A0, A1, A2, A3, c0, c1, c2, c3, ri, bo, lk, lo⟩ := rfl
 rw [e0] at hB0
 rw [e1] at hB1
 rw [e2] at hB2
 rw [e3] at hB3
 generalize waterE ws ⟨A0, A1, A2, A3, c0, c1, c2, c3, ri, bo, lk, lo⟩ = E at *
 generalize wB0 ws ⟨A0, A1, A2, A3, c0, c1, c2, c3, ri, bo, lk, lo⟩ = b0 at *
 generalize wB1 ws ⟨A0, A1, A2, A3, c0, c1, c2, c3, ri, bo, lk, lo⟩ = b1 at *
 generalize wB2 ws ⟨A0, A1, A2, A3, c0, c1, c2, c3, ri, bo, lk, lo⟩ = b2 at *
 generalize wB3 ws ⟨A0, A1, A2, A3, c0, c1, c2, c3, ri, bo, lk, lo⟩ = b3 at *
 clear e0 e1 e2 e3
 have q0 : ((w.alloc (.cells #[.slice A ws.length c] 24)).alloc (.cells #[.slice A0 ri.length c0, .slice A1 bo.length c1, .slice A2 lk.length c2, .slice A3 lo.length c3] 30)).cell? ⟨w.heap.size, 0, none⟩ = some (.slice A ws.length c) := by simp [go_sem]
 have hblk : Blk ((w.alloc (.cells #[.slice A ws.length c] 24)).alloc (.cells #[.slice A0 ri.length c0, .slice A1 bo.length c1, .slice A2 lk.length c2, .slice A3 lo.length c3] 30)) (w.heap.size + 1) #[.slice A0 ri.length c0, .slice A1 bo.length c1, .slice A2 lk.length c2, .slice A3 lo.length c3] 30 := blk_new _ _ _ (by simp)
 have hs1 : ((w.alloc (.cells #[.slice A ws.length c] 24)).alloc (.cells #[.slice A0 ri.length c0, .slice A1 bo.length c1, .slice A2 lk.length c2, .slice A3 lo.length c3] 30)).heap.size = w.heap.size + 2 := by simp
 have HH := hd5 hb1 hLs hHd hblk h
 clear hb1 hLs hHd hblk h hs
 cases b0
 ·skip
  have hE : E = 1 := by rw [hd]; rfl
  subst hE
  clear hd
  have HB0 := Lib.hid hB0
  have HB1 := Lib.hid hB1
  have HB2 := Lib.hid hB2
  have HB3 := Lib.hid hB3
  clear hB0 hB1 hB2 hB3
  go_enter Tryz.func14, Tryz.ntmps14
  go_upto_region 1 with fail
  generalize hgW : (w.alloc (.cells #[.slice A ws.length c] 24)).alloc (.cells #[.slice A0 ri.length c0, .slice A1 bo.length c1, .slice A2 lk.length c2, .slice A3 lo.length c3] 30) = W1 at *
  clear hgW
  go_upto_region 2 with (go_at_call 32; refine HH.out.2.1.mono ?_; rintro e w1 ⟨A', c', rfl, hl, hfr, hb⟩; have HL := hd2 hl hb; clear hl hfr hb)
  have hal : Below w1.heap.size w1 (w1.alloc (.cells #[.slice A' (outs ws).length c'] 32)) := (Below.refl _ w1).alloc (Nat.le_refl _) _
  have hg5 : (w1.alloc (.cells #[.slice A' (outs ws).length c'] 32)).cell? ⟨w1.heap.size, 0, none⟩ = some (.slice A' (outs ws).length c') := by simp [go_sem]
  have hg5l : w1.heap.size < (w1.alloc (.cells #[.slice A' (outs ws).length c'] 32)).heap.size := by simp
  have hW12 := HL.out.2.trans (hal.mono HL.out.2.size)
  have hl2 := HL.out.1.ext hal
  generalize hgW : w1.alloc (.cells #[.slice A' (outs ws).length c'] 32) = W2 at *
  generalize hgg : w1.heap.size = g5 at *
  have lt1 : w.heap.size + 1 < W2.heap.size := by have := hW12.size; omega
  have s0 := (hW12.cell (p := ⟨w.heap.size, 0, none⟩) (by show w.heap.size < _; omega)).trans q0
  have hbk := (hW12.block (w.heap.size + 1) (by omega)).trans HH.out.2.2.2.1
  have hwW := HH.out.1.trans (hW12.mono HH.out.1.size)
  have KX := Lib.hid (fun (W : World) (hW : Below W2.heap.size W2 W) => (show W.cell? ⟨w.heap.size, 0, none⟩ = some (.slice A ws.length c) ∧ W.cell? ⟨w.heap.size + 1, 0, none⟩ = some (.slice A0 ri.length c0) ∧ W.cell? ⟨w.heap.size + 1, 1, none⟩ = some (.slice A1 bo.length c1) ∧ W.cell? ⟨w.heap.size + 1, 2, none⟩ = some (.slice A2 lk.length c2) ∧ W.cell? ⟨w.heap.size + 1, 3, none⟩ = some (.slice A3 lo.length c3) ∧ W.cell? ⟨g5, 0, none⟩ = some (.slice A' (outs ws).length c') from
   ⟨(hW.cell (p := ⟨w.heap.size, 0, none⟩) (by show w.heap.size < _; omega)).trans s0, (hW.cell (p := ⟨w.heap.size + 1, 0, none⟩) lt1).trans (cell_row hbk), (hW.cell (p := ⟨w.heap.size + 1, 1, none⟩) lt1).trans (cell_row hbk), (hW.cell (p := ⟨w.heap.size + 1, 2, none⟩) lt1).trans (cell_row hbk), (hW.cell (p := ⟨w.heap.size + 1, 3, none⟩) lt1).trans (cell_row hbk), (hW.cell (p := ⟨g5, 0, none⟩) hg5l).trans hg5⟩))
  have HK := hd3 hwW hl2 hg5l
  have HD : Below W2.heap.size W2 W2.drew := (Below.refl _ W2).drew
  clear hgW hgg hal hg5 hW12 hl2 s0 hbk hwW lt1
  refine wp_region_held_drew (S := fun W => W.cell? ⟨w.heap.size, 0, none⟩ = some (.slice A ws.length c) ∧ W.cell? ⟨w.heap.size + 1, 0, none⟩ = some (.slice A0 ri.length c0)) (by kernel_rfl) ?_ (fun hHeld => ?_)
  ·exact ⟨(KX.out _ HD).1, (KX.out _ HD).2.1⟩
  refine wpAnyH_take (i := 0) (v := ?_) rfl (by kernel_rfl) (by kernel_rfl) (by kernel_rfl) (fun _ _ _ h => h) (Or.inl ⟨by rfl, ?_⟩) (by assumption) ?_
  rotate_left
  focus
   intro w hSw
   obtain ⟨d1, d2⟩ := hSw
   go_simp
   try (with_reducible rfl)
  try simp only [Act.put]
  refine wpAnyH_take (i := 1) (v := ?_) rfl (by kernel_rfl) (by kernel_rfl) (by kernel_rfl) (fun _ _ _ h => h) (Or.inl ⟨by rfl, ?_⟩) (by assumption) ?_
  rotate_left
  focus
   intro w hSw
   obtain ⟨d1, d2⟩ := hSw
   go_simp
   try (with_reducible rfl)
  try simp only [Act.put]
  refine wpAnyH_take (i := 2) (v := ?_) rfl (by kernel_rfl) (by kernel_rfl) (by kernel_rfl) (fun _ _ _ h => h) (Or.inl ⟨by rfl, ?_⟩) (by assumption) ?_
  rotate_left
  focus
   intro w hSw
   obtain ⟨d1, d2⟩ := hSw
   go_simp
   try (with_reducible rfl)
  try simp only [Act.put]
  refine wpAnyH_ready (rs := [3]) (by kernel_rfl) (by simp) ?_
  refine AllReadyH.cons rfl (fun K hK => ?_) AllReadyH.nil
  go_simp
  refine (HH.out.2.2.1 _ (HK.out.1.trans (Below.mono HD HK.out.1.size))).mono ?_
  rintro e y0 ⟨A9, c9, rfl, _, _, hb⟩
  rw [ints_length]
  have HY0 : Below W2.heap.size W2 y0 := HD.trans (hb.mono HD.size)
  clear hb
  refine hK.out _ _ ⟨(KX.out _ HY0).1, (KX.out _ HY0).2.1⟩ (fun hHeld => ?_)
  clear hK K
  obtain ⟨z0, z1, z2, z3, z4, z5⟩ := KX.out _ HY0
  have HWY := Lib.hid (HK.out.1.trans (Below.mono HY0 HK.out.1.size))
  have l5 := Nat.lt_of_lt_of_le HK.out.2.2 HY0.size
  have hl5 := HK.out.2.1.ext HY0
  have l0 : w.heap.size < y0.heap.size := Nat.lt_of_lt_of_le (lt_of_cell' z0) (Nat.le_refl _)
  have l1 : w.heap.size + 1 < y0.heap.size := lt_of_cell' z1
  have HS := Lib.hid (fun (V : World) (hV : Below y0.heap.size y0 V) => KX.out V (HY0.trans (hV.mono HY0.size)))
  have HC0 := Lib.hid (fun W (hW : Below y0.heap.size y0 W) => HB0.out W (HWY.out.trans (hW.mono HWY.out.size)))
  have HC1 := Lib.hid (fun W (hW : Below y0.heap.size y0 W) => HB1.out W (HWY.out.trans (hW.mono HWY.out.size)) g5 A' c' ((hW.cell (p := ⟨g5, 0, none⟩) l5).trans z5) (hl5.ext hW) (Nat.lt_of_lt_of_le l5 hW.size))
  have HC2 := Lib.hid (fun W (hW : Below y0.heap.size y0 W) => HB2.out W (HWY.out.trans (hW.mono HWY.out.size)) g5 A' c' ((hW.cell (p := ⟨g5, 0, none⟩) l5).trans z5) (hl5.ext hW) (Nat.lt_of_lt_of_le l5 hW.size))
  have HC3 := Lib.hid (fun W (hW : Below y0.heap.size y0 W) => HB3.out W (HWY.out.trans (hW.mono HWY.out.size)) g5 A' c' ((hW.cell (p := ⟨g5, 0, none⟩) l5).trans z5) (hl5.ext hW) (Nat.lt_of_lt_of_le l5 hW.size))
  clear hl5 HY0 HD KX hHeld
  refine wpAnyH_ext 4 (by kernel_rfl) (by rfl) (by kernel_rfl) (fun W' hW' => ⟨(HS.out W' hW').1, (HS.out W' hW').2.1⟩) ?_
  intro ι _ X hX hC
  have rX := fun k => (bcell (hX k)).1
  repeat (first | go_big_quiet_skip | (go_big_quiet_want; go_big_quiet_op; first | go_big_quiet_on | (apply Exists.intro; refine ⟨fun _ => ?_, ?_⟩; (focus ((first | (go_at_call 33; with_reducible exact Calls.ext_of hX hC (HC0.out _ (hX _))) | (go_at_call 33; with_reducible exact Calls.ext_of hX hC (HC1.out _ (hX _))) | (go_at_call 33; with_reducible exact Calls.ext_of hX hC (HC2.out _ (hX _))) | (go_at_call 33; with_reducible exact Calls.ext_of hX hC (HC3.out _ (hX _)))))); go_big_quiet_on)))
  refine wpQuiet_nil ?_
  intro w1 hb1
  clear rX hX hC
  have HF := Lib.hid (HWY.out.trans (hb1.mono HWY.out.size))
  clear hb1
  go_wp2
  go_ret
  exact ⟨rfl, HF.out⟩
 ·skip
  cases b1
  ·skip
   have hE : E = 1 := by rw [hd]; rfl
   subst hE
   clear hd
   have HB0 := Lib.hid hB0
   have HB1 := Lib.hid hB1
   have HB2 := Lib.hid hB2
   have HB3 := Lib.hid hB3
   clear hB0 hB1 hB2 hB3
   go_enter Tryz.func14, Tryz.ntmps14
   go_upto_region 1 with fail
   generalize hgW : (w.alloc (.cells #[.slice A ws.length c] 24)).alloc (.cells #[.slice A0 ri.length c0, .slice A1 bo.length c1, .slice A2 lk.length c2, .slice A3 lo.length c3] 30) = W1 at *
   clear hgW
   go_upto_region 2 with (go_at_call 32; refine HH.out.2.1.mono ?_; rintro e w1 ⟨A', c', rfl, hl, hfr, hb⟩; have HL := hd2 hl hb; clear hl hfr hb)
   have hal : Below w1.heap.size w1 (w1.alloc (.cells #[.slice A' (outs ws).length c'] 32)) := (Below.refl _ w1).alloc (Nat.le_refl _) _
   have hg5 : (w1.alloc (.cells #[.slice A' (outs ws).length c'] 32)).cell? ⟨w1.heap.size, 0, none⟩ = some (.slice A' (outs ws).length c') := by simp [go_sem]
   have hg5l : w1.heap.size < (w1.alloc (.cells #[.slice A' (outs ws).length c'] 32)).heap.size := by simp
   have hW12 := HL.out.2.trans (hal.mono HL.out.2.size)
   have hl2 := HL.out.1.ext hal
   generalize hgW : w1.alloc (.cells #[.slice A' (outs ws).length c'] 32) = W2 at *
   generalize hgg : w1.heap.size = g5 at *
   have lt1 : w.heap.size + 1 < W2.heap.size := by have := hW12.size; omega
   have s0 := (hW12.cell (p := ⟨w.heap.size, 0, none⟩) (by show w.heap.size < _; omega)).trans q0
   have hbk := (hW12.block (w.heap.size + 1) (by omega)).trans HH.out.2.2.2.1
   have hwW := HH.out.1.trans (hW12.mono HH.out.1.size)
   have KX := Lib.hid (fun (W : World) (hW : Below W2.heap.size W2 W) => (show W.cell? ⟨w.heap.size, 0, none⟩ = some (.slice A ws.length c) ∧ W.cell? ⟨w.heap.size + 1, 0, none⟩ = some (.slice A0 ri.length c0) ∧ W.cell? ⟨w.heap.size + 1, 1, none⟩ = some (.slice A1 bo.length c1) ∧ W.cell? ⟨w.heap.size + 1, 2, none⟩ = some (.slice A2 lk.length c2) ∧ W.cell? ⟨w.heap.size + 1, 3, none⟩ = some (.slice A3 lo.length c3) ∧ W.cell? ⟨g5, 0, none⟩ = some (.slice A' (outs ws).length c') from
    ⟨(hW.cell (p := ⟨w.heap.size, 0, none⟩) (by show w.heap.size < _; omega)).trans s0, (hW.cell (p := ⟨w.heap.size + 1, 0, none⟩) lt1).trans (cell_row hbk), (hW.cell (p := ⟨w.heap.size + 1, 1, none⟩) lt1).trans (cell_row hbk), (hW.cell (p := ⟨w.heap.size + 1, 2, none⟩) lt1).trans (cell_row hbk), (hW.cell (p := ⟨w.heap.size + 1, 3, none⟩) lt1).trans (cell_row hbk), (hW.cell (p := ⟨g5, 0, none⟩) hg5l).trans hg5⟩))
   have HK := hd3 hwW hl2 hg5l
   have HD : Below W2.heap.size W2 W2.drew := (Below.refl _ W2).drew
   clear hgW hgg hal hg5 hW12 hl2 s0 hbk hwW lt1
   refine wp_region_held_drew (S := fun W => W.cell? ⟨w.heap.size, 0, none⟩ = some (.slice A ws.length c) ∧ W.cell? ⟨w.heap.size + 1, 0, none⟩ = some (.slice A0 ri.length c0)) (by kernel_rfl) ?_ (fun hHeld => ?_)
   ·exact ⟨(KX.out _ HD).1, (KX.out _ HD).2.1⟩
   refine wpAnyH_take (i := 0) (v := ?_) rfl (by kernel_rfl) (by kernel_rfl) (by kernel_rfl) (fun _ _ _ h => h) (Or.inl ⟨by rfl, ?_⟩) (by assumption) ?_
   rotate_left
   focus
    intro w hSw
    obtain ⟨d1, d2⟩ := hSw
    go_simp
    try (with_reducible rfl)
   try simp only [Act.put]
   refine wpAnyH_take (i := 1) (v := ?_) rfl (by kernel_rfl) (by kernel_rfl) (by kernel_rfl) (fun _ _ _ h => h) (Or.inl ⟨by rfl, ?_⟩) (by assumption) ?_
   rotate_left
   focus
    intro w hSw
    obtain ⟨d1, d2⟩ := hSw
    go_simp
    try (with_reducible rfl)
   try simp only [Act.put]
   refine wpAnyH_take (i := 2) (v := ?_) rfl (by kernel_rfl) (by kernel_rfl) (by kernel_rfl) (fun _ _ _ h => h) (Or.inl ⟨by rfl, ?_⟩) (by assumption) ?_
   rotate_left
   focus
    intro w hSw
    obtain ⟨d1, d2⟩ := hSw
    go_simp
    try (with_reducible rfl)
   try simp only [Act.put]
   refine wpAnyH_ready (rs := [3]) (by kernel_rfl) (by simp) ?_
   refine AllReadyH.cons rfl (fun K hK => ?_) AllReadyH.nil
   go_simp
   refine (HH.out.2.2.1 _ (HK.out.1.trans (Below.mono HD HK.out.1.size))).mono ?_
   rintro e y0 ⟨A9, c9, rfl, _, _, hb⟩
   rw [ints_length]
   have HY0 : Below W2.heap.size W2 y0 := HD.trans (hb.mono HD.size)
   clear hb
   refine hK.out _ _ ⟨(KX.out _ HY0).1, (KX.out _ HY0).2.1⟩ (fun hHeld => ?_)
   clear hK K
   obtain ⟨z0, z1, z2, z3, z4, z5⟩ := KX.out _ HY0
   have HWY := Lib.hid (HK.out.1.trans (Below.mono HY0 HK.out.1.size))
   have l5 := Nat.lt_of_lt_of_le HK.out.2.2 HY0.size
   have hl5 := HK.out.2.1.ext HY0
   have l0 : w.heap.size < y0.heap.size := Nat.lt_of_lt_of_le (lt_of_cell' z0) (Nat.le_refl _)
   have l1 : w.heap.size + 1 < y0.heap.size := lt_of_cell' z1
   have HS := Lib.hid (fun (V : World) (hV : Below y0.heap.size y0 V) => KX.out V (HY0.trans (hV.mono HY0.size)))
   have HC0 := Lib.hid (fun W (hW : Below y0.heap.size y0 W) => HB0.out W (HWY.out.trans (hW.mono HWY.out.size)))
   have HC1 := Lib.hid (fun W (hW : Below y0.heap.size y0 W) => HB1.out W (HWY.out.trans (hW.mono HWY.out.size)) g5 A' c' ((hW.cell (p := ⟨g5, 0, none⟩) l5).trans z5) (hl5.ext hW) (Nat.lt_of_lt_of_le l5 hW.size))
   have HC2 := Lib.hid (fun W (hW : Below y0.heap.size y0 W) => HB2.out W (HWY.out.trans (hW.mono HWY.out.size)) g5 A' c' ((hW.cell (p := ⟨g5, 0, none⟩) l5).trans z5) (hl5.ext hW) (Nat.lt_of_lt_of_le l5 hW.size))
   have HC3 := Lib.hid (fun W (hW : Below y0.heap.size y0 W) => HB3.out W (HWY.out.trans (hW.mono HWY.out.size)) g5 A' c' ((hW.cell (p := ⟨g5, 0, none⟩) l5).trans z5) (hl5.ext hW) (Nat.lt_of_lt_of_le l5 hW.size))
   clear hl5 HY0 HD KX hHeld
   refine wpAnyH_ext 4 (by kernel_rfl) (by rfl) (by kernel_rfl) (fun W' hW' => ⟨(HS.out W' hW').1, (HS.out W' hW').2.1⟩) ?_
   intro ι _ X hX hC
   have rX := fun k => (bcell (hX k)).1
   repeat (first | go_big_quiet_skip | (go_big_quiet_want; go_big_quiet_op; first | go_big_quiet_on | (apply Exists.intro; refine ⟨fun _ => ?_, ?_⟩; (focus ((first | (go_at_call 33; with_reducible exact Calls.ext_of hX hC (HC0.out _ (hX _))) | (go_at_call 33; with_reducible exact Calls.ext_of hX hC (HC1.out _ (hX _))) | (go_at_call 33; with_reducible exact Calls.ext_of hX hC (HC2.out _ (hX _))) | (go_at_call 33; with_reducible exact Calls.ext_of hX hC (HC3.out _ (hX _)))))); go_big_quiet_on)))
   refine wpQuiet_nil ?_
   intro w1 hb1
   clear rX hX hC
   have HF := Lib.hid (HWY.out.trans (hb1.mono HWY.out.size))
   clear hb1
   go_wp2
   go_ret
   exact ⟨rfl, HF.out⟩
  ·skip
   cases b2
   ·skip
    have hE : E = 1 := by rw [hd]; rfl
    subst hE
    clear hd
    have HB0 := Lib.hid hB0
    have HB1 := Lib.hid hB1
    have HB2 := Lib.hid hB2
    have HB3 := Lib.hid hB3
    clear hB0 hB1 hB2 hB3
    go_enter Tryz.func14, Tryz.ntmps14
    go_upto_region 1 with fail
    generalize hgW : (w.alloc (.cells #[.slice A ws.length c] 24)).alloc (.cells #[.slice A0 ri.length c0, .slice A1 bo.length c1, .slice A2 lk.length c2, .slice A3 lo.length c3] 30) = W1 at *
    clear hgW
    go_upto_region 2 with (go_at_call 32; refine HH.out.2.1.mono ?_; rintro e w1 ⟨A', c', rfl, hl, hfr, hb⟩; have HL := hd2 hl hb; clear hl hfr hb)
    have hal : Below w1.heap.size w1 (w1.alloc (.cells #[.slice A' (outs ws).length c'] 32)) := (Below.refl _ w1).alloc (Nat.le_refl _) _
    have hg5 : (w1.alloc (.cells #[.slice A' (outs ws).length c'] 32)).cell? ⟨w1.heap.size, 0, none⟩ = some (.slice A' (outs ws).length c') := by simp [go_sem]
    have hg5l : w1.heap.size < (w1.alloc (.cells #[.slice A' (outs ws).length c'] 32)).heap.size := by simp
    have hW12 := HL.out.2.trans (hal.mono HL.out.2.size)
    have hl2 := HL.out.1.ext hal
    generalize hgW : w1.alloc (.cells #[.slice A' (outs ws).length c'] 32) = W2 at *
    generalize hgg : w1.heap.size = g5 at *
    have lt1 : w.heap.size + 1 < W2.heap.size := by have := hW12.size; omega
    have s0 := (hW12.cell (p := ⟨w.heap.size, 0, none⟩) (by show w.heap.size < _; omega)).trans q0
    have hbk := (hW12.block (w.heap.size + 1) (by omega)).trans HH.out.2.2.2.1
    have hwW := HH.out.1.trans (hW12.mono HH.out.1.size)
    have KX := Lib.hid (fun (W : World) (hW : Below W2.heap.size W2 W) => (show W.cell? ⟨w.heap.size, 0, none⟩ = some (.slice A ws.length c) ∧ W.cell? ⟨w.heap.size + 1, 0, none⟩ = some (.slice A0 ri.length c0) ∧ W.cell? ⟨w.heap.size + 1, 1, none⟩ = some (.slice A1 bo.length c1) ∧ W.cell? ⟨w.heap.size + 1, 2, none⟩ = some (.slice A2 lk.length c2) ∧ W.cell? ⟨w.heap.size + 1, 3, none⟩ = some (.slice A3 lo.length c3) ∧ W.cell? ⟨g5, 0, none⟩ = some (.slice A' (outs ws).length c') from
     ⟨(hW.cell (p := ⟨w.heap.size, 0, none⟩) (by show w.heap.size < _; omega)).trans s0, (hW.cell (p := ⟨w.heap.size + 1, 0, none⟩) lt1).trans (cell_row hbk), (hW.cell (p := ⟨w.heap.size + 1, 1, none⟩) lt1).trans (cell_row hbk), (hW.cell (p := ⟨w.heap.size + 1, 2, none⟩) lt1).trans (cell_row hbk), (hW.cell (p := ⟨w.heap.size + 1, 3, none⟩) lt1).trans (cell_row hbk), (hW.cell (p := ⟨g5, 0, none⟩) hg5l).trans hg5⟩))
    have HK := hd3 hwW hl2 hg5l
    have HD : Below W2.heap.size W2 W2.drew := (Below.refl _ W2).drew
    clear hgW hgg hal hg5 hW12 hl2 s0 hbk hwW lt1
    refine wp_region_held_drew (S := fun W => W.cell? ⟨w.heap.size, 0, none⟩ = some (.slice A ws.length c) ∧ W.cell? ⟨w.heap.size + 1, 0, none⟩ = some (.slice A0 ri.length c0)) (by kernel_rfl) ?_ (fun hHeld => ?_)
    ·exact ⟨(KX.out _ HD).1, (KX.out _ HD).2.1⟩
    refine wpAnyH_take (i := 0) (v := ?_) rfl (by kernel_rfl) (by kernel_rfl) (by kernel_rfl) (fun _ _ _ h => h) (Or.inl ⟨by rfl, ?_⟩) (by assumption) ?_
    rotate_left
    focus
     intro w hSw
     obtain ⟨d1, d2⟩ := hSw
     go_simp
     try (with_reducible rfl)
    try simp only [Act.put]
    refine wpAnyH_take (i := 1) (v := ?_) rfl (by kernel_rfl) (by kernel_rfl) (by kernel_rfl) (fun _ _ _ h => h) (Or.inl ⟨by rfl, ?_⟩) (by assumption) ?_
    rotate_left
    focus
     intro w hSw
     obtain ⟨d1, d2⟩ := hSw
     go_simp
     try (with_reducible rfl)
    try simp only [Act.put]
    refine wpAnyH_take (i := 2) (v := ?_) rfl (by kernel_rfl) (by kernel_rfl) (by kernel_rfl) (fun _ _ _ h => h) (Or.inl ⟨by rfl, ?_⟩) (by assumption) ?_
    rotate_left
    focus
     intro w hSw
     obtain ⟨d1, d2⟩ := hSw
     go_simp
     try (with_reducible rfl)
    try simp only [Act.put]
    refine wpAnyH_ready (rs := [3]) (by kernel_rfl) (by simp) ?_
    refine AllReadyH.cons rfl (fun K hK => ?_) AllReadyH.nil
    go_simp
    refine (HH.out.2.2.1 _ (HK.out.1.trans (Below.mono HD HK.out.1.size))).mono ?_
    rintro e y0 ⟨A9, c9, rfl, _, _, hb⟩
    rw [ints_length]
    have HY0 : Below W2.heap.size W2 y0 := HD.trans (hb.mono HD.size)
    clear hb
    refine hK.out _ _ ⟨(KX.out _ HY0).1, (KX.out _ HY0).2.1⟩ (fun hHeld => ?_)
    clear hK K
    obtain ⟨z0, z1, z2, z3, z4, z5⟩ := KX.out _ HY0
    have HWY := Lib.hid (HK.out.1.trans (Below.mono HY0 HK.out.1.size))
    have l5 := Nat.lt_of_lt_of_le HK.out.2.2 HY0.size
    have hl5 := HK.out.2.1.ext HY0
    have l0 : w.heap.size < y0.heap.size := Nat.lt_of_lt_of_le (lt_of_cell' z0) (Nat.le_refl _)
    have l1 : w.heap.size + 1 < y0.heap.size := lt_of_cell' z1
    have HS := Lib.hid (fun (V : World) (hV : Below y0.heap.size y0 V) => KX.out V (HY0.trans (hV.mono HY0.size)))
    have HC0 := Lib.hid (fun W (hW : Below y0.heap.size y0 W) => HB0.out W (HWY.out.trans (hW.mono HWY.out.size)))
    have HC1 := Lib.hid (fun W (hW : Below y0.heap.size y0 W) => HB1.out W (HWY.out.trans (hW.mono HWY.out.size)) g5 A' c' ((hW.cell (p := ⟨g5, 0, none⟩) l5).trans z5) (hl5.ext hW) (Nat.lt_of_lt_of_le l5 hW.size))
    have HC2 := Lib.hid (fun W (hW : Below y0.heap.size y0 W) => HB2.out W (HWY.out.trans (hW.mono HWY.out.size)) g5 A' c' ((hW.cell (p := ⟨g5, 0, none⟩) l5).trans z5) (hl5.ext hW) (Nat.lt_of_lt_of_le l5 hW.size))
    have HC3 := Lib.hid (fun W (hW : Below y0.heap.size y0 W) => HB3.out W (HWY.out.trans (hW.mono HWY.out.size)) g5 A' c' ((hW.cell (p := ⟨g5, 0, none⟩) l5).trans z5) (hl5.ext hW) (Nat.lt_of_lt_of_le l5 hW.size))
    clear hl5 HY0 HD KX hHeld
    refine wpAnyH_ext 4 (by kernel_rfl) (by rfl) (by kernel_rfl) (fun W' hW' => ⟨(HS.out W' hW').1, (HS.out W' hW').2.1⟩) ?_
    intro ι _ X hX hC
    have rX := fun k => (bcell (hX k)).1
    repeat (first | go_big_quiet_skip | (go_big_quiet_want; go_big_quiet_op; first | go_big_quiet_on | (apply Exists.intro; refine ⟨fun _ => ?_, ?_⟩; (focus ((first | (go_at_call 33; with_reducible exact Calls.ext_of hX hC (HC0.out _ (hX _))) | (go_at_call 33; with_reducible exact Calls.ext_of hX hC (HC1.out _ (hX _))) | (go_at_call 33; with_reducible exact Calls.ext_of hX hC (HC2.out _ (hX _))) | (go_at_call 33; with_reducible exact Calls.ext_of hX hC (HC3.out _ (hX _)))))); go_big_quiet_on)))
    refine wpQuiet_nil ?_
    intro w1 hb1
    clear rX hX hC
    have HF := Lib.hid (HWY.out.trans (hb1.mono HWY.out.size))
    clear hb1
    go_wp2
    go_ret
    exact ⟨rfl, HF.out⟩
   ·skip
    cases b3
    ·skip
     have hE : E = 1 := by rw [hd]; rfl
     subst hE
     clear hd
     have HB0 := Lib.hid hB0
     have HB1 := Lib.hid hB1
     have HB2 := Lib.hid hB2
     have HB3 := Lib.hid hB3
     clear hB0 hB1 hB2 hB3
     go_enter Tryz.func14, Tryz.ntmps14
     go_upto_region 1 with fail
     generalize hgW : (w.alloc (.cells #[.slice A ws.length c] 24)).alloc (.cells #[.slice A0 ri.length c0, .slice A1 bo.length c1, .slice A2 lk.length c2, .slice A3 lo.length c3] 30) = W1 at *
     clear hgW
     go_upto_region 2 with (go_at_call 32; refine HH.out.2.1.mono ?_; rintro e w1 ⟨A', c', rfl, hl, hfr, hb⟩; have HL := hd2 hl hb; clear hl hfr hb)
     have hal : Below w1.heap.size w1 (w1.alloc (.cells #[.slice A' (outs ws).length c'] 32)) := (Below.refl _ w1).alloc (Nat.le_refl _) _
     have hg5 : (w1.alloc (.cells #[.slice A' (outs ws).length c'] 32)).cell? ⟨w1.heap.size, 0, none⟩ = some (.slice A' (outs ws).length c') := by simp [go_sem]
     have hg5l : w1.heap.size < (w1.alloc (.cells #[.slice A' (outs ws).length c'] 32)).heap.size := by simp
     have hW12 := HL.out.2.trans (hal.mono HL.out.2.size)
     have hl2 := HL.out.1.ext hal
     generalize hgW : w1.alloc (.cells #[.slice A' (outs ws).length c'] 32) = W2 at *
     generalize hgg : w1.heap.size = g5 at *
     have lt1 : w.heap.size + 1 < W2.heap.size := by have := hW12.size; omega
     have s0 := (hW12.cell (p := ⟨w.heap.size, 0, none⟩) (by show w.heap.size < _; omega)).trans q0
     have hbk := (hW12.block (w.heap.size + 1) (by omega)).trans HH.out.2.2.2.1
     have hwW := HH.out.1.trans (hW12.mono HH.out.1.size)
     have KX := Lib.hid (fun (W : World) (hW : Below W2.heap.size W2 W) => (show W.cell? ⟨w.heap.size, 0, none⟩ = some (.slice A ws.length c) ∧ W.cell? ⟨w.heap.size + 1, 0, none⟩ = some (.slice A0 ri.length c0) ∧ W.cell? ⟨w.heap.size + 1, 1, none⟩ = some (.slice A1 bo.length c1) ∧ W.cell? ⟨w.heap.size + 1, 2, none⟩ = some (.slice A2 lk.length c2) ∧ W.cell? ⟨w.heap.size + 1, 3, none⟩ = some (.slice A3 lo.length c3) ∧ W.cell? ⟨g5, 0, none⟩ = some (.slice A' (outs ws).length c') from
      ⟨(hW.cell (p := ⟨w.heap.size, 0, none⟩) (by show w.heap.size < _; omega)).trans s0, (hW.cell (p := ⟨w.heap.size + 1, 0, none⟩) lt1).trans (cell_row hbk), (hW.cell (p := ⟨w.heap.size + 1, 1, none⟩) lt1).trans (cell_row hbk), (hW.cell (p := ⟨w.heap.size + 1, 2, none⟩) lt1).trans (cell_row hbk), (hW.cell (p := ⟨w.heap.size + 1, 3, none⟩) lt1).trans (cell_row hbk), (hW.cell (p := ⟨g5, 0, none⟩) hg5l).trans hg5⟩))
     have HK := hd3 hwW hl2 hg5l
     have HD : Below W2.heap.size W2 W2.drew := (Below.refl _ W2).drew
     clear hgW hgg hal hg5 hW12 hl2 s0 hbk hwW lt1
     refine wp_region_held_drew (S := fun W => W.cell? ⟨w.heap.size, 0, none⟩ = some (.slice A ws.length c) ∧ W.cell? ⟨w.heap.size + 1, 0, none⟩ = some (.slice A0 ri.length c0)) (by kernel_rfl) ?_ (fun hHeld => ?_)
     ·exact ⟨(KX.out _ HD).1, (KX.out _ HD).2.1⟩
     refine wpAnyH_take (i := 0) (v := ?_) rfl (by kernel_rfl) (by kernel_rfl) (by kernel_rfl) (fun _ _ _ h => h) (Or.inl ⟨by rfl, ?_⟩) (by assumption) ?_
     rotate_left
     focus
      intro w hSw
      obtain ⟨d1, d2⟩ := hSw
      go_simp
      try (with_reducible rfl)
     try simp only [Act.put]
     refine wpAnyH_take (i := 1) (v := ?_) rfl (by kernel_rfl) (by kernel_rfl) (by kernel_rfl) (fun _ _ _ h => h) (Or.inl ⟨by rfl, ?_⟩) (by assumption) ?_
     rotate_left
     focus
      intro w hSw
      obtain ⟨d1, d2⟩ := hSw
      go_simp
      try (with_reducible rfl)
     try simp only [Act.put]
     refine wpAnyH_take (i := 2) (v := ?_) rfl (by kernel_rfl) (by kernel_rfl) (by kernel_rfl) (fun _ _ _ h => h) (Or.inl ⟨by rfl, ?_⟩) (by assumption) ?_
     rotate_left
     focus
      intro w hSw
      obtain ⟨d1, d2⟩ := hSw
      go_simp
      try (with_reducible rfl)
     try simp only [Act.put]
     refine wpAnyH_ready (rs := [3]) (by kernel_rfl) (by simp) ?_
     refine AllReadyH.cons rfl (fun K hK => ?_) AllReadyH.nil
     go_simp
     refine (HH.out.2.2.1 _ (HK.out.1.trans (Below.mono HD HK.out.1.size))).mono ?_
     rintro e y0 ⟨A9, c9, rfl, _, _, hb⟩
     rw [ints_length]
     have HY0 : Below W2.heap.size W2 y0 := HD.trans (hb.mono HD.size)
     clear hb
     refine hK.out _ _ ⟨(KX.out _ HY0).1, (KX.out _ HY0).2.1⟩ (fun hHeld => ?_)
     clear hK K
     obtain ⟨z0, z1, z2, z3, z4, z5⟩ := KX.out _ HY0
     have HWY := Lib.hid (HK.out.1.trans (Below.mono HY0 HK.out.1.size))
     have l5 := Nat.lt_of_lt_of_le HK.out.2.2 HY0.size
     have hl5 := HK.out.2.1.ext HY0
     have l0 : w.heap.size < y0.heap.size := Nat.lt_of_lt_of_le (lt_of_cell' z0) (Nat.le_refl _)
     have l1 : w.heap.size + 1 < y0.heap.size := lt_of_cell' z1
     have HS := Lib.hid (fun (V : World) (hV : Below y0.heap.size y0 V) => KX.out V (HY0.trans (hV.mono HY0.size)))
     have HC0 := Lib.hid (fun W (hW : Below y0.heap.size y0 W) => HB0.out W (HWY.out.trans (hW.mono HWY.out.size)))
     have HC1 := Lib.hid (fun W (hW : Below y0.heap.size y0 W) => HB1.out W (HWY.out.trans (hW.mono HWY.out.size)) g5 A' c' ((hW.cell (p := ⟨g5, 0, none⟩) l5).trans z5) (hl5.ext hW) (Nat.lt_of_lt_of_le l5 hW.size))
     have HC2 := Lib.hid (fun W (hW : Below y0.heap.size y0 W) => HB2.out W (HWY.out.trans (hW.mono HWY.out.size)) g5 A' c' ((hW.cell (p := ⟨g5, 0, none⟩) l5).trans z5) (hl5.ext hW) (Nat.lt_of_lt_of_le l5 hW.size))
     have HC3 := Lib.hid (fun W (hW : Below y0.heap.size y0 W) => HB3.out W (HWY.out.trans (hW.mono HWY.out.size)) g5 A' c' ((hW.cell (p := ⟨g5, 0, none⟩) l5).trans z5) (hl5.ext hW) (Nat.lt_of_lt_of_le l5 hW.size))
     clear hl5 HY0 HD KX hHeld
     refine wpAnyH_ext 4 (by kernel_rfl) (by rfl) (by kernel_rfl) (fun W' hW' => ⟨(HS.out W' hW').1, (HS.out W' hW').2.1⟩) ?_
     intro ι _ X hX hC
     have rX := fun k => (bcell (hX k)).1
     repeat (first | go_big_quiet_skip | (go_big_quiet_want; go_big_quiet_op; first | go_big_quiet_on | (apply Exists.intro; refine ⟨fun _ => ?_, ?_⟩; (focus ((first | (go_at_call 33; with_reducible exact Calls.ext_of hX hC (HC0.out _ (hX _))) | (go_at_call 33; with_reducible exact Calls.ext_of hX hC (HC1.out _ (hX _))) | (go_at_call 33; with_reducible exact Calls.ext_of hX hC (HC2.out _ (hX _))) | (go_at_call 33; with_reducible exact Calls.ext_of hX hC (HC3.out _ (hX _)))))); go_big_quiet_on)))
     refine wpQuiet_nil ?_
     intro w1 hb1
     clear rX hX hC
     have HF := Lib.hid (HWY.out.trans (hb1.mono HWY.out.size))
     clear hb1
     go_wp2
     go_ret
     exact ⟨rfl, HF.out⟩
    ·skip
     have hE : E = 0 := by rw [hd]; rfl
     subst hE
     clear hd
     have HB0 := Lib.hid hB0
     have HB1 := Lib.hid hB1
     have HB2 := Lib.hid hB2
     have HB3 := Lib.hid hB3
     clear hB0 hB1 hB2 hB3
     go_enter Tryz.func14, Tryz.ntmps14
     go_upto_region 1 with fail
     generalize hgW : (w.alloc (.cells #[.slice A ws.length c] 24)).alloc (.cells #[.slice A0 ri.length c0, .slice A1 bo.length c1, .slice A2 lk.length c2, .slice A3 lo.length c3] 30) = W1 at *
     clear hgW
     go_upto_region 2 with (go_at_call 32; refine HH.out.2.1.mono ?_; rintro e w1 ⟨A', c', rfl, hl, hfr, hb⟩; have HL := hd2 hl hb; clear hl hfr hb)
     have hal : Below w1.heap.size w1 (w1.alloc (.cells #[.slice A' (outs ws).length c'] 32)) := (Below.refl _ w1).alloc (Nat.le_refl _) _
     have hg5 : (w1.alloc (.cells #[.slice A' (outs ws).length c'] 32)).cell? ⟨w1.heap.size, 0, none⟩ = some (.slice A' (outs ws).length c') := by simp [go_sem]
     have hg5l : w1.heap.size < (w1.alloc (.cells #[.slice A' (outs ws).length c'] 32)).heap.size := by simp
     have hW12 := HL.out.2.trans (hal.mono HL.out.2.size)
     have hl2 := HL.out.1.ext hal
     generalize hgW : w1.alloc (.cells #[.slice A' (outs ws).length c'] 32) = W2 at *
     generalize hgg : w1.heap.size = g5 at *
     have lt1 : w.heap.size + 1 < W2.heap.size := by have := hW12.size; omega
     have s0 := (hW12.cell (p := ⟨w.heap.size, 0, none⟩) (by show w.heap.size < _; omega)).trans q0
     have hbk := (hW12.block (w.heap.size + 1) (by omega)).trans HH.out.2.2.2.1
     have hwW := HH.out.1.trans (hW12.mono HH.out.1.size)
     have KX := Lib.hid (fun (W : World) (hW : Below W2.heap.size W2 W) => (show W.cell? ⟨w.heap.size, 0, none⟩ = some (.slice A ws.length c) ∧ W.cell? ⟨w.heap.size + 1, 0, none⟩ = some (.slice A0 ri.length c0) ∧ W.cell? ⟨w.heap.size + 1, 1, none⟩ = some (.slice A1 bo.length c1) ∧ W.cell? ⟨w.heap.size + 1, 2, none⟩ = some (.slice A2 lk.length c2) ∧ W.cell? ⟨w.heap.size + 1, 3, none⟩ = some (.slice A3 lo.length c3) ∧ W.cell? ⟨g5, 0, none⟩ = some (.slice A' (outs ws).length c') from
      ⟨(hW.cell (p := ⟨w.heap.size, 0, none⟩) (by show w.heap.size < _; omega)).trans s0, (hW.cell (p := ⟨w.heap.size + 1, 0, none⟩) lt1).trans (cell_row hbk), (hW.cell (p := ⟨w.heap.size + 1, 1, none⟩) lt1).trans (cell_row hbk), (hW.cell (p := ⟨w.heap.size + 1, 2, none⟩) lt1).trans (cell_row hbk), (hW.cell (p := ⟨w.heap.size + 1, 3, none⟩) lt1).trans (cell_row hbk), (hW.cell (p := ⟨g5, 0, none⟩) hg5l).trans hg5⟩))
     have HK := hd3 hwW hl2 hg5l
     have HD : Below W2.heap.size W2 W2.drew := (Below.refl _ W2).drew
     clear hgW hgg hal hg5 hW12 hl2 s0 hbk hwW lt1
     refine wp_region_held_drew (S := fun W => W.cell? ⟨w.heap.size, 0, none⟩ = some (.slice A ws.length c) ∧ W.cell? ⟨w.heap.size + 1, 0, none⟩ = some (.slice A0 ri.length c0)) (by kernel_rfl) ?_ (fun hHeld => ?_)
     ·exact ⟨(KX.out _ HD).1, (KX.out _ HD).2.1⟩
     refine wpAnyH_take (i := 0) (v := ?_) rfl (by kernel_rfl) (by kernel_rfl) (by kernel_rfl) (fun _ _ _ h => h) (Or.inl ⟨by rfl, ?_⟩) (by assumption) ?_
     rotate_left
     focus
      intro w hSw
      obtain ⟨d1, d2⟩ := hSw
      go_simp
      try (with_reducible rfl)
     try simp only [Act.put]
     refine wpAnyH_take (i := 1) (v := ?_) rfl (by kernel_rfl) (by kernel_rfl) (by kernel_rfl) (fun _ _ _ h => h) (Or.inl ⟨by rfl, ?_⟩) (by assumption) ?_
     rotate_left
     focus
      intro w hSw
      obtain ⟨d1, d2⟩ := hSw
      go_simp
      try (with_reducible rfl)
     try simp only [Act.put]
     refine wpAnyH_take (i := 2) (v := ?_) rfl (by kernel_rfl) (by kernel_rfl) (by kernel_rfl) (fun _ _ _ h => h) (Or.inl ⟨by rfl, ?_⟩) (by assumption) ?_
     rotate_left
     focus
      intro w hSw
      obtain ⟨d1, d2⟩ := hSw
      go_simp
      try (with_reducible rfl)
     try simp only [Act.put]
     refine wpAnyH_ready (rs := [3]) (by kernel_rfl) (by simp) ?_
     refine AllReadyH.cons rfl (fun K hK => ?_) AllReadyH.nil
     go_simp
     refine (HH.out.2.2.1 _ (HK.out.1.trans (Below.mono HD HK.out.1.size))).mono ?_
     rintro e y0 ⟨A9, c9, rfl, _, _, hb⟩
     rw [ints_length]
     have HY0 : Below W2.heap.size W2 y0 := HD.trans (hb.mono HD.size)
     clear hb
     refine hK.out _ _ ⟨(KX.out _ HY0).1, (KX.out _ HY0).2.1⟩ (fun hHeld => ?_)
     clear hK K
     obtain ⟨z0, z1, z2, z3, z4, z5⟩ := KX.out _ HY0
     have HWY := Lib.hid (HK.out.1.trans (Below.mono HY0 HK.out.1.size))
     have l5 := Nat.lt_of_lt_of_le HK.out.2.2 HY0.size
     have hl5 := HK.out.2.1.ext HY0
     have l0 : w.heap.size < y0.heap.size := Nat.lt_of_lt_of_le (lt_of_cell' z0) (Nat.le_refl _)
     have l1 : w.heap.size + 1 < y0.heap.size := lt_of_cell' z1
     have HS := Lib.hid (fun (V : World) (hV : Below y0.heap.size y0 V) => KX.out V (HY0.trans (hV.mono HY0.size)))
     have HC0 := Lib.hid (fun W (hW : Below y0.heap.size y0 W) => HB0.out W (HWY.out.trans (hW.mono HWY.out.size)))
     have HC1 := Lib.hid (fun W (hW : Below y0.heap.size y0 W) => HB1.out W (HWY.out.trans (hW.mono HWY.out.size)) g5 A' c' ((hW.cell (p := ⟨g5, 0, none⟩) l5).trans z5) (hl5.ext hW) (Nat.lt_of_lt_of_le l5 hW.size))
     have HC2 := Lib.hid (fun W (hW : Below y0.heap.size y0 W) => HB2.out W (HWY.out.trans (hW.mono HWY.out.size)) g5 A' c' ((hW.cell (p := ⟨g5, 0, none⟩) l5).trans z5) (hl5.ext hW) (Nat.lt_of_lt_of_le l5 hW.size))
     have HC3 := Lib.hid (fun W (hW : Below y0.heap.size y0 W) => HB3.out W (HWY.out.trans (hW.mono HWY.out.size)) g5 A' c' ((hW.cell (p := ⟨g5, 0, none⟩) l5).trans z5) (hl5.ext hW) (Nat.lt_of_lt_of_le l5 hW.size))
     clear hl5 HY0 HD KX hHeld
     refine wpAnyH_ext 4 (by kernel_rfl) (by rfl) (by kernel_rfl) (fun W' hW' => ⟨(HS.out W' hW').1, (HS.out W' hW').2.1⟩) ?_
     intro ι _ X hX hC
     have rX := fun k => (bcell (hX k)).1
     repeat (first | go_big_quiet_skip | (go_big_quiet_want; go_big_quiet_op; first | go_big_quiet_on | (apply Exists.intro; refine ⟨fun _ => ?_, ?_⟩; (focus ((first | (go_at_call 33; with_reducible exact Calls.ext_of hX hC (HC0.out _ (hX _))) | (go_at_call 33; with_reducible exact Calls.ext_of hX hC (HC1.out _ (hX _))) | (go_at_call 33; with_reducible exact Calls.ext_of hX hC (HC2.out _ (hX _))) | (go_at_call 33; with_reducible exact Calls.ext_of hX hC (HC3.out _ (hX _)))))); go_big_quiet_on)))
     refine wpQuiet_nil ?_
     intro w1 hb1
     clear rX hX hC
     have HF := Lib.hid (HWY.out.trans (hb1.mono HWY.out.size))
     clear hb1
     go_wp2
     go_ret
     exact ⟨rfl, HF.out⟩
end Go.Proofs.YtegmniphgahblaaGreat
namespace Go.Proofs.YtegmniphgahblaaGreat
open Go.RowKit

def cwE (ws : List Car) (s : Wt) : Int := if checkE ws = 0 then waterE ws s else checkE ws

set_option maxRecDepth 100000 in
set_option maxHeartbeats 800000 in
theorem CheckWater_any (A : Option Addr) (c : Nat) (ws : List Car) (s : Wt) (w : World) (h : Wk w A ws) (hs : Wet w s) :
  Calls Tryz.prog 40 #[.agg #[.slice A ws.length c], s.v] w fun e w' => e = .returned (.int .i64 (cwE ws s)) ∧ Below w.heap.size w w' := by
 have hb1 : Below w.heap.size w ((w.alloc (.cells #[.slice A ws.length c] 24)).alloc (.cells #[.slice s.A0 s.ri.length s.c0, .slice s.A1 s.bo.length s.c1, .slice s.A2 s.lk.length s.c2, .slice s.A3 s.lo.length s.c3] 30)) := ((Below.refl _ w).alloc (Nat.le_refl _) _).alloc (by simp) _
 have hch := Check_any A c ws _ (h.ext hb1)
 have hcw := fun W (hW : Below w.heap.size w W) (g : Good ws) => checkWater_any A c ws s W (h.ext hW) g (hs.ext hW)
 have q0 : ((w.alloc (.cells #[.slice A ws.length c] 24)).alloc (.cells #[.slice s.A0 s.ri.length s.c0, .slice s.A1 s.bo.length s.c1, .slice s.A2 s.lk.length s.c2, .slice s.A3 s.lo.length s.c3] 30)).cell? ⟨w.heap.size, 0, none⟩ = some (.slice A ws.length c) := by simp [go_sem]
 have hblk : Blk ((w.alloc (.cells #[.slice A ws.length c] 24)).alloc (.cells #[.slice s.A0 s.ri.length s.c0, .slice s.A1 s.bo.length s.c1, .slice s.A2 s.lk.length s.c2, .slice s.A3 s.lo.length s.c3] 30)) (w.heap.size + 1) #[.slice s.A0 s.ri.length s.c0, .slice s.A1 s.bo.length s.c1, .slice s.A2 s.lk.length s.c2, .slice s.A3 s.lo.length s.c3] 30 := blk_new _ _ _ (by simp)
 have hs1 : ((w.alloc (.cells #[.slice A ws.length c] 24)).alloc (.cells #[.slice s.A0 s.ri.length s.c0, .slice s.A1 s.bo.length s.c1, .slice s.A2 s.lk.length s.c2, .slice s.A3 s.lo.length s.c3] 30)).heap.size = w.heap.size + 2 := by simp
 have hd : cwE ws s = if checkE ws = 0 then waterE ws s else checkE ws := rfl
 have hg : checkE ws = 0 → Good ws := good_of_check
 have HH := hd5 hb1 hch hcw hblk hg
 clear hb1 hch hcw hblk hg h hs
 unfold Wt.v at *
 generalize cwE ws s = E at *
 generalize waterE ws s = F at *
 generalize checkE ws = D at *
 have HD := Lib.hid hd
 clear hd
 by_cases h0 : D = 0
 ·have hE : E = F := by rw [HD.out, if_pos h0]
  subst h0 hE
  go_enter Tryz.func40, Tryz.ntmps40
  go_upto_region 1 with fail
  generalize hgW : (w.alloc (.cells #[.slice A ws.length c] 24)).alloc (.cells #[.slice s.A0 s.ri.length s.c0, .slice s.A1 s.bo.length s.c1, .slice s.A2 s.lk.length s.c2, .slice s.A3 s.lo.length s.c3] 30) = W1 at *
  clear hgW
  go_upto_region 4 with (go_at_call 30; refine HH.out.2.1.mono ?_; rintro e w1 ⟨rfl, hb⟩; have HB := Lib.hid hb; clear hb)
  have p0 := (HB.out.cell (p := ⟨w.heap.size, 0, none⟩) (by show w.heap.size < _; omega)).trans q0
  have hbk := (HB.out.block (w.heap.size + 1) (by omega)).trans HH.out.2.2.2.1
  have p1 : w1.cell? ⟨w.heap.size + 1, 0, none⟩ = _ := cell_row hbk
  have p2 : w1.cell? ⟨w.heap.size + 1, 1, none⟩ = _ := cell_row hbk
  have p3 : w1.cell? ⟨w.heap.size + 1, 2, none⟩ = _ := cell_row hbk
  have p4 : w1.cell? ⟨w.heap.size + 1, 3, none⟩ = _ := cell_row hbk
  have HW := Lib.hid (HH.out.1.trans (HB.out.mono HH.out.1.size))
  clear hbk
  go_wp2_with (go_at_call 14; go_loud (refine (HH.out.2.2.1 _ HW.out (HH.out.2.2.2.2 (by trivial))).mono ?_; rintro e w2 ⟨rfl, hb⟩; have HF := Lib.hid (HW.out.trans (hb.mono HW.out.size)); clear hb))
  go_ret
  exact ⟨rfl, HF.out⟩
 ·have hE : E = D := by rw [HD.out, if_neg h0]
  have hz : (D != 0) = true := by simpa using h0
  subst hE
  go_enter Tryz.func40, Tryz.ntmps40
  go_upto_region 1 with fail
  generalize hgW : (w.alloc (.cells #[.slice A ws.length c] 24)).alloc (.cells #[.slice s.A0 s.ri.length s.c0, .slice s.A1 s.bo.length s.c1, .slice s.A2 s.lk.length s.c2, .slice s.A3 s.lo.length s.c3] 30) = W1 at *
  clear hgW
  go_wp2_with (go_at_call 30; refine HH.out.2.1.mono ?_; rintro e w1 ⟨rfl, hb⟩; have HF := Lib.hid (HH.out.1.trans (hb.mono HH.out.1.size)); clear hb)
  go_ret
  exact ⟨rfl, HF.out⟩
end Go.Proofs.YtegmniphgahblaaGreat
