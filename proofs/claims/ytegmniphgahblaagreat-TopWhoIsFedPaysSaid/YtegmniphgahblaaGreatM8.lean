/- Walks: supply. | Walks: checkCase. | Walks: CheckCase, asked. | Walks: Ends. -/
import Derived.Test.YtegmniphgahblaaGreatM7
namespace Go.Proofs.YtegmniphgahblaaGreat
open Go.RowKit Go.Shelf

/-- A supply, as it reads. -/
def supV (f : Sp) (s t : Wt) : Value := .agg #[.int .i64 f.1, .int .i64 f.2, .slice s.A0 s.ri.length s.c0, .slice s.A1 s.bo.length s.c1, .slice s.A2 s.lk.length s.c2, .slice s.A3 s.lo.length s.c3, .slice t.A0 t.ri.length t.c0, .slice t.A1 t.bo.length t.c1, .slice t.A2 t.lk.length t.c2, .slice t.A3 t.lo.length t.c3]

/-- A list that doesn't lie in block b. -/
def NB (b : Nat) (A : Option Addr) (xs : List Int) : Prop := 0 < xs.length → ∀ a, A = some a → a.block ≠ b
structure WNB (b : Nat) (s : Wt) : Prop where
 n0 : NB b s.A0 s.ri
 n1 : NB b s.A1 s.bo
 n2 : NB b s.A2 s.lk
 n3 : NB b s.A3 s.lo
/-- Lists that were made behind a world. -/
structure WFr (base : Nat) (s : Wt) : Prop where
 f0 : Fresh base s.A0
 f1 : Fresh base s.A1
 f2 : Fresh base s.A2
 f3 : Fresh base s.A3
theorem Rd.nb {W : World} {b : Nat} {A : Option Addr} {xs : List Int} (h : Rd W W.heap.size A xs) (hb : W.heap.size ≤ b) : NB b A xs := fun hn a e => by
 obtain ⟨g, off, e2, hl, _⟩ := h hn
 rw [e] at e2
 cases e2
 dsimp only
 omega
theorem Fresh.nb {base b : Nat} {A : Option Addr} {xs : List Int} (h : Fresh base A) (hb : b < base) : NB b A xs := fun _ a e => by have := h a e; omega
theorem WFr.nb {base b : Nat} {s : Wt} (h : WFr base s) (hb : b < base) : WNB b s := ⟨h.f0.nb hb, h.f1.nb hb, h.f2.nb hb, h.f3.nb hb⟩
theorem WFr.mono {base base' : Nat} {s : Wt} (h : WFr base s) (hb : base' ≤ base) : WFr base' s := ⟨h.f0.mono hb, h.f1.mono hb, h.f2.mono hb, h.f3.mono hb⟩
theorem Wet.nb {W : World} {b : Nat} {s : Wt} (h : Wet W s) (hb : W.heap.size ≤ b) : WNB b s := ⟨h.r0.nb hb, h.r1.nb hb, h.r2.nb hb, h.r3.nb hb⟩
theorem Rd.moved {W W' : World} {b : Nat} {A : Option Addr} {xs : List Int} (h : Rd W W.heap.size A xs) (n : NB b A xs) (oth : ∀ k, k ≠ b → W'.heap[k]? = W.heap[k]?) (hs : W.heap.size ≤ W'.heap.size) : Rd W' W'.heap.size A xs := fun hn => by
 obtain ⟨g, off, e, hl, hc⟩ := h hn
 have := n hn _ e
 dsimp only at this
 exact ⟨g, off, e, by omega, fun i hi => (cell_of_heap (oth g this)).trans (hc i hi)⟩
theorem Wet.moved {W W' : World} {b : Nat} {s : Wt} (h : Wet W s) (n : WNB b s) (oth : ∀ k, k ≠ b → W'.heap[k]? = W.heap[k]?) (hs : W.heap.size ≤ W'.heap.size) : Wet W' s :=
 ⟨h.r0.moved n.n0 oth hs, h.r1.moved n.n1 oth hs, h.r2.moved n.n2 oth hs, h.r3.moved n.n3 oth hs, h.m0, h.m1, h.m2, h.m3⟩
/-- Cells that are stored in a row. -/
theorem setCells_oth {b k : Nat} (hk : k ≠ b) : ∀ (vs : List Value) (o : Nat) (W : World), (W.setCells b o vs).heap[k]? = W.heap[k]?
 | [], _, _ => rfl
 | v :: r, o, W => by
  rw [World.setCells, setCells_oth hk r]
  exact Below.heap_setCell _ _ _ _ hk
theorem setCells_size {b : Nat} : ∀ (vs : List Value) (o : Nat) (W : World), (W.setCells b o vs).heap.size = W.heap.size
 | [], _, _ => rfl
 | v :: r, o, W => by rw [World.setCells, setCells_size r, World.size_setCell]
theorem setCells_below {W0 : World} {m b : Nat} (hm : m ≤ b) : ∀ (vs : List Value) (o : Nat) (W : World), Below m W0 W → Below m W0 (W.setCells b o vs)
 | [], _, _, h => h
 | v :: r, o, W, h => by
  rw [World.setCells]
  exact setCells_below hm r _ _ (h.setCell (p := ⟨b, o, none⟩) hm _)
theorem setCells_from {b : Nat} {ty : TypeId} : ∀ (vs : List Value) (o : Nat) (W : World) (cs : Array Value), Blk W b cs ty → o + vs.length ≤ cs.size → ∃ cs' : Array Value, Blk (W.setCells b o vs) b cs' ty ∧ cs'.size = cs.size ∧ (∀ j, j < vs.length → cs'[o + j]? = vs[j]?) ∧ ∀ j, j < o ∨ o + vs.length ≤ j → cs'[j]? = cs[j]?
 | [], o, W, cs, h, _ => ⟨cs, h, rfl, fun j hj => absurd hj (by simp), fun _ _ => rfl⟩
 | v :: r, o, W, cs, h, hl => by
  have h1 : Blk (W.setCell ⟨b, o, none⟩ v) b (cs.setIfInBounds o v) ty := heap_setCell_same _ _ o _ _ _ h
  simp only [List.length_cons] at hl
  obtain ⟨cs', h2, h3, h4, h5⟩ := setCells_from r (o + 1) _ _ h1 (by rw [Array.size_setIfInBounds]; omega)
  refine ⟨cs', by rw [World.setCells]; exact h2, by rw [h3, Array.size_setIfInBounds], fun j hj => ?_, fun j hj => ?_⟩
  ·cases j with
   | zero =>
    rw [Nat.add_zero, h5 o (by omega), Array.getElem?_setIfInBounds]
    simp
    omega
   | succ j =>
    have := h4 j (by simp at hj; omega)
    rw [show o + (j + 1) = o + 1 + j by omega, this]
    simp
  ·simp only [List.length_cons] at hj
   rw [h5 j (by omega), Array.getElem?_setIfInBounds, if_neg (by omega)]
theorem setCells_blk {b : Nat} {ty : TypeId} {W : World} {cs : Array Value} (h : Blk W b cs ty) (vs : List Value) (hl : vs.length = cs.size) : Blk (W.setCells b 0 vs) b vs.toArray ty := by
 obtain ⟨cs', h1, h2, h3, _⟩ := setCells_from vs 0 W cs h (by omega)
 have e : cs' = vs.toArray := by
  apply Array.ext_getElem?
  intro j
  by_cases hj : j < vs.length
  ·have := h3 j hj
   rw [Nat.zero_add] at this
   rw [this]; simp
  ·rw [Array.getElem?_eq_none (by omega)]
   simp; omega
 rw [← e]
 exact h1
theorem blk_range {b : Nat} {ty : TypeId} {W : World} {cs : Array Value} (h : Blk W b cs ty) : W.rangeAt b 0 cs.toList := fun j v hv => by
 rw [Nat.zero_add, cell_row h, ← Array.getElem?_toList]
 exact hv
theorem blk_there {b : Nat} {ty : TypeId} {W : World} {cs : Array Value} (h : Blk W b cs ty) : W.there b 0 cs.size := fun j hj => by
 refine ⟨?_, blk_frozen h⟩
 rw [Nat.zero_add, cell_row h, Array.getElem?_eq_getElem hj]
 rfl

/-- The cells of the boxes of works, case and place. -/
def supS (g : Nat) (v0 v1 v2 v3 v4 v5 : Value) (k : Nat) (X : World) : Prop := match k with
 | 0 => X.cell? ⟨g, 0, none⟩ = some v0
 | 1 => X.cell? ⟨g + 1, 0, none⟩ = some v1 ∧ X.cell? ⟨g + 1, 1, none⟩ = some v2
 | _ => X.cell? ⟨g + 1 + 1, 0, none⟩ = some v3 ∧ X.cell? ⟨g + 1 + 1, 1, none⟩ = some v4 ∧ X.cell? ⟨g + 1 + 1, 2, none⟩ = some v5
theorem cell_below {X X' : World} {g i : Nat} {u : Value} (hb : Below X.heap.size X X') (e : X.cell? ⟨g, i, none⟩ = some u) : X'.cell? ⟨g, i, none⟩ = some u := (cell_of_heap (hb.block g (lt_of_cell' e))).trans e
theorem supS_below {g : Nat} {v0 v1 v2 v3 v4 v5 : Value} {X X' : World} (hb : Below X.heap.size X X') (k : Nat) (h : supS g v0 v1 v2 v3 v4 v5 k X) : supS g v0 v1 v2 v3 v4 v5 k X' := by
 match k with
 | 0 => exact cell_below hb h
 | 1 =>
  obtain ⟨e3, e4⟩ : _ ∧ _ := h
  exact ⟨cell_below hb e3, cell_below hb e4⟩
 | k + 2 =>
  obtain ⟨e3, e4, e5⟩ : _ ∧ _ ∧ _ := h
  exact ⟨cell_below hb e3, cell_below hb e4, cell_below hb e5⟩

theorem supS_oth {g b : Nat} {v0 v1 v2 v3 v4 v5 : Value} {X X' : World} (h0 : g ≠ b) (h1 : g + 1 ≠ b) (h2 : g + 1 + 1 ≠ b) (oth : ∀ k, k ≠ b → X'.heap[k]? = X.heap[k]?) (k : Nat) (h : supS g v0 v1 v2 v3 v4 v5 k X) : supS g v0 v1 v2 v3 v4 v5 k X' := by
 match k with
 | 0 => exact (cell_of_heap (oth _ h0)).trans h
 | 1 =>
  obtain ⟨e3, e4⟩ : _ ∧ _ := h
  exact ⟨(cell_of_heap (oth _ h1)).trans e3, (cell_of_heap (oth _ h1)).trans e4⟩
 | k + 2 =>
  obtain ⟨e3, e4, e5⟩ : _ ∧ _ ∧ _ := h
  exact ⟨(cell_of_heap (oth _ h2)).trans e3, (cell_of_heap (oth _ h2)).trans e4, (cell_of_heap (oth _ h2)).trans e5⟩

/-- What flows through each outlet, by value. -/
def throughV (f : Nat → Int) : Value := .agg ((List.range 60).map fun j => Value.int .i64 (f j)).toArray
theorem field_through (f : Nat → Int) (w : World) : (Instr.field 95 (flV f) 0).run Tryz.prog w = .ok (throughV f) w := by kernel_rfl
theorem index_cs (cs : Array Value) (v : Value) (x : Nat) (hx : x < 60) (hv : cs[x]? = some v) (w : World) : (Instr.index 92 (.agg cs) (.int .i64 (x : Int))).run Tryz.prog w = .ok v w := by
 have h : Tryz.prog.underlying 92 = some (.array 60 3) := by kernel_rfl
 simp [Instr.index, run_underlying h, asIntOf, go_sem, hx, hv]
theorem index_through (f : Nat → Int) (x : Nat) (hx : x < 60) (w : World) : (Instr.index 92 (throughV f) (.int .i64 (x : Int))).run Tryz.prog w = .ok (.int .i64 (f x)) w := by
 unfold throughV
 refine index_cs _ _ x hx ?_ w
 rw [List.getElem?_toArray, List.getElem?_map, List.getElem?_range hx]
 rfl
/-- The cells that the ends of a supply are told of. -/
def supT (g b : Nat) (v0 vx s0 s1 s2 s3 t0 t1 t2 t3 : Value) (k : Nat) (X : World) : Prop := match k with
 | 0 => X.cell? ⟨g, 0, none⟩ = some v0
 | 1 => X.cell? ⟨g + 1 + 1, 0, none⟩ = some vx
 | 2 => X.cell? ⟨b, 2, none⟩ = some s0 ∧ X.cell? ⟨b, 3, none⟩ = some s1 ∧ X.cell? ⟨b, 4, none⟩ = some s2 ∧ X.cell? ⟨b, 5, none⟩ = some s3
 | _ => X.cell? ⟨b, 6, none⟩ = some t0 ∧ X.cell? ⟨b, 7, none⟩ = some t1 ∧ X.cell? ⟨b, 8, none⟩ = some t2 ∧ X.cell? ⟨b, 9, none⟩ = some t3
theorem supT_below {g b : Nat} {v0 vx s0 s1 s2 s3 t0 t1 t2 t3 : Value} {X X' : World} (hb : Below X.heap.size X X') (k : Nat) (h : supT g b v0 vx s0 s1 s2 s3 t0 t1 t2 t3 k X) : supT g b v0 vx s0 s1 s2 s3 t0 t1 t2 t3 k X' := by
 match k with
 | 0 => exact cell_below hb h
 | 1 => exact cell_below hb h
 | 2 =>
  obtain ⟨e0, e1, e2, e3⟩ : _ ∧ _ ∧ _ ∧ _ := h
  exact ⟨cell_below hb e0, cell_below hb e1, cell_below hb e2, cell_below hb e3⟩
 | k + 3 =>
  obtain ⟨e0, e1, e2, e3⟩ : _ ∧ _ ∧ _ ∧ _ := h
  exact ⟨cell_below hb e0, cell_below hb e1, cell_below hb e2, cell_below hb e3⟩

set_option maxRecDepth 100000 in
set_option maxHeartbeats 1000000 in
theorem supply_any (A : Option Addr) (c : Nat) (ws : List Car) (cs : Cs) (x : Nat) (hx : x < (outs ws).length) (w : World) (hW : Wk w A ws) (g : Good ws) (hc : Csd w cs) (hk : CsOk ws cs) :
  Calls Tryz.prog 51 #[.agg #[.slice A ws.length c], cs.v, plV (pl ws x)] w fun e w' => ∃ s t : Wt, e = .returned (supV (endsF ws cs x) s t) ∧ Wet w' s ∧ Wet w' t ∧ Corner ws cs x false s ∧ Corner ws cs x true t ∧ WFr w.heap.size s ∧ WFr w.heap.size t ∧ Below w.heap.size w w' := by
 obtain ⟨A0, A1, c0, c1, ri, bo⟩ := cs
 have hb1 : Below w.heap.size w ((((w.alloc (.cells #[.slice A ws.length c] 24)).alloc (.cells #[.slice A0 ri.length c0, .slice A1 bo.length c1] 27)).alloc (.cells #[.int .i64 (x : Int), .int .i64 (caAt ws x : Int), .int .i64 (atAt ws x : Int)] 103)).alloc (.cells #[.int .i64 0, .int .i64 0, .slice none 0 0, .slice none 0 0, .slice none 0 0, .slice none 0 0, .slice none 0 0, .slice none 0 0, .slice none 0 0, .slice none 0 0] 74)) := ((((Below.refl _ w).alloc (Nat.le_refl _) _).alloc (by simp) _).alloc (by simp; omega) _).alloc (by simp; omega) _
 have q0 : Blk ((((w.alloc (.cells #[.slice A ws.length c] 24)).alloc (.cells #[.slice A0 ri.length c0, .slice A1 bo.length c1] 27)).alloc (.cells #[.int .i64 (x : Int), .int .i64 (caAt ws x : Int), .int .i64 (atAt ws x : Int)] 103)).alloc (.cells #[.int .i64 0, .int .i64 0, .slice none 0 0, .slice none 0 0, .slice none 0 0, .slice none 0 0, .slice none 0 0, .slice none 0 0, .slice none 0 0, .slice none 0 0] 74)) w.heap.size #[.slice A ws.length c] 24 := blk_alloc (blk_alloc (blk_alloc (blk_new _ _ _ rfl) _) _) _
 have q1 : Blk ((((w.alloc (.cells #[.slice A ws.length c] 24)).alloc (.cells #[.slice A0 ri.length c0, .slice A1 bo.length c1] 27)).alloc (.cells #[.int .i64 (x : Int), .int .i64 (caAt ws x : Int), .int .i64 (atAt ws x : Int)] 103)).alloc (.cells #[.int .i64 0, .int .i64 0, .slice none 0 0, .slice none 0 0, .slice none 0 0, .slice none 0 0, .slice none 0 0, .slice none 0 0, .slice none 0 0, .slice none 0 0] 74)) (w.heap.size + 1) #[.slice A0 ri.length c0, .slice A1 bo.length c1] 27 := blk_alloc (blk_alloc (blk_new _ _ _ (by simp)) _) _
 have q2 : Blk ((((w.alloc (.cells #[.slice A ws.length c] 24)).alloc (.cells #[.slice A0 ri.length c0, .slice A1 bo.length c1] 27)).alloc (.cells #[.int .i64 (x : Int), .int .i64 (caAt ws x : Int), .int .i64 (atAt ws x : Int)] 103)).alloc (.cells #[.int .i64 0, .int .i64 0, .slice none 0 0, .slice none 0 0, .slice none 0 0, .slice none 0 0, .slice none 0 0, .slice none 0 0, .slice none 0 0, .slice none 0 0] 74)) (w.heap.size + 1 + 1) #[.int .i64 (x : Int), .int .i64 (caAt ws x : Int), .int .i64 (atAt ws x : Int)] 103 := blk_alloc (blk_new _ _ _ (by simp)) _
 have q3 : Blk ((((w.alloc (.cells #[.slice A ws.length c] 24)).alloc (.cells #[.slice A0 ri.length c0, .slice A1 bo.length c1] 27)).alloc (.cells #[.int .i64 (x : Int), .int .i64 (caAt ws x : Int), .int .i64 (atAt ws x : Int)] 103)).alloc (.cells #[.int .i64 0, .int .i64 0, .slice none 0 0, .slice none 0 0, .slice none 0 0, .slice none 0 0, .slice none 0 0, .slice none 0 0, .slice none 0 0, .slice none 0 0] 74)) (w.heap.size + 1 + 1 + 1) _ 74 := blk_new _ #[.int .i64 0, .int .i64 0, .slice none 0 0, .slice none 0 0, .slice none 0 0, .slice none 0 0, .slice none 0 0, .slice none 0 0, .slice none 0 0, .slice none 0 0] _ (by simp)
 have hsz : ((((w.alloc (.cells #[.slice A ws.length c] 24)).alloc (.cells #[.slice A0 ri.length c0, .slice A1 bo.length c1] 27)).alloc (.cells #[.int .i64 (x : Int), .int .i64 (caAt ws x : Int), .int .i64 (atAt ws x : Int)] 103)).alloc (.cells #[.int .i64 0, .int .i64 0, .slice none 0 0, .slice none 0 0, .slice none 0 0, .slice none 0 0, .slice none 0 0, .slice none 0 0, .slice none 0 0, .slice none 0 0] 74)).heap.size = w.heap.size + 4 := by simp
 have HQ := hd6 hb1 q0 q1 q2 q3 hsz
 clear hb1 q0 q1 q2 q3 hsz
 have HC := hd3 hW hc hk
 clear hW hc hk
 dsimp only [Cs.v]
 unfold pl plV
 dsimp only
 go_enter Tryz.func51, Tryz.ntmps51
 go_upto_region 1 with fail
 refine wp_region_cut (fun a' w' => ∃ (s t : Wt) (b : Nat), a' = { tmps := #[.agg #[.slice A ws.length c], .agg #[.slice A0 ri.length c0, .slice A1 bo.length c1], .agg #[.int .i64 (x : Int), .int .i64 (caAt ws x : Int), .int .i64 (atAt ws x : Int)], .pointer (some ⟨w.heap.size, 0, none⟩), .pointer (some ⟨w.heap.size + 1, 0, none⟩), .pointer (some ⟨w.heap.size + 1 + 1, 0, none⟩), .pointer (some ⟨w.heap.size + 1 + 1 + 1, 0, none⟩), .pointer (some ⟨b, 0, none⟩), .agg #[.slice A ws.length c], .agg #[.slice A0 ri.length c0, .slice A1 bo.length c1], .agg #[.int .i64 (x : Int), .int .i64 (caAt ws x : Int), .int .i64 (atAt ws x : Int)], .agg #[.slice s.A0 s.ri.length s.c0, .slice s.A1 s.bo.length s.c1, .slice s.A2 s.lk.length s.c2, .slice s.A3 s.lo.length s.c3], .agg #[.slice A ws.length c], .agg #[.slice A0 ri.length c0, .slice A1 bo.length c1], .agg #[.int .i64 (x : Int), .int .i64 (caAt ws x : Int), .int .i64 (atAt ws x : Int)], .agg #[.slice t.A0 t.ri.length t.c0, .slice t.A1 t.bo.length t.c1, .slice t.A2 t.lk.length t.c2, .slice t.A3 t.lo.length t.c3], .agg #[.int .i64 0, .int .i64 0, .slice s.A0 s.ri.length s.c0, .slice s.A1 s.bo.length s.c1, .slice s.A2 s.lk.length s.c2, .slice s.A3 s.lo.length s.c3, .slice t.A0 t.ri.length t.c0, .slice t.A1 t.bo.length t.c1, .slice t.A2 t.lk.length t.c2, .slice t.A3 t.lo.length t.c3], undef, undef, undef, undef, undef, undef, undef, undef, undef, undef, undef, undef, undef, undef, undef, undef, undef, undef, undef], defers := [] } ∧
   Aside (Blk w' b #[.int .i64 0, .int .i64 0, .slice s.A0 s.ri.length s.c0, .slice s.A1 s.bo.length s.c1, .slice s.A2 s.lk.length s.c2, .slice s.A3 s.lo.length s.c3, .slice t.A0 t.ri.length t.c0, .slice t.A1 t.bo.length t.c1, .slice t.A2 t.lk.length t.c2, .slice t.A3 t.lo.length t.c3] 74 ∧ w.heap.size + 4 ≤ b ∧ Below w.heap.size w w' ∧ (∀ k, k < w.heap.size + 4 → w'.heap[k]? = ((((w.alloc (.cells #[.slice A ws.length c] 24)).alloc (.cells #[.slice A0 ri.length c0, .slice A1 bo.length c1] 27)).alloc (.cells #[.int .i64 (x : Int), .int .i64 (caAt ws x : Int), .int .i64 (atAt ws x : Int)] 103)).alloc (.cells #[.int .i64 0, .int .i64 0, .slice none 0 0, .slice none 0 0, .slice none 0 0, .slice none 0 0, .slice none 0 0, .slice none 0 0, .slice none 0 0, .slice none 0 0] 74)).heap[k]?) ∧ Wet w' s ∧ Wet w' t ∧ Corner ws ⟨A0, A1, c0, c1, ri, bo⟩ x false s ∧ Corner ws ⟨A0, A1, c0, c1, ri, bo⟩ x true t ∧ WNB b s ∧ WNB b t ∧ WNB (w.heap.size + 1 + 1 + 1) s ∧ WNB (w.heap.size + 1 + 1 + 1) t ∧ WFr w.heap.size s ∧ WFr w.heap.size t)) (by kernel_rfl) (supS w.heap.size (.slice A ws.length c) (.slice A0 ri.length c0) (.slice A1 bo.length c1) (.int .i64 (x : Int)) (.int .i64 (caAt ws x : Int)) (.int .i64 (atAt ws x : Int))) (fun _ _ => true) ?_ ?_
 ·have hX0 : Below w.heap.size w ((((w.alloc (.cells #[.slice A ws.length c] 24)).alloc (.cells #[.slice A0 ri.length c0, .slice A1 bo.length c1] 27)).alloc (.cells #[.int .i64 (x : Int), .int .i64 (caAt ws x : Int), .int .i64 (atAt ws x : Int)] 103)).alloc (.cells #[.int .i64 0, .int .i64 0, .slice none 0 0, .slice none 0 0, .slice none 0 0, .slice none 0 0, .slice none 0 0, .slice none 0 0, .slice none 0 0, .slice none 0 0] 74)).drew := HQ.out.1.drew
  have hX0' : Below ((((w.alloc (.cells #[.slice A ws.length c] 24)).alloc (.cells #[.slice A0 ri.length c0, .slice A1 bo.length c1] 27)).alloc (.cells #[.int .i64 (x : Int), .int .i64 (caAt ws x : Int), .int .i64 (atAt ws x : Int)] 103)).alloc (.cells #[.int .i64 0, .int .i64 0, .slice none 0 0, .slice none 0 0, .slice none 0 0, .slice none 0 0, .slice none 0 0, .slice none 0 0, .slice none 0 0, .slice none 0 0] 74)).heap.size ((((w.alloc (.cells #[.slice A ws.length c] 24)).alloc (.cells #[.slice A0 ri.length c0, .slice A1 bo.length c1] 27)).alloc (.cells #[.int .i64 (x : Int), .int .i64 (caAt ws x : Int), .int .i64 (atAt ws x : Int)] 103)).alloc (.cells #[.int .i64 0, .int .i64 0, .slice none 0 0, .slice none 0 0, .slice none 0 0, .slice none 0 0, .slice none 0 0, .slice none 0 0, .slice none 0 0, .slice none 0 0] 74)) ((((w.alloc (.cells #[.slice A ws.length c] 24)).alloc (.cells #[.slice A0 ri.length c0, .slice A1 bo.length c1] 27)).alloc (.cells #[.int .i64 (x : Int), .int .i64 (caAt ws x : Int), .int .i64 (atAt ws x : Int)] 103)).alloc (.cells #[.int .i64 0, .int .i64 0, .slice none 0 0, .slice none 0 0, .slice none 0 0, .slice none 0 0, .slice none 0 0, .slice none 0 0, .slice none 0 0, .slice none 0 0] 74)).drew := (Below.refl _ _).drew
  have s0 : supS w.heap.size (.slice A ws.length c) (.slice A0 ri.length c0) (.slice A1 bo.length c1) (.int .i64 (x : Int)) (.int .i64 (caAt ws x : Int)) (.int .i64 (atAt ws x : Int)) 0 ((((w.alloc (.cells #[.slice A ws.length c] 24)).alloc (.cells #[.slice A0 ri.length c0, .slice A1 bo.length c1] 27)).alloc (.cells #[.int .i64 (x : Int), .int .i64 (caAt ws x : Int), .int .i64 (atAt ws x : Int)] 103)).alloc (.cells #[.int .i64 0, .int .i64 0, .slice none 0 0, .slice none 0 0, .slice none 0 0, .slice none 0 0, .slice none 0 0, .slice none 0 0, .slice none 0 0, .slice none 0 0] 74)).drew := cell_row HQ.out.2.1
  have s1 : supS w.heap.size (.slice A ws.length c) (.slice A0 ri.length c0) (.slice A1 bo.length c1) (.int .i64 (x : Int)) (.int .i64 (caAt ws x : Int)) (.int .i64 (atAt ws x : Int)) 1 ((((w.alloc (.cells #[.slice A ws.length c] 24)).alloc (.cells #[.slice A0 ri.length c0, .slice A1 bo.length c1] 27)).alloc (.cells #[.int .i64 (x : Int), .int .i64 (caAt ws x : Int), .int .i64 (atAt ws x : Int)] 103)).alloc (.cells #[.int .i64 0, .int .i64 0, .slice none 0 0, .slice none 0 0, .slice none 0 0, .slice none 0 0, .slice none 0 0, .slice none 0 0, .slice none 0 0, .slice none 0 0] 74)).drew := ⟨cr 0 HQ.out.2.2.1, cr 1 HQ.out.2.2.1⟩
  have s2 : supS w.heap.size (.slice A ws.length c) (.slice A0 ri.length c0) (.slice A1 bo.length c1) (.int .i64 (x : Int)) (.int .i64 (caAt ws x : Int)) (.int .i64 (atAt ws x : Int)) 2 ((((w.alloc (.cells #[.slice A ws.length c] 24)).alloc (.cells #[.slice A0 ri.length c0, .slice A1 bo.length c1] 27)).alloc (.cells #[.int .i64 (x : Int), .int .i64 (caAt ws x : Int), .int .i64 (atAt ws x : Int)] 103)).alloc (.cells #[.int .i64 0, .int .i64 0, .slice none 0 0, .slice none 0 0, .slice none 0 0, .slice none 0 0, .slice none 0 0, .slice none 0 0, .slice none 0 0, .slice none 0 0] 74)).drew := ⟨cr 0 HQ.out.2.2.2.1, cr 1 HQ.out.2.2.2.1, cr 2 HQ.out.2.2.2.1⟩
  generalize ((((w.alloc (.cells #[.slice A ws.length c] 24)).alloc (.cells #[.slice A0 ri.length c0, .slice A1 bo.length c1] 27)).alloc (.cells #[.int .i64 (x : Int), .int .i64 (caAt ws x : Int), .int .i64 (atAt ws x : Int)] 103)).alloc (.cells #[.int .i64 0, .int .i64 0, .slice none 0 0, .slice none 0 0, .slice none 0 0, .slice none 0 0, .slice none 0 0, .slice none 0 0, .slice none 0 0, .slice none 0 0] 74)).drew = X0 at *
  refine kT 0 0 rfl ?_
  refine kT 1 1 rfl ?_
  refine kT 2 2 rfl ?_
  refine kT 0 4 rfl ?_
  refine kT 1 5 rfl ?_
  refine kT 2 6 rfl ?_
  clear s1 s2
  have hx0 := hX0'.size
  refine wpAnyK_ready (rs := [3, 9]) (by kernel_rfl) (by simp) (AllK.consL rfl (by rfl) (fun K hK => ?_) (AllK.consL rfl (by rfl) (fun K hK => ?_) AllK.nil))
  ·go_simp
   refine (corner_any A c ws ⟨A0, A1, c0, c1, ri, bo⟩ x false hx X0 (HC.out.1.ext (HQ.out.1.trans (hX0'.mono HQ.out.1.size))) g (HC.out.2.1.ext (HQ.out.1.trans (hX0'.mono HQ.out.1.size))) HC.out.2.2).mono ?_
   rintro e X1 ⟨s, rfl, hs, hcs, hf0, hf1, hf2, hf3, hb⟩
   dsimp only [Wt.v]
   refine hK.out _ _ (fun k _ h => supS_below hb k h) ?_
   have hX1 := hX0'.trans (hb.mono hX0'.size)
   have s0a := supS_below hb 0 s0
   clear hK
   refine wpAnyK_ready (rs := [7, 9]) (by kernel_rfl) (by simp) (AllK.consL rfl (by rfl) (fun K hK => ?_) (AllK.consL rfl (by rfl) (fun K hK => ?_) AllK.nil))
   ·go_simp
    refine (corner_any A c ws ⟨A0, A1, c0, c1, ri, bo⟩ x true hx X1 (HC.out.1.ext (HQ.out.1.trans (hX1.mono HQ.out.1.size))) g (HC.out.2.1.ext (HQ.out.1.trans (hX1.mono HQ.out.1.size))) HC.out.2.2).mono ?_
    rintro e X2 ⟨t, rfl, ht, hct, hg0, hg1, hg2, hg3, hb'⟩
    dsimp only [Wt.v]
    refine hK.out _ _ (fun k _ h => supS_below hb' k h) ?_
    have hX2 := hX1.trans (hb'.mono hX1.size)
    have s0b := supS_below hb' 0 s0a
    have hs' := hs.ext hb'
    clear hK
    refine kT 0 8 rfl ?_
    refine kR 9 rfl fun K hK => ?_
    go_simp
    refine hK.out _ _ (fun k _ h => supS_below ((Below.refl _ _).alloc (Nat.le_refl _) _) k h) ?_
    have hb3 := (Below.refl _ X2).alloc (Nat.le_refl _) (.cells #[.int .i64 0, .int .i64 0, .slice none 0 0, .slice none 0 0, .slice none 0 0, .slice none 0 0, .slice none 0 0, .slice none 0 0, .slice none 0 0, .slice none 0 0] 74)
    have hX3 := hX2.trans (hb3.mono hX2.size)
    have hbk := blk_new X2 (g := X2.heap.size) #[.int .i64 0, .int .i64 0, .slice none 0 0, .slice none 0 0, .slice none 0 0, .slice none 0 0, .slice none 0 0, .slice none 0 0, .slice none 0 0, .slice none 0 0] 74 rfl
    have hs3 := hs'.ext hb3
    have ht3 := ht.ext hb3
    have hxb := hX2.size
    clear hK
    refine kR 10 rfl fun K hK => ?_
    have hsz := HQ.out.2.2.2.2.2
    have hbw := HQ.out.1.trans (hX3.mono HQ.out.1.size)
    have hw := HQ.out.1.size
    have hh := hX3.size
    have hx1' := hX1.size
    have hx2' := hX2.size
    refine wp_store_mid 74 (.tmp 7) (.tmp 16) rfl X2.heap.size 0 #[.int .i64 0, .int .i64 0, .slice s.A0 s.ri.length s.c0, .slice s.A1 s.bo.length s.c1, .slice s.A2 s.lk.length s.c2, .slice s.A3 s.lo.length s.c3, .slice t.A0 t.ri.length t.c0, .slice t.A1 t.bo.length t.c1, .slice t.A2 t.lk.length t.c2, .slice t.A3 t.lo.length t.c3] rfl rfl (show World.there _ _ 0 10 from blk_there hbk) (by kernel_rfl) (by simp [Value.oneCell']) ?_
    refine hK.out _ _ (fun k _ h => supS_oth (by omega) (by omega) (by omega) (fun k hk => setCells_oth hk _ _ _) k h) ?_
    refine kD ?_
    exact ⟨s, t, X2.heap.size, rfl, (show _ ∧ _ ∧ _ ∧ _ ∧ _ ∧ _ ∧ _ ∧ _ ∧ _ ∧ _ ∧ _ ∧ _ ∧ _ ∧ _ from ⟨setCells_blk hbk _ rfl, by omega, setCells_below (by omega) _ _ _ hbw, fun k hk => (setCells_oth (by omega) _ _ _).trans (hX3.block k (by omega)), hs3.moved (hs'.nb (Nat.le_refl _)) (fun k hk => setCells_oth hk _ _ _) (by rw [setCells_size]; exact Nat.le_refl _), ht3.moved (ht.nb (Nat.le_refl _)) (fun k hk => setCells_oth hk _ _ _) (by rw [setCells_size]; exact Nat.le_refl _), hcs, hct, (hs'.nb (Nat.le_refl _)), (ht.nb (Nat.le_refl _)), ⟨hf0.nb (by omega), hf1.nb (by omega), hf2.nb (by omega), hf3.nb (by omega)⟩, ⟨hg0.nb (by omega), hg1.nb (by omega), hg2.nb (by omega), hg3.nb (by omega)⟩, ⟨hf0.mono (by omega), hf1.mono (by omega), hf2.mono (by omega), hf3.mono (by omega)⟩, ⟨hg0.mono (by omega), hg1.mono (by omega), hg2.mono (by omega), hg3.mono (by omega)⟩⟩)⟩
   ·go_simp
    refine hK.out _ _ (fun k _ h => supS_below ((Below.refl _ _).alloc (Nat.le_refl _) _) k h) ?_
    have hb3 := (Below.refl _ X1).alloc (Nat.le_refl _) (.cells #[.int .i64 0, .int .i64 0, .slice none 0 0, .slice none 0 0, .slice none 0 0, .slice none 0 0, .slice none 0 0, .slice none 0 0, .slice none 0 0, .slice none 0 0] 74)
    have hX2 := hX1.trans (hb3.mono hX1.size)
    have hbk := blk_new X1 (g := X1.heap.size) #[.int .i64 0, .int .i64 0, .slice none 0 0, .slice none 0 0, .slice none 0 0, .slice none 0 0, .slice none 0 0, .slice none 0 0, .slice none 0 0, .slice none 0 0] 74 rfl
    have s0b := supS_below hb3 0 s0a
    have nbs := hs.nb (Nat.le_refl X1.heap.size)
    replace hs := hs.ext hb3
    have hsz3 : (X1.alloc (.cells #[.int .i64 0, .int .i64 0, .slice none 0 0, .slice none 0 0, .slice none 0 0, .slice none 0 0, .slice none 0 0, .slice none 0 0, .slice none 0 0, .slice none 0 0] 74)).heap.size = X1.heap.size + 1 := by simp
    clear hK
    refine kR 7 rfl fun K hK => ?_
    go_simp
    refine (corner_any A c ws ⟨A0, A1, c0, c1, ri, bo⟩ x true hx (X1.alloc (.cells #[.int .i64 0, .int .i64 0, .slice none 0 0, .slice none 0 0, .slice none 0 0, .slice none 0 0, .slice none 0 0, .slice none 0 0, .slice none 0 0, .slice none 0 0] 74)) (HC.out.1.ext (HQ.out.1.trans (hX2.mono HQ.out.1.size))) g (HC.out.2.1.ext (HQ.out.1.trans (hX2.mono HQ.out.1.size))) HC.out.2.2).mono ?_
    rintro e X3 ⟨t, rfl, ht, hct, hg0, hg1, hg2, hg3, hb'⟩
    dsimp only [Wt.v]
    refine hK.out _ _ (fun k _ h => supS_below hb' k h) ?_
    have hX3 := hX2.trans (hb'.mono hX2.size)
    have s0c := supS_below hb' 0 s0b
    have hs' := hs.ext hb'
    clear hK
    have hbk' : Blk X3 X1.heap.size _ _ := (hb'.block _ (by omega)).trans hbk
    refine kT 0 8 rfl ?_
    refine kR 10 rfl fun K hK => ?_
    have hx1 := hX1.size
    have hsz := HQ.out.2.2.2.2.2
    have hbw := HQ.out.1.trans (hX3.mono HQ.out.1.size)
    have hw := HQ.out.1.size
    have hh := hX3.size
    have hx1' := hX1.size
    have hx2' := hX2.size
    refine wp_store_mid 74 (.tmp 7) (.tmp 16) rfl X1.heap.size 0 #[.int .i64 0, .int .i64 0, .slice s.A0 s.ri.length s.c0, .slice s.A1 s.bo.length s.c1, .slice s.A2 s.lk.length s.c2, .slice s.A3 s.lo.length s.c3, .slice t.A0 t.ri.length t.c0, .slice t.A1 t.bo.length t.c1, .slice t.A2 t.lk.length t.c2, .slice t.A3 t.lo.length t.c3] rfl rfl (show World.there _ _ 0 10 from blk_there hbk') (by kernel_rfl) (by simp [Value.oneCell']) ?_
    refine hK.out _ _ (fun k _ h => supS_oth (by omega) (by omega) (by omega) (fun k hk => setCells_oth hk _ _ _) k h) ?_
    refine kD ?_
    exact ⟨s, t, X1.heap.size, rfl, (show _ ∧ _ ∧ _ ∧ _ ∧ _ ∧ _ ∧ _ ∧ _ ∧ _ ∧ _ ∧ _ ∧ _ ∧ _ ∧ _ from ⟨setCells_blk hbk' _ rfl, by omega, setCells_below (by omega) _ _ _ hbw, fun k hk => (setCells_oth (by omega) _ _ _).trans (hX3.block k (by omega)), hs'.moved nbs (fun k hk => setCells_oth hk _ _ _) (by rw [setCells_size]; exact Nat.le_refl _), ht.moved ⟨hg0.nb (by omega), hg1.nb (by omega), hg2.nb (by omega), hg3.nb (by omega)⟩ (fun k hk => setCells_oth hk _ _ _) (by rw [setCells_size]; exact Nat.le_refl _), hcs, hct, nbs, ⟨hg0.nb (by omega), hg1.nb (by omega), hg2.nb (by omega), hg3.nb (by omega)⟩, ⟨hf0.nb (by omega), hf1.nb (by omega), hf2.nb (by omega), hf3.nb (by omega)⟩, ⟨hg0.nb (by omega), hg1.nb (by omega), hg2.nb (by omega), hg3.nb (by omega)⟩, ⟨hf0.mono (by omega), hf1.mono (by omega), hf2.mono (by omega), hf3.mono (by omega)⟩, ⟨hg0.mono (by omega), hg1.mono (by omega), hg2.mono (by omega), hg3.mono (by omega)⟩⟩)⟩
  ·go_simp
   refine hK.out _ _ (fun k _ h => supS_below ((Below.refl _ _).alloc (Nat.le_refl _) _) k h) ?_
   have hb3 := (Below.refl _ X0).alloc (Nat.le_refl _) (.cells #[.int .i64 0, .int .i64 0, .slice none 0 0, .slice none 0 0, .slice none 0 0, .slice none 0 0, .slice none 0 0, .slice none 0 0, .slice none 0 0, .slice none 0 0] 74)
   have hX1 := hX0'.trans (hb3.mono hX0'.size)
   have hbk := blk_new X0 (g := X0.heap.size) #[.int .i64 0, .int .i64 0, .slice none 0 0, .slice none 0 0, .slice none 0 0, .slice none 0 0, .slice none 0 0, .slice none 0 0, .slice none 0 0, .slice none 0 0] 74 rfl
   have s0a := supS_below hb3 0 s0
   have hsz3 : (X0.alloc (.cells #[.int .i64 0, .int .i64 0, .slice none 0 0, .slice none 0 0, .slice none 0 0, .slice none 0 0, .slice none 0 0, .slice none 0 0, .slice none 0 0, .slice none 0 0] 74)).heap.size = X0.heap.size + 1 := by simp
   clear hK
   refine kR 3 rfl fun K hK => ?_
   go_simp
   refine (corner_any A c ws ⟨A0, A1, c0, c1, ri, bo⟩ x false hx (X0.alloc (.cells #[.int .i64 0, .int .i64 0, .slice none 0 0, .slice none 0 0, .slice none 0 0, .slice none 0 0, .slice none 0 0, .slice none 0 0, .slice none 0 0, .slice none 0 0] 74)) (HC.out.1.ext (HQ.out.1.trans (hX1.mono HQ.out.1.size))) g (HC.out.2.1.ext (HQ.out.1.trans (hX1.mono HQ.out.1.size))) HC.out.2.2).mono ?_
   rintro e X2 ⟨s, rfl, hs, hcs, hf0, hf1, hf2, hf3, hb⟩
   dsimp only [Wt.v]
   refine hK.out _ _ (fun k _ h => supS_below hb k h) ?_
   have hX2 := hX1.trans (hb.mono hX1.size)
   have s0b := supS_below hb 0 s0a
   clear hK
   have hbk1 : Blk X2 X0.heap.size _ _ := (hb.block _ (by omega)).trans hbk
   have hsb := hb.size
   refine kR 7 rfl fun K hK => ?_
   go_simp
   refine (corner_any A c ws ⟨A0, A1, c0, c1, ri, bo⟩ x true hx X2 (HC.out.1.ext (HQ.out.1.trans (hX2.mono HQ.out.1.size))) g (HC.out.2.1.ext (HQ.out.1.trans (hX2.mono HQ.out.1.size))) HC.out.2.2).mono ?_
   rintro e X3 ⟨t, rfl, ht, hct, hg0, hg1, hg2, hg3, hb'⟩
   dsimp only [Wt.v]
   refine hK.out _ _ (fun k _ h => supS_below hb' k h) ?_
   have hX3 := hX2.trans (hb'.mono hX2.size)
   have s0c := supS_below hb' 0 s0b
   have hs' := hs.ext hb'
   clear hK
   have hbk' : Blk X3 X0.heap.size _ _ := (hb'.block _ (by omega)).trans hbk1
   refine kT 0 8 rfl ?_
   refine kR 10 rfl fun K hK => ?_
   have hsz := HQ.out.2.2.2.2.2
   have hbw := HQ.out.1.trans (hX3.mono HQ.out.1.size)
   have hw := HQ.out.1.size
   have hh := hX3.size
   have hx1' := hX1.size
   have hx2' := hX2.size
   refine wp_store_mid 74 (.tmp 7) (.tmp 16) rfl X0.heap.size 0 #[.int .i64 0, .int .i64 0, .slice s.A0 s.ri.length s.c0, .slice s.A1 s.bo.length s.c1, .slice s.A2 s.lk.length s.c2, .slice s.A3 s.lo.length s.c3, .slice t.A0 t.ri.length t.c0, .slice t.A1 t.bo.length t.c1, .slice t.A2 t.lk.length t.c2, .slice t.A3 t.lo.length t.c3] rfl rfl (show World.there _ _ 0 10 from blk_there hbk') (by kernel_rfl) (by simp [Value.oneCell']) ?_
   refine hK.out _ _ (fun k _ h => supS_oth (by omega) (by omega) (by omega) (fun k hk => setCells_oth hk _ _ _) k h) ?_
   refine kD ?_
   exact ⟨s, t, X0.heap.size, rfl, (show _ ∧ _ ∧ _ ∧ _ ∧ _ ∧ _ ∧ _ ∧ _ ∧ _ ∧ _ ∧ _ ∧ _ ∧ _ ∧ _ from ⟨setCells_blk hbk' _ rfl, by omega, setCells_below (by omega) _ _ _ hbw, fun k hk => (setCells_oth (by omega) _ _ _).trans (hX3.block k (by omega)), hs'.moved ⟨hf0.nb (by omega), hf1.nb (by omega), hf2.nb (by omega), hf3.nb (by omega)⟩ (fun k hk => setCells_oth hk _ _ _) (by rw [setCells_size]; exact Nat.le_refl _), ht.moved ⟨hg0.nb (by omega), hg1.nb (by omega), hg2.nb (by omega), hg3.nb (by omega)⟩ (fun k hk => setCells_oth hk _ _ _) (by rw [setCells_size]; exact Nat.le_refl _), hcs, hct, ⟨hf0.nb (by omega), hf1.nb (by omega), hf2.nb (by omega), hf3.nb (by omega)⟩, ⟨hg0.nb (by omega), hg1.nb (by omega), hg2.nb (by omega), hg3.nb (by omega)⟩, ⟨hf0.nb (by omega), hf1.nb (by omega), hf2.nb (by omega), hf3.nb (by omega)⟩, ⟨hg0.nb (by omega), hg1.nb (by omega), hg2.nb (by omega), hg3.nb (by omega)⟩, ⟨hf0.mono (by omega), hf1.mono (by omega), hf2.mono (by omega), hf3.mono (by omega)⟩, ⟨hg0.mono (by omega), hg1.mono (by omega), hg2.mono (by omega), hg3.mono (by omega)⟩⟩)⟩
 ·rintro a' w' ⟨s, t, b, rfl, hF⟩
  dsimp only
  have HF := Lib.hid hF.out
  clear hF
  have hx60 : x < 60 := by have := g.n2; omega
  obtain ⟨hB, hb4, hbw, hbl, hs, ht, hcs, hct, hn1, hn2, hn3, hn4, hw1, hw2⟩ := HF.out
  have hsz := HQ.out.2.2.2.2.2
  have hw0 := HQ.out.1.size
  have hlb : b < w'.heap.size := (Array.getElem?_eq_some_iff.1 hB).1
  have HO := hd2 (hcs.ok g HC.out.2.2) (hct.ok g HC.out.2.2)
  have h3 := (hbl w.heap.size (by omega)).trans HQ.out.2.1
  have h5 := (hbl (w.heap.size + 1 + 1) (by omega)).trans HQ.out.2.2.2.1
  have h6 := (hbl (w.heap.size + 1 + 1 + 1) (by omega)).trans HQ.out.2.2.2.2.1
  have s0 : supT w.heap.size b (.slice A ws.length c) (.int .i64 (x : Int)) (.slice s.A0 s.ri.length s.c0) (.slice s.A1 s.bo.length s.c1) (.slice s.A2 s.lk.length s.c2) (.slice s.A3 s.lo.length s.c3) (.slice t.A0 t.ri.length t.c0) (.slice t.A1 t.bo.length t.c1) (.slice t.A2 t.lk.length t.c2) (.slice t.A3 t.lo.length t.c3) 0 w'.drew := cell_row h3
  have s1 : supT w.heap.size b (.slice A ws.length c) (.int .i64 (x : Int)) (.slice s.A0 s.ri.length s.c0) (.slice s.A1 s.bo.length s.c1) (.slice s.A2 s.lk.length s.c2) (.slice s.A3 s.lo.length s.c3) (.slice t.A0 t.ri.length t.c0) (.slice t.A1 t.bo.length t.c1) (.slice t.A2 t.lk.length t.c2) (.slice t.A3 t.lo.length t.c3) 1 w'.drew := cell_row h5
  have s2 : supT w.heap.size b (.slice A ws.length c) (.int .i64 (x : Int)) (.slice s.A0 s.ri.length s.c0) (.slice s.A1 s.bo.length s.c1) (.slice s.A2 s.lk.length s.c2) (.slice s.A3 s.lo.length s.c3) (.slice t.A0 t.ri.length t.c0) (.slice t.A1 t.bo.length t.c1) (.slice t.A2 t.lk.length t.c2) (.slice t.A3 t.lo.length t.c3) 2 w'.drew := ⟨cr 2 hB, cr 3 hB, cr 4 hB, cr 5 hB⟩
  have s3 : supT w.heap.size b (.slice A ws.length c) (.int .i64 (x : Int)) (.slice s.A0 s.ri.length s.c0) (.slice s.A1 s.bo.length s.c1) (.slice s.A2 s.lk.length s.c2) (.slice s.A3 s.lo.length s.c3) (.slice t.A0 t.ri.length t.c0) (.slice t.A1 t.bo.length t.c1) (.slice t.A2 t.lk.length t.c2) (.slice t.A3 t.lo.length t.c3) 3 w'.drew := ⟨cr 6 hB, cr 7 hB, cr 8 hB, cr 9 hB⟩
  have HG := hd7 s0 s1 s2 s3 h6 hw0 hlb
  clear s0 s1 s2 s3 h3 h5 h6 hB hb4 hbw hbl hs ht hcs hct hsz hw0 hlb hn1 hn2 hn3 hn4 hw1 hw2
  have hft := field_through
  have hit := fun (f : Nat → Int) => index_through f x hx60
  go_wp2
  refine wp_region_K (by kernel_rfl) (supT w.heap.size b (.slice A ws.length c) (.int .i64 (x : Int)) (.slice s.A0 s.ri.length s.c0) (.slice s.A1 s.bo.length s.c1) (.slice s.A2 s.lk.length s.c2) (.slice s.A3 s.lo.length s.c3) (.slice t.A0 t.ri.length t.c0) (.slice t.A1 t.bo.length t.c1) (.slice t.A2 t.lk.length t.c2) (.slice t.A3 t.lo.length t.c3)) (fun j k => match j with | 18 => false | _ => true) ?_
  have hX0 : Below w'.heap.size w' w'.drew := (Below.refl _ _).drew
  generalize w'.drew = X0 at *
  obtain ⟨s0, s1, s2, s3, h6, hw0, hlb⟩ := HG.out
  refine kT 0 0 rfl ?_
  refine kT 0 1 rfl ?_
  refine kT 2 2 rfl ?_
  refine kT 0 5 rfl ?_
  refine kT 1 6 rfl ?_
  refine kT 0 8 rfl ?_
  refine kT 0 9 rfl ?_
  refine kT 3 10 rfl ?_
  refine kT 0 13 rfl ?_
  refine kT 1 14 rfl ?_
  clear s1 s2 s3
  refine kR 3 rfl fun K hK => ?_
  go_simp
  refine (flow_any A c ws s X0 (HC.out.1.ext (HF.out.2.2.1.trans (hX0.mono HF.out.2.2.1.size))) g (HF.out.2.2.2.2.1.ext hX0) HO.out.1).mono ?_
  rintro e X1 ⟨rfl, hb⟩
  dsimp only
  refine hK.out _ _ (fun k _ h => supT_below hb k h) ?_
  have hX1 := hX0.trans (hb.mono hX0.size)
  have s0a := supT_below hb 0 s0
  clear hK hb
  refine kT 0 4 rfl ?_
  refine kT 0 7 rfl ?_
  clear s0
  refine kR 11 rfl fun K hK => ?_
  go_simp
  refine (flow_any A c ws t X1 (HC.out.1.ext (HF.out.2.2.1.trans (hX1.mono HF.out.2.2.1.size))) g (HF.out.2.2.2.2.2.1.ext hX1) HO.out.2).mono ?_
  rintro e X2 ⟨rfl, hb⟩
  dsimp only
  refine hK.out _ _ (fun k _ h => supT_below hb k h) ?_
  have hX2 := hX1.trans (hb.mono hX1.size)
  have s0 := supT_below hb 0 s0a
  clear hK hb
  refine kT 0 12 rfl ?_
  refine kT 0 15 rfl ?_
  refine kT 0 16 rfl ?_
  clear s0 s0a
  refine kR 17 rfl fun K hK => ?_
  go_simp
  refine hK.out _ _ (fun k _ h => h) ?_
  clear hK
  refine kR 18 rfl fun K hK => ?_
  have hB2 := (hX2.block b hlb).trans HF.out.1
  have hth := blk_there hB2
  refine wp_store_mid 67 (.tmp 34) (.tmp 33) rfl b 0 #[.int .i64 (flowF ws s x), .int .i64 (flowF ws t x)] rfl rfl (fun j hj => hth j (show j < 10 by have h2 : j < 2 := hj; omega)) (by kernel_rfl) (by simp [Value.oneCell']) ?_
  refine hK.out _ _ (fun k hk h => by cases hk) ?_
  clear hK
  refine kD ?_
  have HH : Hid (Blk (X2.setCells b 0 [.int .i64 (flowF ws s x), .int .i64 (flowF ws t x)]) b #[.int .i64 (flowF ws s x), .int .i64 (flowF ws t x), .slice s.A0 s.ri.length s.c0, .slice s.A1 s.bo.length s.c1, .slice s.A2 s.lk.length s.c2, .slice s.A3 s.lo.length s.c3, .slice t.A0 t.ri.length t.c0, .slice t.A1 t.bo.length t.c1, .slice t.A2 t.lk.length t.c2, .slice t.A3 t.lo.length t.c3] 74 ∧
    Blk (X2.setCells b 0 [.int .i64 (flowF ws s x), .int .i64 (flowF ws t x)]) (w.heap.size + 1 + 1 + 1) #[.int .i64 0, .int .i64 0, .slice none 0 0, .slice none 0 0, .slice none 0 0, .slice none 0 0, .slice none 0 0, .slice none 0 0, .slice none 0 0, .slice none 0 0] 74 ∧
    Below w.heap.size w (X2.setCells b 0 [.int .i64 (flowF ws s x), .int .i64 (flowF ws t x)]) ∧ Wet (X2.setCells b 0 [.int .i64 (flowF ws s x), .int .i64 (flowF ws t x)]) s ∧ Wet (X2.setCells b 0 [.int .i64 (flowF ws s x), .int .i64 (flowF ws t x)]) t) := by
   obtain ⟨hB, hb4, hbw, hbl, hs, ht, hcs, hct, hn1, hn2, hn3, hn4, hw1, hw2⟩ := HF.out
   have hh := hX2.size
   exact Lib.hid ⟨heap_setCell_same _ _ 1 _ _ _ (heap_setCell_same _ _ 0 _ _ _ hB2), (setCells_oth (by omega) _ _ _).trans ((hX2.block _ (by omega)).trans h6), setCells_below (by omega) _ _ _ (hbw.trans (hX2.mono hbw.size)), (hs.ext hX2).moved hn1 (fun k hk => setCells_oth hk _ _ _) (by rw [setCells_size]; exact Nat.le_refl _), (ht.ext hX2).moved hn2 (fun k hk => setCells_oth hk _ _ _) (by rw [setCells_size]; exact Nat.le_refl _)⟩
  dsimp only [Act.put]
  generalize (X2.setCells b 0 [.int .i64 (flowF ws s x), .int .i64 (flowF ws t x)]) = X3 at *
  clear hB2 hth hft hit
  go_wp2_with first
   | (refine wpList_load_mid rfl 74 (.tmp 7) rfl b 0 rfl _ _ (blk_range HH.out.1) Tryz.underlying74 rfl (by kernel_rfl) ?_)
   | (refine wpList_store_mid rfl 74 (.tmp 6) (.tmp 35) rfl (w.heap.size + 1 + 1 + 1) 0 _ rfl rfl (show World.there _ _ 0 10 from blk_there HH.out.2.1) (by kernel_rfl) (by simp [Value.oneCell']) ?_)
  obtain ⟨hB3, h63, hbX, hsX, htX⟩ := HH.out
  obtain ⟨hB, hb4, hbw, hbl, hs, ht, hcs, hct, hn1, hn2, hn3, hn4, hw1, hw2⟩ := HF.out
  have hBF := setCells_blk h63 [.int .i64 (flowF ws s x), .int .i64 (flowF ws t x), .slice s.A0 s.ri.length s.c0, .slice s.A1 s.bo.length s.c1, .slice s.A2 s.lk.length s.c2, .slice s.A3 s.lo.length s.c3, .slice t.A0 t.ri.length t.c0, .slice t.A1 t.bo.length t.c1, .slice t.A2 t.lk.length t.c2, .slice t.A3 t.lo.length t.c3] rfl
  have hE : (flowF ws s x, flowF ws t x) = endsF ws ⟨A0, A1, c0, c1, ri, bo⟩ x := by unfold endsF; rw [hcs.flow, hct.flow]
  exact bodyPost_ret (results_cell1 Tryz.results51 _ _ ⟨w.heap.size + 1 + 1 + 1, 0, none⟩ _ (by rfl) (run_loadVar_mid _ _ 0 _ _ _ (blk_range hBF) Tryz.underlying74 rfl (by kernel_rfl))) rfl
   ⟨s, t, by rw [← hE]; rfl, hsX.moved hn3 (fun k hk => setCells_oth hk _ _ _) (by rw [setCells_size]; exact Nat.le_refl _), htX.moved hn4 (fun k hk => setCells_oth hk _ _ _) (by rw [setCells_size]; exact Nat.le_refl _), hcs, hct, hw1, hw2, setCells_below (by omega) _ _ _ hbX⟩
end Go.Proofs.YtegmniphgahblaaGreat
namespace Go.Proofs.YtegmniphgahblaaGreat
open Go.RowKit Go.Shelf

theorem case_facts (ws : List Car) (cs : Cs) : (cs.ri.length ≠ (headsTo ws ws.length).length → caseE ws cs = 1) ∧ (cs.bo.length ≠ (outs ws).length → caseE ws cs = 1) ∧
  (∀ t, t < cs.ri.length → spOk (sAt cs.ri t) 1048576 = false → caseE ws cs = 1) ∧ (∀ t, t < cs.bo.length → spOk (sAt cs.bo t) ((oAt (outs ws) t).ps.length - 1) = false → caseE ws cs = 1) ∧
  (cs.ri.length = (headsTo ws ws.length).length → cs.bo.length = (outs ws).length → (∀ t, t < cs.ri.length → spOk (sAt cs.ri t) 1048576 = true) → (∀ t, t < cs.bo.length → spOk (sAt cs.bo t) ((oAt (outs ws) t).ps.length - 1) = true) → caseE ws cs = 0) := by
 have key : ∀ b, b = false → caseB ws cs = b → caseE ws cs = 1 := fun b hb e => by unfold caseE; rw [e, hb]; rfl
 have allF : ∀ (n t : Nat) (f : Nat → Bool), t < n → f t = false → (List.range n).all f = false := fun n t f ht hf => by
  rw [List.all_eq_false]
  exact ⟨t, List.mem_range.2 ht, by rw [hf]; decide⟩
 refine ⟨fun h => key _ rfl ?_, fun h => key _ rfl ?_, fun t ht h => key _ rfl ?_, fun t ht h => key _ rfl ?_, fun h1 h2 h3 h4 => ?_⟩
 ·unfold caseB; rw [decide_eq_false h]; rfl
 ·unfold caseB; rw [decide_eq_false h]; simp
 ·unfold caseB riB; rw [allF _ t _ ht h]; simp
 ·unfold caseB boB; rw [allF _ t _ ht h]; simp
 ·unfold caseE caseB riB boB
  rw [decide_eq_true h1, decide_eq_true h2, if_pos]
  simp only [Bool.and_eq_true, List.all_eq_true, List.mem_range]
  exact ⟨⟨⟨trivial, trivial⟩, h3⟩, h4⟩

/-- The cells of the boxes of works and case. -/
def keS (g : Nat) (v0 v1 v2 : Value) (k : Nat) (X : World) : Prop := match k with
 | 0 => X.cell? ⟨g, 0, none⟩ = some v0
 | 1 => X.cell? ⟨g + 1, 0, none⟩ = some v1
 | _ => X.cell? ⟨g + 1, 1, none⟩ = some v2
theorem keS_below {g : Nat} {v0 v1 v2 : Value} {X X' : World} (hb : Below X.heap.size X X') (k : Nat) (h : keS g v0 v1 v2 k X) : keS g v0 v1 v2 k X' := by
 match k with
 | 0 => exact cell_below hb h
 | 1 => exact cell_below hb h
 | k + 2 => exact cell_below hb h

set_option maxRecDepth 100000 in
set_option maxHeartbeats 1000000 in
theorem checkCase_any (A : Option Addr) (c : Nat) (ws : List Car) (cs : Cs) (w : World) (hW : Wk w A ws) (g : Good ws) (hc : Csd w cs) :
  Calls Tryz.prog 31 #[.agg #[.slice A ws.length c], cs.v] w fun e w' => e = .returned (.int .i64 (caseE ws cs)) ∧ Below w.heap.size w w' := by
 have HV := Lib.hid (case_facts ws cs)
 generalize caseE ws cs = E at *
 obtain ⟨A0, A1, c0, c1, ri, bo⟩ := cs
 have hb1 : Below w.heap.size w ((w.alloc (.cells #[.slice A ws.length c] 24)).alloc (.cells #[.slice A0 ri.length c0, .slice A1 bo.length c1] 27)) := ((Below.refl _ w).alloc (Nat.le_refl _) _).alloc (by simp) _
 have q0 : Blk ((w.alloc (.cells #[.slice A ws.length c] 24)).alloc (.cells #[.slice A0 ri.length c0, .slice A1 bo.length c1] 27)) w.heap.size #[.slice A ws.length c] 24 := blk_alloc (blk_new _ _ _ rfl) _
 have q1 : Blk ((w.alloc (.cells #[.slice A ws.length c] 24)).alloc (.cells #[.slice A0 ri.length c0, .slice A1 bo.length c1] 27)) (w.heap.size + 1) #[.slice A0 ri.length c0, .slice A1 bo.length c1] 27 := blk_new _ _ _ (by simp)
 have hsz : ((w.alloc (.cells #[.slice A ws.length c] 24)).alloc (.cells #[.slice A0 ri.length c0, .slice A1 bo.length c1] 27)).heap.size = w.heap.size + 2 := by simp
 have HQ := hd4 hb1 q0 q1 hsz
 clear hb1 q0 q1 hsz
 have HC := hd2 hW hc
 have hnr : ri.length ≤ 1000 := hc.m0
 have hnb : bo.length ≤ 1000 := hc.m1
 have hhl := headsTo_le ws ws.length
 have hn1 := g.n1
 have hn2 := g.n2
 clear hW hc
 dsimp only [Cs.v]
 go_enter Tryz.func31, Tryz.ntmps31
 go_upto_region 1 with fail
 generalize ((w.alloc (.cells #[.slice A ws.length c] 24)).alloc (.cells #[.slice A0 ri.length c0, .slice A1 bo.length c1] 27)) = W1 at *
 have d0 : W1.cell? ⟨w.heap.size, 0, none⟩ = some (.slice A ws.length c) := cell_row HQ.out.2.1
 have HL := Lib.hid (listed_any A c ws W1 (HC.out.1.ext HQ.out.1))
 go_upto_region 2 with (go_at_call 32; refine HL.out.mono ?_; rintro e w2 ⟨A4, c4, rfl, hr4, hf4, hb4⟩; have HM := hd3 hr4 hf4 hb4; clear hr4 hf4 hb4)
 clear d0 HL
 have hX0 : Below W1.heap.size W1 w2.drew := HM.out.2.2.drew
 have s0 : keS w.heap.size (.slice A ws.length c) (.slice A0 ri.length c0) (.slice A1 bo.length c1) 0 w2.drew := cell_row ((hX0.block _ (by have := HQ.out.2.2.2; omega)).trans HQ.out.2.1)
 have s1 : keS w.heap.size (.slice A ws.length c) (.slice A0 ri.length c0) (.slice A1 bo.length c1) 1 w2.drew := cr 0 ((hX0.block _ (by have := HQ.out.2.2.2; omega)).trans HQ.out.2.2.1)
 have s2 : keS w.heap.size (.slice A ws.length c) (.slice A0 ri.length c0) (.slice A1 bo.length c1) 2 w2.drew := cr 1 ((hX0.block _ (by have := HQ.out.2.2.2; omega)).trans HQ.out.2.2.1)
 have hr4 : RdO w2.drew w2.drew.heap.size A4 (outs ws) := HM.out.1.ext ((Below.refl _ _).drew)
 have HX := hd2 hX0 hr4
 clear hX0 hr4
 by_cases hq0 : ri.length = (headsTo ws ws.length).length
 rotate_left
 ·have hq0z : ((ri.length : Int) != ((headsTo ws ws.length).length : Int)) = true := by simp; omega
  obtain rfl := HV.out.1 hq0
  clear hq0
  refine wp_region_K (by kernel_rfl) (keS w.heap.size (.slice A ws.length c) (.slice A0 ri.length c0) (.slice A1 bo.length c1)) (fun _ _ => true) ?_
  generalize w2.drew = X0 at *
  refine kT 0 0 rfl ?_
  refine kT 1 1 rfl ?_
  refine kT 0 2 rfl ?_
  refine kT 0 3 rfl ?_
  clear s1
  refine kR 4 rfl fun K hK => ?_
  go_simp
  refine (heads_any A c ws X0 (HC.out.1.ext (HQ.out.1.trans (HX.out.1.mono HQ.out.1.size))) g).mono ?_
  rintro e X1 ⟨A9, c9, rfl, -, -, hb⟩
  dsimp only
  rw [ints_length]
  refine hK.out _ _ (fun k _ h => keS_below hb k h) ?_
  have HY := Lib.hid (HX.out.1.trans (hb.mono HX.out.1.size))
  have s0a := keS_below hb 0 s0
  have s2a := keS_below hb 2 s2
  have hr5 : Hid (RdO X1 X1.heap.size A4 (outs ws)) := Lib.hid (HX.out.2.ext hb)
  clear hK hb
  refine kT 0 5 rfl ?_
  refine kT 0 6 rfl ?_
  refine kT 0 7 rfl ?_
  refine kS 0 8 rfl ?_
  refine kS 0 9 rfl ?_
  refine kS 0 10 rfl ?_
  refine kS 0 11 rfl ?_
  refine kS 0 12 rfl ?_
  refine kS 0 13 rfl ?_
  refine kT 0 14 rfl ?_
  clear s0 s2 s0a s2a
  refine kD ?_
  go_wp2
  go_ret
  exact ⟨rfl, HQ.out.1.trans (HY.out.mono HQ.out.1.size)⟩
 have hq0z : ((ri.length : Int) != ((headsTo ws ws.length).length : Int)) = false := by simp; omega
 by_cases hq1 : bo.length = (outs ws).length
 rotate_left
 ·have hq1z : ((bo.length : Int) != ((outs ws).length : Int)) = true := by simp; omega
  obtain rfl := HV.out.2.1 hq1
  clear hq1
  refine wp_region_K (by kernel_rfl) (keS w.heap.size (.slice A ws.length c) (.slice A0 ri.length c0) (.slice A1 bo.length c1)) (fun _ _ => true) ?_
  generalize w2.drew = X0 at *
  refine kT 0 0 rfl ?_
  refine kT 1 1 rfl ?_
  refine kT 0 2 rfl ?_
  refine kT 0 3 rfl ?_
  clear s1
  refine kR 4 rfl fun K hK => ?_
  go_simp
  refine (heads_any A c ws X0 (HC.out.1.ext (HQ.out.1.trans (HX.out.1.mono HQ.out.1.size))) g).mono ?_
  rintro e X1 ⟨A9, c9, rfl, -, -, hb⟩
  dsimp only
  rw [ints_length]
  refine hK.out _ _ (fun k _ h => keS_below hb k h) ?_
  have HY := Lib.hid (HX.out.1.trans (hb.mono HX.out.1.size))
  have s0a := keS_below hb 0 s0
  have s2a := keS_below hb 2 s2
  have hr5 : Hid (RdO X1 X1.heap.size A4 (outs ws)) := Lib.hid (HX.out.2.ext hb)
  clear hK hb
  refine kT 0 5 rfl ?_
  refine kT 0 6 rfl ?_
  refine kT 0 7 rfl ?_
  refine kT 0 8 rfl ?_
  refine kT 2 9 rfl ?_
  refine kT 0 10 rfl ?_
  refine kT 0 11 rfl ?_
  refine kT 0 12 rfl ?_
  refine kT 0 13 rfl ?_
  refine kT 0 14 rfl ?_
  clear s0 s2 s0a s2a
  refine kD ?_
  go_wp2
  go_ret
  exact ⟨rfl, HQ.out.1.trans (HY.out.mono HQ.out.1.size)⟩
 have hq1z : ((bo.length : Int) != ((outs ws).length : Int)) = false := by simp; omega
 refine wp_region_K (by kernel_rfl) (keS w.heap.size (.slice A ws.length c) (.slice A0 ri.length c0) (.slice A1 bo.length c1)) (fun _ _ => true) ?_
 generalize w2.drew = X0 at *
 refine kT 0 0 rfl ?_
 refine kT 1 1 rfl ?_
 refine kT 0 2 rfl ?_
 refine kT 0 3 rfl ?_
 clear s1
 refine kR 4 rfl fun K hK => ?_
 go_simp
 refine (heads_any A c ws X0 (HC.out.1.ext (HQ.out.1.trans (HX.out.1.mono HQ.out.1.size))) g).mono ?_
 rintro e X1 ⟨A9, c9, rfl, -, -, hb⟩
 dsimp only
 rw [ints_length]
 refine hK.out _ _ (fun k _ h => keS_below hb k h) ?_
 have HY := Lib.hid (HX.out.1.trans (hb.mono HX.out.1.size))
 have s0a := keS_below hb 0 s0
 have s2a := keS_below hb 2 s2
 have hr5 : Hid (RdO X1 X1.heap.size A4 (outs ws)) := Lib.hid (HX.out.2.ext hb)
 clear hK hb
 refine kT 0 5 rfl ?_
 refine kT 0 6 rfl ?_
 refine kT 0 7 rfl ?_
 refine kT 0 8 rfl ?_
 refine kT 2 9 rfl ?_
 refine kT 0 10 rfl ?_
 refine kT 0 11 rfl ?_
 refine kT 0 12 rfl ?_
 refine kT 0 13 rfl ?_
 refine kT 0 14 rfl ?_
 clear s0 s2 s0a s2a
 refine kD ?_
 have hsz := HQ.out.2.2.2
 have q1 := (HY.out.block _ (by omega)).trans HQ.out.2.2.1
 have d0 : X1.cell? ⟨w.heap.size + 1, 0, none⟩ = some (.slice A0 ri.length c0) := cell_row q1
 have d1 : X1.cell? ⟨w.heap.size + 1, 1, none⟩ = some (.slice A1 bo.length c1) := cell_row q1
 have HZ := Lib.hid (HQ.out.1.trans (HY.out.mono HQ.out.1.size))
 clear q1
 go_wp2
 go_loopg [7, 30] ri.length (fun gg _ i wr => ∃ t : Nat, t ≤ ri.length ∧ ri.length - t ≤ gg ∧ i = .int .i64 t ∧ Aside (Below X1.heap.size X1 wr ∧ ∀ j, j < t → spOk (sAt ri j) 1048576 = true))
 case atStart => exact ⟨0, Nat.zero_le _, by omega, rfl, Below.refl _ _, fun j hj => absurd hj (Nat.not_lt_zero _)⟩
 case round =>
  obtain ⟨t, ht, hgg, rfl, hA⟩ := hrel
  have HA := Lib.hid hA.out
  clear hA
  by_cases hlt : t < ri.length
  ·have hltz : (t : Int) < (ri.length : Int) := by omega
   obtain ⟨bs, os, e0, lbs, hcs⟩ := HC.out.2.r0 (by dsimp only; omega)
   dsimp only at e0
   subst e0
   have hsp := hcs t hlt
   dsimp only at hsp
   have hbw := HZ.out.trans (HA.out.1.mono HZ.out.size)
   have HT : Hid (∀ q, spOk (sAt ri t) 1048576 = q → q = spanB (sAt ri t).1 (sAt ri t).2 1048576) := Lib.hid fun q h => h.symm
   obtain ⟨q, hq⟩ : ∃ q, spOk (sAt ri t) 1048576 = q := ⟨_, rfl⟩
   have hs2 := HT.out q hq
   obtain ⟨lo, hi, hlh⟩ : ∃ lo hi : Int, sAt ri t = (lo, hi) := ⟨_, _, rfl⟩
   rw [hlh] at hsp hs2
   dsimp only at hs2
   have k0 : wr.cell? ⟨bs, os + t * 2, none⟩ = some (.int .i64 lo) := (hbw.cell (p := ⟨bs, os + t * 2, none⟩) lbs).trans hsp.c0
   have k1 : wr.cell? ⟨bs, os + t * 2 + 1, none⟩ = some (.int .i64 hi) := (hbw.cell (p := ⟨bs, os + t * 2 + 1, none⟩) lbs).trans hsp.c1
   have HK := hd3 hq hbw hs2
   clear hbw hcs hsp hq hs2 HT hlh
   cases q
   ·obtain rfl := HV.out.2.2.1 t hlt HK.out.1
    go_wp2_with (go_at_call 66; refine (span_any lo hi 1048576 _).mono ?_; rintro e w5 ⟨rfl, hb5⟩; rw [← HK.out.2.2]; have HB5 := Lib.hid hb5; clear hb5)
    go_ret
    exact ⟨rfl, HK.out.2.1.trans (((Below.refl _ wr).alloc (Nat.le_refl _) _).trans (HB5.out.mono (by simp)) |>.mono HK.out.2.1.size)⟩
   ·go_wp2_with (go_at_call 66; refine (span_any lo hi 1048576 _).mono ?_; rintro e w5 ⟨rfl, hb5⟩; rw [← HK.out.2.2]; have HB5 := Lib.hid (((Below.refl _ wr).alloc (Nat.le_refl _) _).trans (hb5.mono (by simp))); clear hb5)
    go_roundg (ri.length - (t + 1))
    case measure => omega
    case rel => exact ⟨t + 1, by omega, by omega, by go_num, (show _ ∧ _ from ⟨HA.out.1.trans (HB5.out.mono HA.out.1.size), fun j hj => by
     by_cases e : j = t
     ·subst e; exact HK.out.1
     ·exact HA.out.2 j (by omega)⟩)⟩
  ·have hltz : ¬ (t : Int) < (ri.length : Int) := by omega
   obtain rfl : t = ri.length := by omega
   have d1 : wr.cell? ⟨w.heap.size + 1, 1, none⟩ = some (.slice A1 bo.length c1) := (HA.out.1.cell (p := ⟨w.heap.size + 1, 1, none⟩) (by have := lt_of_cell' d1; exact this)).trans d1
   have HZ2 := hd3 (HZ.out.trans (HA.out.1.mono HZ.out.size)) (hr5.out.ext HA.out.1) HA.out.2
   clear HA d0
   generalize wr = wz at *
   go_wp2
   go_loopg [8, 9, 41] bo.length (fun gg _ _ i wr => ∃ t : Nat, t ≤ bo.length ∧ bo.length - t ≤ gg ∧ i = .int .i64 t ∧ Aside (Below wz.heap.size wz wr ∧ ∀ j, j < t → spOk (sAt bo j) ((oAt (outs ws) j).ps.length - 1) = true))
   case atStart => exact ⟨0, Nat.zero_le _, by omega, rfl, Below.refl _ _, fun j hj => absurd hj (Nat.not_lt_zero _)⟩
   case round =>
    obtain ⟨t, ht, hgg, rfl, hA⟩ := hrel
    have HA := Lib.hid hA.out
    clear hA
    by_cases hlt : t < bo.length
    ·have hltz : (t : Int) < (bo.length : Int) := by omega
     have hltN : t < (outs ws).length := by omega
     have hltNz : (t : Int) < ((outs ws).length : Int) := by omega
     obtain ⟨bs, os, e0, lbs, hcs⟩ := HC.out.2.r1 (by dsimp only; omega)
     dsimp only at e0
     subst e0
     have hsp := hcs t hlt
     dsimp only at hsp
     have hbw := HZ2.out.1.trans (HA.out.1.mono HZ2.out.1.size)
     obtain ⟨b4, o4, e4, lb4, ho4⟩ := (HZ2.out.2.1.ext HA.out.1) (by omega)
     subst e4
     have h4 := (ho4 t hltN).c2
     have hps := (g.fine hltN).n
     obtain ⟨q, hq⟩ : ∃ q, spOk (sAt bo t) ((oAt (outs ws) t).ps.length - 1) = q := ⟨_, rfl⟩
     have hq0 := HV.out.2.2.2.1 t hlt
     have hq2 := fun (h : spOk (sAt bo t) ((oAt (outs ws) t).ps.length - 1) = true) => (fun j (hj : j < t + 1) => (show spOk (sAt bo j) ((oAt (outs ws) j).ps.length - 1) = true from by
      by_cases e : j = t
      ·subst e; exact h
      ·exact HA.out.2 j (by omega)))
     rw [hq] at hq0 hq2
     have hs2 : q = spanB (sAt bo t).1 (sAt bo t).2 ((oAt (outs ws) t).ps.length - 1) := hq.symm
     clear hq
     generalize (oAt (outs ws) t).ps.length = pn at *
     generalize (oAt (outs ws) t).P = PP at *
     generalize (oAt (outs ws) t).c = pc at *
     obtain ⟨lo, hi, hlh⟩ : ∃ lo hi : Int, sAt bo t = (lo, hi) := ⟨_, _, rfl⟩
     rw [hlh] at hsp hs2
     dsimp only at hs2
     have k0 : wr.cell? ⟨bs, os + t * 2, none⟩ = some (.int .i64 lo) := (hbw.cell (p := ⟨bs, os + t * 2, none⟩) lbs).trans hsp.c0
     have k1 : wr.cell? ⟨bs, os + t * 2 + 1, none⟩ = some (.int .i64 hi) := (hbw.cell (p := ⟨bs, os + t * 2 + 1, none⟩) lbs).trans hsp.c1
     have hwr : IntKind.i64.wrap ((pn : Int) - 1) = (pn : Int) - 1 := IntWalk.i64_in _ (by omega)
     have HK := hd3 (And.intro hq0 hq2) hbw hs2
     have s1 : wd b4 (o4 + t * 7 + 2) b4 (o4 + t * 7 + 2) b4 (o4 + t * 7 + 2) wr.heap.size 0 1 (.slice PP pn pc) (.slice PP pn pc) (.slice PP pn pc) (.int .i64 lo) (.int .i64 hi) 1 (wr.alloc (.cells #[.int .i64 lo, .int .i64 hi] 67)).drew := cell_alloc h4 _
     have s3 : wd b4 (o4 + t * 7 + 2) b4 (o4 + t * 7 + 2) b4 (o4 + t * 7 + 2) wr.heap.size 0 1 (.slice PP pn pc) (.slice PP pn pc) (.slice PP pn pc) (.int .i64 lo) (.int .i64 hi) 3 (wr.alloc (.cells #[.int .i64 lo, .int .i64 hi] 67)).drew := ⟨cr 0 (blk_new wr _ _ rfl), cr 1 (blk_new wr _ _ rfl)⟩
     have hbx : Below wr.heap.size wr (wr.alloc (.cells #[.int .i64 lo, .int .i64 hi] 67)).drew := ((Below.refl _ wr).alloc (Nat.le_refl _) _).drew
     have HS := hd3 s1 s3 hbx
     clear hbw hcs hsp hq0 hq2 hs2 hlh h4 ho4 hps s1 s3 hbx
     cases q
     ·obtain rfl := HK.out.1.1 rfl
      go_wp2
      refine wp_region_K (by kernel_rfl) (wd b4 (o4 + t * 7 + 2) b4 (o4 + t * 7 + 2) b4 (o4 + t * 7 + 2) wr.heap.size 0 1 (.slice PP pn pc) (.slice PP pn pc) (.slice PP pn pc) (.int .i64 lo) (.int .i64 hi)) (fun _ _ => true) ?_
      generalize (wr.alloc (.cells #[.int .i64 lo, .int .i64 hi] 67)).drew = X0 at *
      have s1 := HS.out.1
      have s3 := HS.out.2.1
      refine kT 3 0 rfl ?_
      refine kT 1 1 rfl ?_
      refine kT 1 2 rfl ?_
      refine kT 1 3 rfl ?_
      refine kT 1 4 rfl ?_
      refine kT 1 5 rfl ?_
      refine kT 1 6 rfl ?_
      refine kT 1 7 rfl ?_
      clear s3
      refine kR 8 rfl fun K hK => ?_
      go_simp
      refine (span_any lo hi ((pn : Int) - 1) _).mono ?_
      rintro e X5 ⟨rfl, hb5⟩
      dsimp only
      rw [← HK.out.2.2]
      refine hK.out _ _ (fun k _ h => wd_below hb5 k h) ?_
      have s1a := wd_below hb5 1 s1
      have HB5 := Lib.hid (HS.out.2.2.trans (hb5.mono HS.out.2.2.size))
      clear hK hb5 s1
      refine kT 1 9 rfl ?_
      clear s1a
      refine kD ?_
      go_wp2
      go_ret
      exact ⟨rfl, HK.out.2.1.trans (HB5.out.mono HK.out.2.1.size)⟩
     ·go_wp2
      refine wp_region_K (by kernel_rfl) (wd b4 (o4 + t * 7 + 2) b4 (o4 + t * 7 + 2) b4 (o4 + t * 7 + 2) wr.heap.size 0 1 (.slice PP pn pc) (.slice PP pn pc) (.slice PP pn pc) (.int .i64 lo) (.int .i64 hi)) (fun _ _ => true) ?_
      generalize (wr.alloc (.cells #[.int .i64 lo, .int .i64 hi] 67)).drew = X0 at *
      have s1 := HS.out.1
      have s3 := HS.out.2.1
      refine kT 3 0 rfl ?_
      refine kT 1 1 rfl ?_
      refine kT 1 2 rfl ?_
      refine kT 1 3 rfl ?_
      refine kT 1 4 rfl ?_
      refine kT 1 5 rfl ?_
      refine kT 1 6 rfl ?_
      refine kT 1 7 rfl ?_
      clear s3
      refine kR 8 rfl fun K hK => ?_
      go_simp
      refine (span_any lo hi ((pn : Int) - 1) _).mono ?_
      rintro e X5 ⟨rfl, hb5⟩
      dsimp only
      rw [← HK.out.2.2]
      refine hK.out _ _ (fun k _ h => wd_below hb5 k h) ?_
      have s1a := wd_below hb5 1 s1
      have HB5 := Lib.hid (HS.out.2.2.trans (hb5.mono HS.out.2.2.size))
      clear hK hb5 s1
      refine kT 1 9 rfl ?_
      clear s1a
      refine kD ?_
      go_wp2
      go_roundg (bo.length - (t + 1))
      case measure => omega
      case rel => exact ⟨t + 1, by omega, by omega, by go_num, (show _ ∧ _ from ⟨HA.out.1.trans (HB5.out.mono HA.out.1.size), HK.out.1.2 (by trivial)⟩)⟩
    ·have hltz : ¬ (t : Int) < (bo.length : Int) := by omega
     obtain rfl : t = bo.length := by omega
     obtain rfl := HV.out.2.2.2.2 hq0 hq1 HZ2.out.2.2 HA.out.2
     go_wp2
     go_ret
     exact ⟨rfl, HZ2.out.1.trans (HA.out.1.mono HZ2.out.1.size)⟩
end Go.Proofs.YtegmniphgahblaaGreat
namespace Go.Proofs.YtegmniphgahblaaGreat
open Go.RowKit Go.Shelf

def ccE (ws : List Car) (cs : Cs) : Int := if checkE ws = 0 then caseE ws cs else checkE ws
set_option maxRecDepth 100000 in
set_option maxHeartbeats 800000 in
theorem CheckCase_any (A : Option Addr) (c : Nat) (ws : List Car) (cs : Cs) (w : World) (h : Wk w A ws) (hc : Csd w cs) :
  Calls Tryz.prog 13 #[.agg #[.slice A ws.length c], cs.v] w fun e w' => e = .returned (.int .i64 (ccE ws cs)) ∧ Below w.heap.size w w' := by
 obtain ⟨A0, A1, c0, c1, ri, bo⟩ := cs
 have hb1 : Below w.heap.size w ((w.alloc (.cells #[.slice A ws.length c] 24)).alloc (.cells #[.slice A0 ri.length c0, .slice A1 bo.length c1] 27)) := ((Below.refl _ w).alloc (Nat.le_refl _) _).alloc (by simp) _
 have hch := Check_any A c ws _ (h.ext hb1)
 have hcw := fun W (hW : Below w.heap.size w W) (g : Good ws) => checkCase_any A c ws ⟨A0, A1, c0, c1, ri, bo⟩ W (h.ext hW) g (hc.ext hW)
 have q0 : Blk ((w.alloc (.cells #[.slice A ws.length c] 24)).alloc (.cells #[.slice A0 ri.length c0, .slice A1 bo.length c1] 27)) w.heap.size #[.slice A ws.length c] 24 := blk_alloc (blk_new _ _ _ rfl) _
 have q1 : Blk ((w.alloc (.cells #[.slice A ws.length c] 24)).alloc (.cells #[.slice A0 ri.length c0, .slice A1 bo.length c1] 27)) (w.heap.size + 1) #[.slice A0 ri.length c0, .slice A1 bo.length c1] 27 := blk_new _ _ _ (by simp)
 have hs1 : ((w.alloc (.cells #[.slice A ws.length c] 24)).alloc (.cells #[.slice A0 ri.length c0, .slice A1 bo.length c1] 27)).heap.size = w.heap.size + 2 := by simp
 have p0 := cr 0 q0
 have hd : ccE ws ⟨A0, A1, c0, c1, ri, bo⟩ = if checkE ws = 0 then caseE ws ⟨A0, A1, c0, c1, ri, bo⟩ else checkE ws := rfl
 have hg : checkE ws = 0 → Good ws := good_of_check
 have HH := hd6 hb1 hch hcw q0 q1 hg
 clear hb1 hch hcw q0 q1 hg h hc
 dsimp only [Cs.v] at *
 generalize ccE ws ⟨A0, A1, c0, c1, ri, bo⟩ = E at *
 generalize caseE ws ⟨A0, A1, c0, c1, ri, bo⟩ = F at *
 generalize checkE ws = D at *
 have HD := Lib.hid hd
 clear hd
 by_cases h0 : D = 0
 ·have hE : E = F := by rw [HD.out, if_pos h0]
  subst h0 hE
  go_enter Tryz.func13, Tryz.ntmps13
  go_upto_region 1 with fail
  generalize ((w.alloc (.cells #[.slice A ws.length c] 24)).alloc (.cells #[.slice A0 ri.length c0, .slice A1 bo.length c1] 27)) = W1 at *
  go_upto_region 4 with (go_at_call 30; refine HH.out.2.1.mono ?_; rintro e w1 ⟨rfl, hb⟩; have HB := Lib.hid hb; clear hb)
  have p0 := cr 0 ((HB.out.block w.heap.size (by omega)).trans HH.out.2.2.2.1)
  have hbk := (HB.out.block (w.heap.size + 1) (by omega)).trans HH.out.2.2.2.2.1
  have p1 : w1.cell? ⟨w.heap.size + 1, 0, none⟩ = _ := cell_row hbk
  have p2 : w1.cell? ⟨w.heap.size + 1, 1, none⟩ = _ := cell_row hbk
  have HW := Lib.hid (HH.out.1.trans (HB.out.mono HH.out.1.size))
  clear hbk
  go_wp2_with (go_at_call 31; go_loud (refine (HH.out.2.2.1 _ HW.out (HH.out.2.2.2.2.2 (by trivial))).mono ?_; rintro e w2 ⟨rfl, hb⟩; have HF := Lib.hid (HW.out.trans (hb.mono HW.out.size)); clear hb))
  go_ret
  exact ⟨rfl, HF.out⟩
 ·have hE : E = D := by rw [HD.out, if_neg h0]
  have hz : (D != 0) = true := by simpa using h0
  subst hE
  go_enter Tryz.func13, Tryz.ntmps13
  go_upto_region 1 with fail
  generalize ((w.alloc (.cells #[.slice A ws.length c] 24)).alloc (.cells #[.slice A0 ri.length c0, .slice A1 bo.length c1] 27)) = W1 at *
  go_wp2_with (go_at_call 30; refine HH.out.2.1.mono ?_; rintro e w1 ⟨rfl, hb⟩; have HF := Lib.hid (HH.out.1.trans (hb.mono HH.out.1.size)); clear hb)
  go_ret
  exact ⟨rfl, HF.out⟩

/-- The error of works, a case and an ID; the place. -/
def askE (ws : List Car) (cs : Cs) (id : Int) : Int := if ccE ws cs = 0 then (if (idxO ws id).isSome = true then 0 else 5) else ccE ws cs
def askP (ws : List Car) (cs : Cs) (id : Int) : Pl := if ccE ws cs = 0 then plO ws (idxO ws id) else (0, 0, 0)
theorem cc_good {ws : List Car} {cs : Cs} (h : ccE ws cs = 0) : Good ws ∧ CsOk ws cs := by
 unfold ccE at h
 by_cases h0 : checkE ws = 0
 ·rw [if_pos h0] at h; exact ⟨good_of_check h0, caseE_zero.1 h⟩
 ·rw [if_neg h0] at h; exact absurd h h0

set_option maxRecDepth 100000 in
set_option maxHeartbeats 800000 in
theorem asked_any (A : Option Addr) (c : Nat) (ws : List Car) (cs : Cs) (id : Int) (w : World) (h : Wk w A ws) (hc : Csd w cs) :
  Calls Tryz.prog 50 #[.agg #[.slice A ws.length c], cs.v, .int .i64 id] w fun e w' => e = .returned (.tuple #[plV (askP ws cs id), .int .i64 (askE ws cs id)]) ∧ Below w.heap.size w w' := by
 obtain ⟨A0, A1, c0, c1, ri, bo⟩ := cs
 have hb1 : Below w.heap.size w (((w.alloc (.cells #[.slice A ws.length c] 24)).alloc (.cells #[.slice A0 ri.length c0, .slice A1 bo.length c1] 27)).alloc (.cells #[.int .i64 0, .int .i64 0, .int .i64 0] 103)) := (((Below.refl _ w).alloc (Nat.le_refl _) _).alloc (by simp) _).alloc (by simp; omega) _
 have hch := CheckCase_any A c ws ⟨A0, A1, c0, c1, ri, bo⟩ _ (h.ext hb1) (hc.ext hb1)
 have hcw := fun W (hW : Below w.heap.size w W) => find_any A c ws id W (h.ext hW)
 have q0 : Blk (((w.alloc (.cells #[.slice A ws.length c] 24)).alloc (.cells #[.slice A0 ri.length c0, .slice A1 bo.length c1] 27)).alloc (.cells #[.int .i64 0, .int .i64 0, .int .i64 0] 103)) w.heap.size #[.slice A ws.length c] 24 := blk_alloc (blk_alloc (blk_new _ _ _ rfl) _) _
 have q1 : Blk (((w.alloc (.cells #[.slice A ws.length c] 24)).alloc (.cells #[.slice A0 ri.length c0, .slice A1 bo.length c1] 27)).alloc (.cells #[.int .i64 0, .int .i64 0, .int .i64 0] 103)) (w.heap.size + 1) #[.slice A0 ri.length c0, .slice A1 bo.length c1] 27 := blk_alloc (blk_new _ _ _ (by simp)) _
 have q2 : Blk (((w.alloc (.cells #[.slice A ws.length c] 24)).alloc (.cells #[.slice A0 ri.length c0, .slice A1 bo.length c1] 27)).alloc (.cells #[.int .i64 0, .int .i64 0, .int .i64 0] 103)) (w.heap.size + 1 + 1) #[.int .i64 0, .int .i64 0, .int .i64 0] 103 := blk_new _ _ _ (by simp)
 have hs1 : (((w.alloc (.cells #[.slice A ws.length c] 24)).alloc (.cells #[.slice A0 ri.length c0, .slice A1 bo.length c1] 27)).alloc (.cells #[.int .i64 0, .int .i64 0, .int .i64 0] 103)).heap.size = w.heap.size + 3 := by simp
 have p0 := cr 0 q0
 have p1 := cr 0 q1
 have p2 := cr 1 q1
 have hd1 : askE ws ⟨A0, A1, c0, c1, ri, bo⟩ id = if ccE ws ⟨A0, A1, c0, c1, ri, bo⟩ = 0 then (if (idxO ws id).isSome = true then 0 else 5) else ccE ws ⟨A0, A1, c0, c1, ri, bo⟩ := rfl
 have hd2 : askP ws ⟨A0, A1, c0, c1, ri, bo⟩ id = if ccE ws ⟨A0, A1, c0, c1, ri, bo⟩ = 0 then plO ws (idxO ws id) else (0, 0, 0) := rfl
 have HH := hd6 hb1 hch hcw q0 q2 hs1
 clear hb1 hch hcw q0 q1 q2 hs1 h hc
 dsimp only [Cs.v] at *
 rw [hd1, hd2]
 clear hd1 hd2
 generalize ccE ws ⟨A0, A1, c0, c1, ri, bo⟩ = D at *
 by_cases h0 : D = 0
 rotate_left
 ·have hz : (D != 0) = true := by simpa using h0
  rw [if_neg h0, if_neg h0]
  go_enter Tryz.func50, Tryz.ntmps50
  go_upto_region 1 with fail
  generalize (((w.alloc (.cells #[.slice A ws.length c] 24)).alloc (.cells #[.slice A0 ri.length c0, .slice A1 bo.length c1] 27)).alloc (.cells #[.int .i64 0, .int .i64 0, .int .i64 0] 103)) = W1 at *
  go_upto_region 3 with (go_at_call 13; refine HH.out.2.1.mono ?_; rintro e w1 ⟨rfl, hb⟩; have HF := Lib.hid hb; clear hb)
  have q2 := (HF.out.block (w.heap.size + 1 + 1) (by have := HH.out.2.2.2.2.2; omega)).trans HH.out.2.2.2.2.1
  have x0 := cr 0 q2
  have x1 := cr 1 q2
  have x2 := cr 2 q2
  have y0 := bf 0 q2
  have y1 := bf 1 q2
  have y2 := bf 2 q2
  go_wp2
  have hbw := HH.out.1.trans (HF.out.mono HH.out.1.size)
  have qF : Blk (((w1.setCell ⟨w.heap.size + 1 + 1, 0, none⟩ (.int .i64 0)).setCell ⟨w.heap.size + 1 + 1, 1, none⟩ (.int .i64 0)).setCell ⟨w.heap.size + 1 + 1, 2, none⟩ (.int .i64 0)) (w.heap.size + 1 + 1) #[(.int .i64 0), (.int .i64 0), (.int .i64 0)] 103 := heap_setCell_same _ _ 2 _ _ _ (heap_setCell_same _ _ 1 _ _ _ (heap_setCell_same _ _ 0 _ _ _ q2))
  have hbF : Below w.heap.size w (((w1.setCell ⟨w.heap.size + 1 + 1, 0, none⟩ (.int .i64 0)).setCell ⟨w.heap.size + 1 + 1, 1, none⟩ (.int .i64 0)).setCell ⟨w.heap.size + 1 + 1, 2, none⟩ (.int .i64 0)) := ((hbw.setCell (p := ⟨w.heap.size + 1 + 1, 0, none⟩) (by show w.heap.size ≤ w.heap.size + 1 + 1; omega) _).setCell (p := ⟨w.heap.size + 1 + 1, 1, none⟩) (by show w.heap.size ≤ w.heap.size + 1 + 1; omega) _).setCell (p := ⟨w.heap.size + 1 + 1, 2, none⟩) (by show w.heap.size ≤ w.heap.size + 1 + 1; omega) _
  generalize (((w1.setCell ⟨w.heap.size + 1 + 1, 0, none⟩ (.int .i64 0)).setCell ⟨w.heap.size + 1 + 1, 1, none⟩ (.int .i64 0)).setCell ⟨w.heap.size + 1 + 1, 2, none⟩ (.int .i64 0)) = WF at *
  have t0 := cr 0 qF
  have t1 := cr 1 qF
  have t2 := cr 2 qF
  exact bodyPost_ret (v := .tuple #[.agg #[(.int .i64 0), (.int .i64 0), (.int .i64 0)], .int .i64 D]) (by simp [results, Tryz.results50, go_sem, t0, t1, t2]) rfl ⟨rfl, hbF⟩
 ·subst h0
  rw [if_pos rfl, if_pos rfl]
  cases hx : idxO ws id with
  | none =>
   have HX := Lib.hid hx
   clear hx
   rw [if_neg (by simp)]
   go_enter Tryz.func50, Tryz.ntmps50
   go_upto_region 1 with fail
   generalize (((w.alloc (.cells #[.slice A ws.length c] 24)).alloc (.cells #[.slice A0 ri.length c0, .slice A1 bo.length c1] 27)).alloc (.cells #[.int .i64 0, .int .i64 0, .int .i64 0] 103)) = W1 at *
   go_upto_region 4 with (go_at_call 13; refine HH.out.2.1.mono ?_; rintro e w1 ⟨rfl, hb⟩; have HF := Lib.hid hb; clear hb)
   have hbw := HH.out.1.trans (HF.out.mono HH.out.1.size)
   have HB := Lib.hid hbw
   have p0 := cr 0 ((HF.out.block w.heap.size (by have := HH.out.2.2.2.2.2; omega)).trans HH.out.2.2.2.1)
   have hfd := HH.out.2.2.1 w1 hbw
   rw [HX.out] at hfd
   have HG := Lib.hid hfd
   clear hfd hbw
   go_upto_region 5 with (go_at_call 52; refine HG.out.mono ?_; rintro e w2 ⟨rfl, hb⟩; dsimp only [plO, plV, Option.isSome]; have HJ := Lib.hid hb; clear hb)
   have hbF := (HB.out.trans (HJ.out.mono HB.out.size)).trans (((Below.refl _ w2).alloc (Nat.le_refl _) (.cells #[.int .i64 0, .int .i64 0, .int .i64 0] 103)).mono (Nat.le_trans HB.out.size HJ.out.size))
   have q2 := (((Below.refl _ w2).alloc (Nat.le_refl _) (.cells #[.int .i64 0, .int .i64 0, .int .i64 0] 103)).block (w.heap.size + 1 + 1) (by have := HH.out.2.2.2.2.2; have := HF.out.size; have := HJ.out.size; omega)).trans ((HJ.out.block (w.heap.size + 1 + 1) (by have := HH.out.2.2.2.2.2; have := HF.out.size; omega)).trans ((HF.out.block (w.heap.size + 1 + 1) (by have := HH.out.2.2.2.2.2; omega)).trans HH.out.2.2.2.2.1))
   generalize w2.alloc (.cells #[.int .i64 0, .int .i64 0, .int .i64 0] 103) = w3 at *
   have x0 := cr 0 q2
   have x1 := cr 1 q2
   have x2 := cr 2 q2
   have y0 := bf 0 q2
   have y1 := bf 1 q2
   have y2 := bf 2 q2
   go_wp2
   have qF : Blk (((w3.setCell ⟨w.heap.size + 1 + 1, 0, none⟩ (.int .i64 0)).setCell ⟨w.heap.size + 1 + 1, 1, none⟩ (.int .i64 0)).setCell ⟨w.heap.size + 1 + 1, 2, none⟩ (.int .i64 0)) (w.heap.size + 1 + 1) #[(.int .i64 0), (.int .i64 0), (.int .i64 0)] 103 := heap_setCell_same _ _ 2 _ _ _ (heap_setCell_same _ _ 1 _ _ _ (heap_setCell_same _ _ 0 _ _ _ q2))
   have hbF : Below w.heap.size w (((w3.setCell ⟨w.heap.size + 1 + 1, 0, none⟩ (.int .i64 0)).setCell ⟨w.heap.size + 1 + 1, 1, none⟩ (.int .i64 0)).setCell ⟨w.heap.size + 1 + 1, 2, none⟩ (.int .i64 0)) := ((hbF.setCell (p := ⟨w.heap.size + 1 + 1, 0, none⟩) (by show w.heap.size ≤ w.heap.size + 1 + 1; omega) _).setCell (p := ⟨w.heap.size + 1 + 1, 1, none⟩) (by show w.heap.size ≤ w.heap.size + 1 + 1; omega) _).setCell (p := ⟨w.heap.size + 1 + 1, 2, none⟩) (by show w.heap.size ≤ w.heap.size + 1 + 1; omega) _
   generalize (((w3.setCell ⟨w.heap.size + 1 + 1, 0, none⟩ (.int .i64 0)).setCell ⟨w.heap.size + 1 + 1, 1, none⟩ (.int .i64 0)).setCell ⟨w.heap.size + 1 + 1, 2, none⟩ (.int .i64 0)) = WF at *
   have t0 := cr 0 qF
   have t1 := cr 1 qF
   have t2 := cr 2 qF
   exact bodyPost_ret (v := .tuple #[.agg #[(.int .i64 0), (.int .i64 0), (.int .i64 0)], .int .i64 5]) (by simp [results, Tryz.results50, go_sem, t0, t1, t2]) rfl ⟨rfl, hbF⟩
  | some x =>
   have HX := Lib.hid hx
   clear hx
   rw [if_pos (by simp)]
   go_enter Tryz.func50, Tryz.ntmps50
   go_upto_region 1 with fail
   generalize (((w.alloc (.cells #[.slice A ws.length c] 24)).alloc (.cells #[.slice A0 ri.length c0, .slice A1 bo.length c1] 27)).alloc (.cells #[.int .i64 0, .int .i64 0, .int .i64 0] 103)) = W1 at *
   go_upto_region 4 with (go_at_call 13; refine HH.out.2.1.mono ?_; rintro e w1 ⟨rfl, hb⟩; have HF := Lib.hid hb; clear hb)
   have hbw := HH.out.1.trans (HF.out.mono HH.out.1.size)
   have HB := Lib.hid hbw
   have p0 := cr 0 ((HF.out.block w.heap.size (by have := HH.out.2.2.2.2.2; omega)).trans HH.out.2.2.2.1)
   have hfd := HH.out.2.2.1 w1 hbw
   rw [HX.out] at hfd
   have HG := Lib.hid hfd
   clear hfd hbw
   go_upto_region 5 with (go_at_call 52; refine HG.out.mono ?_; rintro e w2 ⟨rfl, hb⟩; dsimp only [plO, plV, pl, Option.isSome]; have HJ := Lib.hid hb; clear hb)
   have hb9 := (Below.refl _ w2).alloc (Nat.le_refl _) (.cells #[.int .i64 (x : Int), .int .i64 (caAt ws x : Int), .int .i64 (atAt ws x : Int)] 103)
   have hbF := (HB.out.trans (HJ.out.mono HB.out.size)).trans (hb9.mono (Nat.le_trans HB.out.size HJ.out.size))
   have q2 := (hb9.block (w.heap.size + 1 + 1) (by have := HH.out.2.2.2.2.2; have := HF.out.size; have := HJ.out.size; omega)).trans ((HJ.out.block (w.heap.size + 1 + 1) (by have := HH.out.2.2.2.2.2; have := HF.out.size; omega)).trans ((HF.out.block (w.heap.size + 1 + 1) (by have := HH.out.2.2.2.2.2; omega)).trans HH.out.2.2.2.2.1))
   have q9 := blk_new w2 (g := w2.heap.size) #[.int .i64 (x : Int), .int .i64 (caAt ws x : Int), .int .i64 (atAt ws x : Int)] 103 rfl
   generalize w2.alloc (.cells #[.int .i64 (x : Int), .int .i64 (caAt ws x : Int), .int .i64 (atAt ws x : Int)] 103) = w3 at *
   have z0 := cr 0 q9
   have z1 := cr 1 q9
   have z2 := cr 2 q9
   have hne : ¬ w2.heap.size = w.heap.size + 1 + 1 := by have := HH.out.2.2.2.2.2; have := HF.out.size; have := HJ.out.size; omega
   have hne' : ¬ w.heap.size + 1 + 1 = w2.heap.size := by omega
   have x0 := cr 0 q2
   have x1 := cr 1 q2
   have x2 := cr 2 q2
   have y0 := bf 0 q2
   have y1 := bf 1 q2
   have y2 := bf 2 q2
   clear q9 hb9
   go_wp2
   have qF : Blk (((w3.setCell ⟨w.heap.size + 1 + 1, 0, none⟩ (.int .i64 (x : Int))).setCell ⟨w.heap.size + 1 + 1, 1, none⟩ (.int .i64 (caAt ws x : Int))).setCell ⟨w.heap.size + 1 + 1, 2, none⟩ (.int .i64 (atAt ws x : Int))) (w.heap.size + 1 + 1) #[(.int .i64 (x : Int)), (.int .i64 (caAt ws x : Int)), (.int .i64 (atAt ws x : Int))] 103 := heap_setCell_same _ _ 2 _ _ _ (heap_setCell_same _ _ 1 _ _ _ (heap_setCell_same _ _ 0 _ _ _ q2))
   have hbF : Below w.heap.size w (((w3.setCell ⟨w.heap.size + 1 + 1, 0, none⟩ (.int .i64 (x : Int))).setCell ⟨w.heap.size + 1 + 1, 1, none⟩ (.int .i64 (caAt ws x : Int))).setCell ⟨w.heap.size + 1 + 1, 2, none⟩ (.int .i64 (atAt ws x : Int))) := ((hbF.setCell (p := ⟨w.heap.size + 1 + 1, 0, none⟩) (by show w.heap.size ≤ w.heap.size + 1 + 1; omega) _).setCell (p := ⟨w.heap.size + 1 + 1, 1, none⟩) (by show w.heap.size ≤ w.heap.size + 1 + 1; omega) _).setCell (p := ⟨w.heap.size + 1 + 1, 2, none⟩) (by show w.heap.size ≤ w.heap.size + 1 + 1; omega) _
   generalize (((w3.setCell ⟨w.heap.size + 1 + 1, 0, none⟩ (.int .i64 (x : Int))).setCell ⟨w.heap.size + 1 + 1, 1, none⟩ (.int .i64 (caAt ws x : Int))).setCell ⟨w.heap.size + 1 + 1, 2, none⟩ (.int .i64 (atAt ws x : Int))) = WF at *
   have t0 := cr 0 qF
   have t1 := cr 1 qF
   have t2 := cr 2 qF
   exact bodyPost_ret (v := .tuple #[.agg #[(.int .i64 (x : Int)), (.int .i64 (caAt ws x : Int)), (.int .i64 (atAt ws x : Int))], .int .i64 0]) (by simp [results, Tryz.results50, go_sem, t0, t1, t2]) rfl ⟨rfl, hbF⟩
end Go.Proofs.YtegmniphgahblaaGreat
namespace Go.Proofs.YtegmniphgahblaaGreat
open Go.RowKit Go.Shelf

/-- No water. -/
def noW : Wt := ⟨none, none, none, none, 0, 0, 0, 0, [], [], [], []⟩
theorem ask_zero {ws : List Car} {cs : Cs} {id : Int} (h : askE ws cs id = 0) : Good ws ∧ CsOk ws cs ∧ ∃ x, idxO ws id = some x ∧ x < (outs ws).length ∧ askP ws cs id = pl ws x := by
 unfold askE at h
 by_cases h0 : ccE ws cs = 0
 ·rw [if_pos h0] at h
  obtain ⟨g, k⟩ := cc_good h0
  cases hx : idxO ws id with
  | none => rw [hx] at h; cases h
  | some x => exact ⟨g, k, x, rfl, (idxO_some hx).1, by unfold askP; rw [if_pos h0, hx]; rfl⟩
 ·rw [if_neg h0] at h; exact absurd h h0

/-- Results: a box of ten cells, and a number. -/
theorem results_box10 {fn : Func} {p q : Tmp} {ty : TypeId} (h : fn.results = #[.cell p ty, .tmp q]) (tmps : Array Value) (w : World) (ad : Addr) (v u : Value) (hp : tmps.getD p undef = .pointer (some ad)) (hu : tmps.getD q undef = u)
  (hl : (loadVar ty ad).run Tryz.prog w = .ok v w) : (results fn tmps).run Tryz.prog w = .ok (.tuple #[v, u]) w := by
 have hp' : tmps[p]?.getD undef = .pointer (some ad) := by simpa using hp
 have hu' : tmps[q]?.getD undef = u := by simpa using hu
 simp [results, h, hp', hu', asAddr, hl]

set_option maxRecDepth 100000 in
set_option maxHeartbeats 800000 in
theorem Ends_any (A : Option Addr) (c : Nat) (ws : List Car) (cs : Cs) (id : Int) (w : World) (h : Wk w A ws) (hc : Csd w cs) :
  Calls Tryz.prog 20 #[.agg #[.slice A ws.length c], cs.v, .int .i64 id] w fun e w' => Below w.heap.size w w' ∧
   ((askE ws cs id ≠ 0 ∧ e = .returned (.tuple #[supV (0, 0) noW noW, .int .i64 (askE ws cs id)])) ∨
   (askE ws cs id = 0 ∧ ∃ x s t, idxO ws id = some x ∧ e = .returned (.tuple #[supV (endsF ws cs x) s t, .int .i64 0]) ∧ Wet w' s ∧ Wet w' t ∧ Corner ws cs x false s ∧ Corner ws cs x true t ∧ WFr w.heap.size s ∧ WFr w.heap.size t)) := by
 obtain ⟨A0, A1, c0, c1, ri, bo⟩ := cs
 have hb1 : Below w.heap.size w (((w.alloc (.cells #[.slice A ws.length c] 24)).alloc (.cells #[.slice A0 ri.length c0, .slice A1 bo.length c1] 27)).alloc (.cells #[.int .i64 0, .int .i64 0, .slice none 0 0, .slice none 0 0, .slice none 0 0, .slice none 0 0, .slice none 0 0, .slice none 0 0, .slice none 0 0, .slice none 0 0] 74)) := (((Below.refl _ w).alloc (Nat.le_refl _) _).alloc (by simp) _).alloc (by simp; omega) _
 have hch := asked_any A c ws ⟨A0, A1, c0, c1, ri, bo⟩ id _ (h.ext hb1) (hc.ext hb1)
 have q0 : Blk (((w.alloc (.cells #[.slice A ws.length c] 24)).alloc (.cells #[.slice A0 ri.length c0, .slice A1 bo.length c1] 27)).alloc (.cells #[.int .i64 0, .int .i64 0, .slice none 0 0, .slice none 0 0, .slice none 0 0, .slice none 0 0, .slice none 0 0, .slice none 0 0, .slice none 0 0, .slice none 0 0] 74)) w.heap.size #[.slice A ws.length c] 24 := blk_alloc (blk_alloc (blk_new _ _ _ rfl) _) _
 have q1 : Blk (((w.alloc (.cells #[.slice A ws.length c] 24)).alloc (.cells #[.slice A0 ri.length c0, .slice A1 bo.length c1] 27)).alloc (.cells #[.int .i64 0, .int .i64 0, .slice none 0 0, .slice none 0 0, .slice none 0 0, .slice none 0 0, .slice none 0 0, .slice none 0 0, .slice none 0 0, .slice none 0 0] 74)) (w.heap.size + 1) #[.slice A0 ri.length c0, .slice A1 bo.length c1] 27 := blk_alloc (blk_new _ _ _ (by simp)) _
 have q2 : Blk (((w.alloc (.cells #[.slice A ws.length c] 24)).alloc (.cells #[.slice A0 ri.length c0, .slice A1 bo.length c1] 27)).alloc (.cells #[.int .i64 0, .int .i64 0, .slice none 0 0, .slice none 0 0, .slice none 0 0, .slice none 0 0, .slice none 0 0, .slice none 0 0, .slice none 0 0, .slice none 0 0] 74)) (w.heap.size + 1 + 1) #[.int .i64 0, .int .i64 0, .slice none 0 0, .slice none 0 0, .slice none 0 0, .slice none 0 0, .slice none 0 0, .slice none 0 0, .slice none 0 0, .slice none 0 0] 74 := blk_new _ _ _ (by simp)
 have hs1 : (((w.alloc (.cells #[.slice A ws.length c] 24)).alloc (.cells #[.slice A0 ri.length c0, .slice A1 bo.length c1] 27)).alloc (.cells #[.int .i64 0, .int .i64 0, .slice none 0 0, .slice none 0 0, .slice none 0 0, .slice none 0 0, .slice none 0 0, .slice none 0 0, .slice none 0 0, .slice none 0 0] 74)).heap.size = w.heap.size + 3 := by simp
 have p0 := cr 0 q0
 have p1 := cr 0 q1
 have p2 := cr 1 q1
 have hz := fun (h : askE ws ⟨A0, A1, c0, c1, ri, bo⟩ id = 0) => ask_zero h
 have HH := hd9 hb1 hch h hc q0 q1 q2 hs1 hz
 clear hb1 hch q0 q1 q2 hs1 h hc hz
 dsimp only [Cs.v] at *
 generalize askE ws ⟨A0, A1, c0, c1, ri, bo⟩ id = D at *
 generalize askP ws ⟨A0, A1, c0, c1, ri, bo⟩ id = P at *
 by_cases h0 : D = 0
 rotate_left
 ·have hz : (D != 0) = true := by simpa using h0
  have HZ := Lib.hid h0
  clear h0
  go_enter Tryz.func20, Tryz.ntmps20
  go_upto_region 1 with fail
  generalize (((w.alloc (.cells #[.slice A ws.length c] 24)).alloc (.cells #[.slice A0 ri.length c0, .slice A1 bo.length c1] 27)).alloc (.cells #[.int .i64 0, .int .i64 0, .slice none 0 0, .slice none 0 0, .slice none 0 0, .slice none 0 0, .slice none 0 0, .slice none 0 0, .slice none 0 0, .slice none 0 0] 74)) = W1 at *
  go_upto_region 3 with (go_at_call 50; refine HH.out.2.1.mono ?_; rintro e w1 ⟨rfl, hb⟩; unfold plV; have HF := Lib.hid hb; clear hb)
  have hb9 := (Below.refl _ w1).alloc (Nat.le_refl _) (.cells #[.int .i64 P.1, .int .i64 P.2.1, .int .i64 P.2.2] 103)
  have hbw := HH.out.1.trans ((HF.out.trans (hb9.mono HF.out.size)).mono HH.out.1.size)
  have q2 := ((HF.out.trans (hb9.mono HF.out.size)).block (w.heap.size + 1 + 1) (by have := HH.out.2.2.2.2.2.2.2.1; omega)).trans HH.out.2.2.2.2.2.2.1
  generalize w1.alloc (.cells #[.int .i64 P.1, .int .i64 P.2.1, .int .i64 P.2.2] 103) = w3 at *
  have HB := hd2 hbw q2
  clear hb9 hbw q2
  go_wp2_with (refine wpList_store_mid rfl 74 (.tmp 6) (.tmp 19) rfl (w.heap.size + 1 + 1) 0 _ rfl rfl (show World.there _ _ 0 10 from blk_there HB.out.2) (by kernel_rfl) (by simp [Value.oneCell']) ?_)
  have hBF := setCells_blk HB.out.2 [.int .i64 0, .int .i64 0, .slice none 0 0, .slice none 0 0, .slice none 0 0, .slice none 0 0, .slice none 0 0, .slice none 0 0, .slice none 0 0, .slice none 0 0] rfl
  exact bodyPost_ret (results_box10 Tryz.results20 _ _ ⟨w.heap.size + 1 + 1, 0, none⟩ _ _ (by rfl) (by rfl) (run_loadVar_mid _ _ 0 _ _ _ (blk_range hBF) Tryz.underlying74 rfl (by kernel_rfl))) rfl
   ⟨setCells_below (by omega) _ _ _ HB.out.1, .inl ⟨HZ.out, rfl⟩⟩
 ·subst h0
  obtain ⟨g, k, x, hx, hxl, hP⟩ := HH.out.2.2.2.2.2.2.2.2 rfl
  subst hP
  have HX := hd4 hx hxl g k
  clear hx hxl g k
  go_enter Tryz.func20, Tryz.ntmps20
  go_upto_region 1 with fail
  generalize (((w.alloc (.cells #[.slice A ws.length c] 24)).alloc (.cells #[.slice A0 ri.length c0, .slice A1 bo.length c1] 27)).alloc (.cells #[.int .i64 0, .int .i64 0, .slice none 0 0, .slice none 0 0, .slice none 0 0, .slice none 0 0, .slice none 0 0, .slice none 0 0, .slice none 0 0, .slice none 0 0] 74)) = W1 at *
  go_upto_region 4 with (go_at_call 50; refine HH.out.2.1.mono ?_; rintro e w1 ⟨rfl, hb⟩; unfold plV pl; dsimp only; have HF := Lib.hid hb; clear hb)
  have hb9 := (Below.refl _ w1).alloc (Nat.le_refl _) (.cells #[.int .i64 (x : Int), .int .i64 (caAt ws x : Int), .int .i64 (atAt ws x : Int)] 103)
  have hb5 := HF.out.trans (hb9.mono HF.out.size)
  have hbw := HH.out.1.trans (hb5.mono HH.out.1.size)
  have hs1 := HH.out.2.2.2.2.2.2.2.1
  have q0 := (hb5.block w.heap.size (by omega)).trans HH.out.2.2.2.2.1
  have q1 := (hb5.block (w.heap.size + 1) (by omega)).trans HH.out.2.2.2.2.2.1
  have q2 := (hb5.block (w.heap.size + 1 + 1) (by omega)).trans HH.out.2.2.2.2.2.2.1
  have q9 := blk_new w1 (g := w1.heap.size) #[.int .i64 (x : Int), .int .i64 (caAt ws x : Int), .int .i64 (atAt ws x : Int)] 103 rfl
  generalize w1.alloc (.cells #[.int .i64 (x : Int), .int .i64 (caAt ws x : Int), .int .i64 (atAt ws x : Int)] 103) = w3 at *
  have p0 := cr 0 q0
  have p1 := cr 0 q1
  have p2 := cr 1 q1
  have z0 := cr 0 q9
  have z1 := cr 1 q9
  have z2 := cr 2 q9
  have hl2 : w.heap.size + 1 + 1 < w3.heap.size := (Array.getElem?_eq_some_iff.1 q2).1
  have HB := hd3 hbw q2 hl2
  have hsup := supply_any A c ws ⟨A0, A1, c0, c1, ri, bo⟩ x HX.out.2.1 w3 (HH.out.2.2.1.ext hbw) HX.out.2.2.1 (HH.out.2.2.2.1.ext hbw) HX.out.2.2.2
  have HU := Lib.hid hsup
  clear hb9 hb5 hbw q0 q1 q2 q9 hsup hs1 hl2
  go_wp2_with first
   | (go_at_call 51; refine HU.out.mono ?_; rintro e w5 ⟨s, t, rfl, hs, ht, hcs, hct, hf1, hf2, hb⟩; have HS := hd7 hs ht hcs hct hf1 hf2 hb; unfold supV; have q5 := (hb.block (w.heap.size + 1 + 1) HB.out.2.2).trans HB.out.2.1; have HQ5 := Lib.hid q5; clear hs ht hcs hct hf1 hf2 hb q5)
   | (refine wpList_store_mid rfl 74 (.tmp 6) (.tmp 24) rfl (w.heap.size + 1 + 1) 0 _ rfl rfl (show World.there _ _ 0 10 from blk_there HQ5.out) (by kernel_rfl) (by simp [Value.oneCell']) ?_)
  obtain ⟨hs, ht, hcs, hct, hf1, hf2, hb⟩ := HS.out
  have hl := HB.out.2.2
  have hw := HB.out.1.size
  have hBF := setCells_blk HQ5.out [.int .i64 (endsF ws ⟨A0, A1, c0, c1, ri, bo⟩ x).1, .int .i64 (endsF ws ⟨A0, A1, c0, c1, ri, bo⟩ x).2, .slice s.A0 s.ri.length s.c0, .slice s.A1 s.bo.length s.c1, .slice s.A2 s.lk.length s.c2, .slice s.A3 s.lo.length s.c3, .slice t.A0 t.ri.length t.c0, .slice t.A1 t.bo.length t.c1, .slice t.A2 t.lk.length t.c2, .slice t.A3 t.lo.length t.c3] rfl
  exact bodyPost_ret (results_box10 Tryz.results20 _ _ ⟨w.heap.size + 1 + 1, 0, none⟩ _ _ (by rfl) (by rfl) (run_loadVar_mid _ _ 0 _ _ _ (blk_range hBF) Tryz.underlying74 rfl (by kernel_rfl))) rfl
   ⟨setCells_below (by omega) _ _ _ (HB.out.1.trans (hb.mono hw)), .inr ⟨by trivial, x, s, t, HX.out.1, rfl, hs.moved (hf1.nb hl) (fun k hk => setCells_oth hk _ _ _) (by rw [setCells_size]; exact Nat.le_refl _), ht.moved (hf2.nb hl) (fun k hk => setCells_oth hk _ _ _) (by rw [setCells_size]; exact Nat.le_refl _), hcs, hct, hf1.mono hw, hf2.mono hw⟩⟩
end Go.Proofs.YtegmniphgahblaaGreat
