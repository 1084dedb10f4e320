/- Words: lists of outlets and of carriers that a call makes; a map of ints. -/
import Derived.Test.YtdadoelajhemjaaZ1
import Derived.Test.YtdadoelajhemjaaM8
import Derived.Test.YtdadoelajhemjaaM3
namespace Go.Proofs.Ytdadoelajhemjaa
open Go.RowKit Go.Maps

/-- A map of ints. -/
abbrev MapN (w : World) (b n : Nat) (f : Int → Option Int) : Prop := MapI w b n (plainElem Try.prog 3) (fun i => .lit (.int .i64 i)) f
theorem zeroN (w : World) : (zeroValue 3).run Try.prog w = .ok (.int .i64 0) w := by kernel_rfl
set_option maxRecDepth 100000 in
theorem intR_inv (v : Value) (x : Int) (ps : List MemPlace) (h : plainElem (H := Unit) Try.prog 3 v = some (.lit (.int .i64 x), ps)) : v = .int .i64 x := by
 obtain ⟨a, rfl, e, _⟩ := plainElem_int_inv Try.underlying3 h
 simp at e
 rw [e.1]
theorem MapN.look {w : World} {b n : Nat} {f : Int → Option Int} (h : MapN w b n f) {x : Int} (hw : (Lit.int .i64 x).wf = true) :
  (Instr.lookup 157 (.map (some b)) (.int .i64 x) true).run Try.prog w = .ok (.tuple #[.int .i64 ((f x).getD 0), .bool (f x).isSome]) w := by
 have := (MapI.look h (t := 157) (e := 3) (by kernel_rfl) (zeroN w) (plainElem_int Try.underlying3 (q := .i64) (a := 0) (by decide)) hw (fun i => .int .i64 i) (fun v y ps => intR_inv v y ps) (fun v ps => intR_inv v _ ps)).1
 cases hf : f x <;> rw [hf] at this <;> exact this

/-- A slice lies in blocks from lo on, other than r. -/
def Avoid (lo : Nat) (r : Option Nat) (A : Option Addr) (n : Nat) : Prop := 0 < n → ∀ ad, A = some ad → lo ≤ ad.block ∧ r ≠ some ad.block
def AvO (lo : Nat) (r : Option Nat) (A : Option Addr) (os : List Ot) : Prop := Avoid lo r A os.length ∧ ∀ j, j < os.length → Avoid lo r (oAt os j).P (oAt os j).ps.length
section
variable {w w' : World} {B B' lo : Nat} {r : Option Nat} {A : Option Addr}
theorem Rd.keep {xs : List Int} (h : Rd w B A xs) (hA : Avoid lo r A xs.length) (hk : ∀ k, lo ≤ k → k < B → r ≠ some k → w'.heap[k]? = w.heap[k]?) (hB : B ≤ B') : Rd w' B' A xs := fun hn => by
 obtain ⟨b, off, e, hb, hc⟩ := h hn
 obtain ⟨h1, h2⟩ := hA hn _ e
 exact ⟨b, off, e, by omega, fun i hi => (cell_of_heap (hk b h1 hb h2)).trans (hc i hi)⟩
theorem RdO.keep {os : List Ot} (h : RdO w B A os) (hA : AvO lo r A os) (hk : ∀ k, lo ≤ k → k < B → r ≠ some k → w'.heap[k]? = w.heap[k]?) (hB : B ≤ B') : RdO w' B' A os := fun hn => by
 obtain ⟨b, off, e, hb, hc⟩ := h hn
 obtain ⟨h1, h2⟩ := hA.1 hn _ e
 have hh := hk b h1 hb h2
 refine ⟨b, off, e, by omega, fun i hi => ?_⟩
 have k := hc i hi
 exact ⟨(cell_of_heap hh).trans k.c0, (cell_of_heap hh).trans k.c1, (cell_of_heap hh).trans k.c2, (cell_of_heap hh).trans k.c3, (cell_of_heap hh).trans k.c4, (cell_of_heap hh).trans k.c5, (cell_of_heap hh).trans k.c6, k.rd.keep (hA.2 i hi) hk hB⟩
theorem Rd.bound {xs : List Int} (h : Rd w B A xs) (hn : 0 < xs.length) {ad : Addr} (e : A = some ad) : ad.block < B := by
 obtain ⟨b, off, e', hb, _⟩ := h hn
 rw [e] at e'; cases e'; exact hb
theorem RdO.bound {os : List Ot} (h : RdO w B A os) (hn : 0 < os.length) {ad : Addr} (e : A = some ad) : ad.block < B := by
 obtain ⟨b, off, e', hb, _⟩ := h hn
 rw [e] at e'; cases e'; exact hb
theorem RdO.pass {os : List Ot} (h : RdO w B A os) {j : Nat} (hj : j < os.length) : Rd w B (oAt os j).P (oAt os j).ps := by
 obtain ⟨b, off, e', hb, hc⟩ := h (by omega)
 exact (hc j hj).rd
end
theorem oAt_snoc (os : List Ot) (o : Ot) {i : Nat} (hi : i < (os ++ [o]).length) : (i < os.length ∧ oAt (os ++ [o]) i = oAt os i) ∨ (i = os.length ∧ oAt (os ++ [o]) i = o) := by
 rw [List.length_append, List.length_singleton] at hi
 by_cases h : i < os.length
 ·exact .inl ⟨h, by unfold oAt; rw [List.getD_eq_getElem?_getD, List.getD_eq_getElem?_getD, List.getElem?_append_left h]⟩
 ·obtain rfl : i = os.length := by omega
  exact .inr ⟨rfl, by unfold oAt; rw [List.getD_eq_getElem?_getD, List.getElem?_append_right (Nat.le_refl _)]; simp⟩
theorem cAt_snoc (cs : List Car) (c : Car) {i : Nat} (hi : i < (cs ++ [c]).length) : (i < cs.length ∧ cAt (cs ++ [c]) i = cAt cs i) ∨ (i = cs.length ∧ cAt (cs ++ [c]) i = c) := by
 rw [List.length_append, List.length_singleton] at hi
 by_cases h : i < cs.length
 ·exact .inl ⟨h, by unfold cAt; rw [List.getD_eq_getElem?_getD, List.getD_eq_getElem?_getD, List.getElem?_append_left h]⟩
 ·obtain rfl : i = cs.length := by omega
  exact .inr ⟨rfl, by unfold cAt; rw [List.getD_eq_getElem?_getD, List.getElem?_append_right (Nat.le_refl _)]; simp⟩

/-- A list of outlets that the call makes. -/
structure OsI (W : World) (lo : Nat) (v : Value) (os : List Ot) : Prop where
 own : OwnO W lo v os
 rd : ∀ i, i < os.length → Rd W W.heap.size (oAt os i).P (oAt os i).ps
 av : ∀ i, i < os.length → Avoid lo v.ownBlock (oAt os i).P (oAt os i).ps.length
section
variable {W W' : World} {lo : Nat} {v v' : Value} {os : List Ot}
theorem row_lt {e : TypeId} {size n : Nat} {xs : List Value} (h : W.ownsRow lo e size v n xs) {k : Nat} (hk : v.ownBlock = some k) : lo ≤ k ∧ k < W.heap.size := by
 rcases h.2 with ⟨rfl, _⟩ | ⟨g, cap, cur, rfl, hb, hg, _⟩
 ·simp [Value.ownBlock] at hk
 ·simp only [Value.ownBlock, Option.some.injEq] at hk
  exact ⟨by omega, hk ▸ (Array.getElem?_eq_some_iff.1 hg).1⟩
theorem row_keep {e : TypeId} {size n : Nat} {xs : List Value} (h : W.ownsRow lo e size v n xs) (hk : ∀ k, v.ownBlock = some k → W'.heap[k]? = W.heap[k]?) : W'.ownsRow lo e size v n xs := by
 rcases h with ⟨h1, ⟨rfl, hn⟩ | ⟨g, cap, cur, rfl, hbg, hg, hrest⟩⟩
 ·exact ⟨h1, .inl ⟨rfl, hn⟩⟩
 ·exact ⟨h1, .inr ⟨g, cap, cur, rfl, hbg, (hk g rfl).trans hg, hrest⟩⟩
theorem OsI.nil (W : World) (lo : Nat) : OsI W lo (.slice none 0 0) [] := ⟨World.ownsRow_nil _ _ _ _, fun _ h => absurd h (by simp), fun _ h => absurd h (by simp)⟩
theorem OsI.keep (h : OsI W lo v os) (hk : ∀ k, lo ≤ k → k < W.heap.size → W'.heap[k]? = W.heap[k]?) (hs : W.heap.size ≤ W'.heap.size) : OsI W' lo v os :=
 ⟨row_keep h.own fun k e => hk k (row_lt h.own e).1 (row_lt h.own e).2, fun i hi => (h.rd i hi).keep (h.av i hi) (fun k h1 h2 _ => hk k h1 h2) hs, h.av⟩
theorem OsI.later (h : OsI W lo v os) (hb : Below W.heap.size W W') : OsI W' lo v os := h.keep (fun k _ h2 => hb.block k h2) hb.size
theorem OsI.push (h : OsI W lo v os) {o : Ot} (ho : Rd W W.heap.size o.P o.ps) (hav : Avoid lo v.ownBlock o.P o.ps.length) (hown : W'.ownsRow lo 42 7 v' (os.length + 1) (cellsO os ++ o.cells)) (hg : W.grownBy W' v.ownBlock) (hb : v'.ownBlock = v.ownBlock ∨ v'.ownBlock = some W.heap.size) : OsI W' lo v' (os ++ [o]) := by
 have hblk : ∀ {A : Option Addr} {xs : List Int}, Rd W W.heap.size A xs → Avoid lo v.ownBlock A xs.length → Rd W' W'.heap.size A xs ∧ Avoid lo v'.ownBlock A xs.length := fun hr ha => by
  refine ⟨hr.keep ha (fun k _ h2 h3 => hg.block k h2 (Ne.symm h3)) hg.size, fun hn ad e => ⟨(ha hn ad e).1, ?_⟩⟩
  rcases hb with e2 | e2
  ·rw [e2]; exact (ha hn ad e).2
  ·rw [e2]
   have := hr.bound hn e
   intro e3
   simp only [Option.some.injEq] at e3
   omega
 refine ⟨?_, fun i hi => ?_, fun i hi => ?_⟩
 ·unfold OwnO cellsO
  rw [List.flatMap_append, List.length_append]
  simp only [List.flatMap_cons, List.flatMap_nil, List.append_nil]
  exact hown
 ·rcases oAt_snoc os o hi with ⟨h1, e⟩ | ⟨h1, e⟩ <;> rw [e]
  ·exact (hblk (h.rd i h1) (h.av i h1)).1
  ·exact (hblk ho hav).1
 ·rcases oAt_snoc os o hi with ⟨h1, e⟩ | ⟨h1, e⟩ <;> rw [e]
  ·exact (hblk (h.rd i h1) (h.av i h1)).2
  ·exact (hblk ho hav).2
theorem OsI.slice (h : OsI W lo v os) : ∃ A c, v = .slice A os.length c := row_slice h.own
theorem OsI.done (h : OsI W lo v os) {lo' : Nat} (hl : lo' ≤ lo) {r : Option Nat} (hr : ∀ k, r = some k → k < lo) : ∃ A c, v = .slice A os.length c ∧ RdO W W.heap.size A os ∧ AvO lo' r A os := by
 obtain ⟨A, c, e, h1, h2⟩ := h.own.rd h.rd (fun k e => (row_lt h.own e).2)
 refine ⟨A, c, e, h1, fun _ ad e2 => ⟨Nat.le_trans hl (h2 _ e2), fun e3 => ?_⟩, fun j hj hn ad e2 => ⟨Nat.le_trans hl (h.av j hj hn ad e2).1, fun e3 => ?_⟩⟩
 ·have := hr _ e3
  have := h2 _ e2
  omega
 ·have := hr _ e3
  have := (h.av j hj hn ad e2).1
  omega
end
def cV (c : Car) : Value := .slice c.A c.os.length c.c
/-- A list of carriers that the call makes. -/
structure CsI (W : World) (lo : Nat) (v : Value) (cs : List Car) : Prop where
 own : W.ownsRow lo 38 1 v cs.length (cs.map cV)
 rd : ∀ i, i < cs.length → RdO W W.heap.size (cAt cs i).A (cAt cs i).os
 av : ∀ i, i < cs.length → AvO lo v.ownBlock (cAt cs i).A (cAt cs i).os
section
variable {W W' : World} {lo : Nat} {v v' : Value} {cs : List Car}
theorem CsI.nil (W : World) (lo : Nat) : CsI W lo (.slice none 0 0) [] := ⟨World.ownsRow_nil _ _ _ _, fun _ h => absurd h (by simp), fun _ h => absurd h (by simp)⟩
theorem CsI.keep (h : CsI W lo v cs) (hk : ∀ k, lo ≤ k → k < W.heap.size → W'.heap[k]? = W.heap[k]?) (hs : W.heap.size ≤ W'.heap.size) : CsI W' lo v cs :=
 ⟨row_keep h.own fun k e => hk k (row_lt h.own e).1 (row_lt h.own e).2, fun i hi => (h.rd i hi).keep (h.av i hi) (fun k h1 h2 _ => hk k h1 h2) hs, h.av⟩
theorem CsI.later (h : CsI W lo v cs) (hb : Below W.heap.size W W') : CsI W' lo v cs := h.keep (fun k _ h2 => hb.block k h2) hb.size
theorem CsI.push (h : CsI W lo v cs) {c : Car} (ho : RdO W W.heap.size c.A c.os) (hav : AvO lo v.ownBlock c.A c.os) (hown : W'.ownsRow lo 38 1 v' (cs.length + 1) (cs.map cV ++ [cV c])) (hg : W.grownBy W' v.ownBlock) (hb : v'.ownBlock = v.ownBlock ∨ v'.ownBlock = some W.heap.size) : CsI W' lo v' (cs ++ [c]) := by
 have hav2 : ∀ {A : Option Addr} {n : Nat}, Avoid lo v.ownBlock A n → (0 < n → ∀ ad, A = some ad → ad.block < W.heap.size) → Avoid lo v'.ownBlock A n := fun ha hl hn ad e => ⟨(ha hn ad e).1, by
  rcases hb with e2 | e2
  ·rw [e2]; exact (ha hn ad e).2
  ·rw [e2]
   have := hl hn ad e
   intro e3
   simp only [Option.some.injEq] at e3
   omega⟩
 have hblk : ∀ {A : Option Addr} {os : List Ot}, RdO W W.heap.size A os → AvO lo v.ownBlock A os → RdO W' W'.heap.size A os ∧ AvO lo v'.ownBlock A os := fun hr ha =>
  ⟨hr.keep ha (fun k _ h2 h3 => hg.block k h2 (Ne.symm h3)) hg.size, hav2 ha.1 (fun hn ad e => hr.bound hn e), fun j hj => hav2 (ha.2 j hj) (fun hn ad e => (hr.pass hj).bound hn e)⟩
 refine ⟨?_, fun i hi => ?_, fun i hi => ?_⟩
 ·rw [List.map_append, List.length_append]
  exact hown
 ·rcases cAt_snoc cs c hi with ⟨h1, e⟩ | ⟨h1, e⟩ <;> rw [e]
  ·exact (hblk (h.rd i h1) (h.av i h1)).1
  ·exact (hblk ho hav).1
 ·rcases cAt_snoc cs c hi with ⟨h1, e⟩ | ⟨h1, e⟩ <;> rw [e]
  ·exact (hblk (h.rd i h1) (h.av i h1)).2
  ·exact (hblk ho hav).2
theorem CsI.done (h : CsI W lo v cs) : ∃ A c, v = .slice A cs.length c ∧ RdW W W.heap.size A cs := by
 have h0 := h.own
 rcases h.own.2 with ⟨rfl, hn⟩ | ⟨g, cap, cur, rfl, hb, hg, hnc, hcm, hcs, ht⟩
 ·exact ⟨none, 0, by rw [hn], fun hl => absurd hl (by omega)⟩
 ·refine ⟨_, _, rfl, fun _ => ⟨g, 0, rfl, (Array.getElem?_eq_some_iff.1 hg).1, fun i hi => ⟨?_, h.rd i hi⟩⟩⟩
  have h1 := World.ownsRow.cells h0 (g := g) rfl i (cV (cAt cs i)) (by unfold cAt; simp [hi])
  rw [add_eq] at h1
  exact h1
end
/-- The outlets of a carrier, being turned. -/
structure InI (W X : World) (ws : List Car) (n : Int) (src : List Ot) (v : Value) (d : Nat) (os : List Ot) : Prop where
 bl : Below W.heap.size W X
 oi : OsI X W.heap.size v os
 len : os.length = d
 co : os.map Ot.oc = (src.take d).map (turnO ws n)
theorem InI.push {W X Y Z : World} {ws : List Car} {n : Int} {src : List Ot} {v v' : Value} {d : Nat} {os : List Ot} (h : InI W X ws n src v d os) (hd : d < src.length) {P : Option Addr} {pc : Nat}
  (hY : Below W.heap.size W Y) (hk : ∀ k, k < X.heap.size → Y.heap[k]? = X.heap[k]?) (hs : X.heap.size ≤ Y.heap.size) (hr : Rd Y Y.heap.size P (oAt src d).ps) (hf : Fresh X.heap.size P) {o : Ot} (ho : o = ⟨(oAt src d).id, newInto ws n (oAt src d).into, P, pc, (oAt src d).ps, (oAt src d).kl, (oAt src d).kh, (oAt src d).sl, (oAt src d).sh⟩)
  (hown : Z.ownsRow W.heap.size 42 7 v' (d + 1) (cellsO os ++ o.cells)) (hg : Y.grownBy Z v.ownBlock) (hb : v'.ownBlock = v.ownBlock ∨ v'.ownBlock = some Y.heap.size) : InI W Z ws n src v' (d + 1) (os ++ [o]) := by
 have hl := h.len
 have hrow : ∀ k, v.ownBlock = some k → W.heap.size ≤ k ∧ k < X.heap.size := fun k e => row_lt h.oi.own e
 have hX := h.bl.size
 have ey : OsI Y W.heap.size v os := h.oi.keep (fun k _ h2 => hk k h2) hs
 refine ⟨hY.grown hg hY.size (fun k e => (hrow k e).1), ey.push (by rw [ho]; exact hr) (by
  rw [ho]
  exact fun _ ad e => ⟨Nat.le_trans hX (hf _ e), fun e2 => by have := (hrow _ e2).2; have := hf _ e; omega⟩) (by rw [hl]; exact hown) hg hb, by rw [List.length_append, hl]; rfl, ?_⟩
 rw [List.map_append, h.co, List.take_add_one, List.map_append, List.getElem?_eq_getElem hd]
 have e : oAt src d = src[d] := by unfold oAt; rw [List.getD_eq_getElem?_getD, List.getElem?_eq_getElem hd]; rfl
 rw [ho, e]
 rfl
/-- The box of the works that are made, and their carriers. -/
structure WoI (w W X : World) (g : Nat) (A : Option Addr) (c : Nat) (cs : List Car) : Prop where
 bl : Below g w X
 bk : Blk X g #[.slice A cs.length c] 24
 ci : CsI X W.heap.size (.slice A cs.length c) cs
 lt : W.heap.size ≤ X.heap.size
 gl : g < W.heap.size
theorem WoI.on {w W X Y : World} {g : Nat} {A : Option Addr} {c : Nat} {cs : List Car} (h : WoI w W X g A c cs) (hb : Below X.heap.size X Y) : WoI w W Y g A c cs :=
 ⟨h.bl.trans (hb.mono (by have := h.gl; have := h.lt; omega)), (hb.block g (by have := h.gl; have := h.lt; omega)).trans h.bk, h.ci.later hb, Nat.le_trans h.lt hb.size, h.gl⟩
theorem WoI.app {w W X Y : World} {g : Nat} {A : Option Addr} {c : Nat} {cs : List Car} (h : WoI w W X g A c cs) (hg : X.grownBy Y (Value.slice A cs.length c).ownBlock) : Blk Y g #[.slice A cs.length c] 24 :=
 (hg.block g (by have := h.gl; have := h.lt; omega) (fun e => by have := (row_lt h.ci.own e.symm).1; have := h.gl; omega)).trans h.bk
theorem WoI.push {w W X Y : World} {g : Nat} {A : Option Addr} {c : Nat} {cs : List Car} (h : WoI w W X g A c cs) {k : Car} (ho : RdO X X.heap.size k.A k.os) (hav : AvO W.heap.size (Value.slice A cs.length c).ownBlock k.A k.os) {A' : Option Addr} {c' : Nat}
  (hown : Y.ownsRow W.heap.size 38 1 (.slice A' (cs.length + 1) c') (cs.length + 1) (cs.map cV ++ [cV k])) (hg : X.grownBy Y (Value.slice A cs.length c).ownBlock) (hb : (Value.slice A' (cs.length + 1) c').ownBlock = (Value.slice A cs.length c).ownBlock ∨ (Value.slice A' (cs.length + 1) c').ownBlock = some X.heap.size) :
  WoI w W (Y.setCell ⟨g, 0, none⟩ (.slice A' (cs.length + 1) c')) g A' c' (cs ++ [k]) := by
 have hgl := h.gl
 have hlt := h.lt
 have hp := h.ci.push ho hav hown hg hb
 have e : (cs ++ [k]).length = cs.length + 1 := by simp
 refine ⟨(h.bl.grown hg (by omega) (fun k e => by have := (row_lt h.ci.own e).1; omega)).setCell (p := ⟨g, 0, none⟩) (Nat.le_refl _) _, by rw [e]; exact heap_setCell_same _ _ 0 _ _ _ (h.app hg), ?_, by rw [World.size_setCell]; exact Nat.le_trans hlt hg.size, hgl⟩
 rw [e]
 exact hp.keep (fun j h1 _ => Below.heap_setCell _ _ _ _ (by show j ≠ g; omega)) (by rw [World.size_setCell]; exact Nat.le_refl _)
theorem contW_snoc (cs : List Car) (k : Car) : contW (cs ++ [k]) = contW cs ++ [k.os.map Ot.oc] := by simp [contW]
end Go.Proofs.Ytdadoelajhemjaa
