/- Walks: Divide. -/
import Derived.Test.YtegmniphgahblaaGreatM13
namespace Go.Proofs.YtegmniphgahblaaGreat
open Go.RowKit Go.Shelf
attribute [local go_sem] Oper.semAt_some

/-- What is left of the pence; what is paid of a reach. -/
abbrev lfF (rs : List Rch) (ps : List Pay) (x : Nat → Int) (j : Nat) : Nat → Int := lefts (abF rs) (cuF rs ps) (rcF ps) rs.length x j
abbrev paF (rs : List Rch) (ps : List Pay) (x : Nat → Int) (r : Nat) : Nat → Int := parts (abF rs) (cuF rs ps) (rcF ps) rs.length x r
def usR (rs : List Rch) (ps : List Pay) (r i : Nat) : Bool := usF rs ps i r
section
variable {rs : List Rch} {ps : List Pay} {x : Nat → Int}
theorem paF_eq {r j : Nat} (h : r + j + 1 = rs.length) : paF rs ps x r = takes (usR rs ps r) (lfF rs ps x j) (cuF rs ps r) := by
 show (fun i => takes _ _ _ i) = _
 rw [show rs.length - 1 - r = j by omega]
 rfl
theorem lfF_succ {r j : Nat} (h : r + j + 1 = rs.length) : lfF rs ps x (j + 1) = fun i => lfF rs ps x j i - takes (usR rs ps r) (lfF rs ps x j) (cuF rs ps r) i := by
 show (fun i => lefts _ _ _ _ _ _ i - takes _ _ _ i) = _
 rw [show rs.length - 1 - j = r by omega]
 rfl
theorem lfF_rng (ok : RsOk rs) {n : Nat} (hx : ∀ i, i < n → 0 ≤ x i ∧ x i ≤ 1073741824) : ∀ j, j ≤ rs.length → ∀ i, i < n → 0 ≤ lfF rs ps x j i ∧ lfF rs ps x j i ≤ 1073741824
 | 0, _, i, hi => hx i hi
 | j + 1, hj, i, hi => by
  have ih := lfF_rng ok hx j (by omega)
  have hr : (rs.length - 1 - j) + j + 1 = rs.length := by omega
  have hc := cuF_rng (ps := ps) ok (rs.length - 1 - j) (by omega)
  have ht := takes_rng (us := usR rs ps (rs.length - 1 - j)) hc.1 (fun i hi => (ih i hi).1) hi
  have hi2 := ih i hi
  rw [lfF_succ hr]
  dsimp only
  omega
end
/-- What Divide holds between two reaches: the pence left, the rows made. -/
structure DvI (rs : List Rch) (ps : List Pay) (x : Nat → Int) (gL gO : Nat) (W7 : World) (j : Nat) (W : World) : Prop where
 bt : ButB (fun b => b = gL ∨ b = gO) W7 W
 lf : 0 < ps.length → IntF W gL ps.length (lfF rs ps x j)
 fz : ∀ o, W.frozen? ⟨gO, o, none⟩ = false
 ro : ∀ r, r < rs.length → ∃ v, W.cell? ⟨gO, r, none⟩ = some v ∧ (rs.length ≤ r + j → ∃ g, v = .slice (some ⟨g, 0, none⟩) ps.length ps.length ∧ W7.heap.size ≤ g ∧ g < W.heap.size ∧ (0 < ps.length → IntF W g ps.length (paF rs ps x r)))
section
variable {rs : List Rch} {ps : List Pay} {x : Nat → Int} {gL gO : Nat} {W7 W W' : World} {j : Nat}
theorem frozen_of_block {b : Nat} (h : W'.heap[b]? = W.heap[b]?) (o : Nat) : W'.frozen? ⟨b, o, none⟩ = W.frozen? ⟨b, o, none⟩ := by
 unfold World.frozen?
 dsimp only
 rw [h]
/-- A step in which only blocks outside those in use are touched. -/
theorem DvI.step (h : DvI rs ps x gL gO W7 j W) (hs : ButB (fun b => b = gL ∨ b = gO) W7 W') (hz : W.heap.size ≤ W'.heap.size) (h1 : W'.heap[gL]? = W.heap[gL]?) (h2 : W'.heap[gO]? = W.heap[gO]?)
  (h3 : ∀ g, W7.heap.size ≤ g → g < W.heap.size → (∃ c : Value, W.cell? ⟨g, 0, none⟩ = some c) → W'.heap[g]? = W.heap[g]?) : DvI rs ps x gL gO W7 j W' := by
 refine ⟨hs, fun h0 => (h.lf h0).heap h1, fun o => (frozen_of_block h2 o).trans (h.fz o), fun r hr => ?_⟩
 obtain ⟨v, hv, hg⟩ := h.ro r hr
 refine ⟨v, (cell_of_heap h2).trans hv, fun hj => ?_⟩
 obtain ⟨g, e, g1, g2, g3⟩ := hg hj
 exact ⟨g, e, g1, Nat.lt_of_lt_of_le g2 hz, fun h0 => (g3 h0).heap (h3 g g1 g2 ⟨_, (g3 h0).at_ 0 h0⟩)⟩
theorem DvI.grown {row : Option Nat} (h : DvI rs ps x gL gO W7 j W) (hL : gL < W7.heap.size) (hO : gO < W7.heap.size) (hg : W.grownBy W' row) (hr : ∀ r, row = some r → W7.heap.size ≤ r ∧ ∃ o : Obj, W.heap[r]? = some o ∧ o.isCells = false) : DvI rs ps x gL gO W7 j W' := by
 have hz := h.bt.size
 refine h.step (h.bt.grown hg fun r e => .inr (hr r e).1) hg.size (hg.block _ (by omega) fun e => by have := (hr _ e.symm).1; omega) (hg.block _ (by omega) fun e => by have := (hr _ e.symm).1; omega) fun g g1 g2 hc => ?_
 obtain ⟨c, hc⟩ := hc
 exact hg.block g g2 fun e => by
  obtain ⟨o, ho, hn⟩ := (hr _ e.symm).2
  obtain ⟨o', ho', hn'⟩ := cells_of_cell hc
  dsimp only at ho'
  rw [ho] at ho'
  cases ho'
  rw [hn] at hn'; cases hn'
theorem DvI.abide (hL : gL < W7.heap.size) (hO : gO < W7.heap.size) {β : Type} (F : β → Nat) : Abide W7.heap.size none (fun (s : β) W => DvI rs ps x gL gO W7 (F s) W) := fun _ _ _ _ hs hg hr =>
 hs.grown hL hO hg fun r e => (hr r e).elim (fun h => by cases h) id
end
/-- The pence left, the row made, when the first k payers have been asked. -/
def mixL (us : Nat → Bool) (L : Nat → Int) (d : Int) (k i : Nat) : Int := if i < k then L i - takes us L d i else L i
def mixT (us : Nat → Bool) (L : Nat → Int) (d : Int) (k i : Nat) : Int := if i < k then takes us L d i else 0
section
variable {us : Nat → Bool} {L : Nat → Int} {d : Int} {k : Nat}
theorem mixL_zero : mixL us L d 0 = L := by
 funext i
 exact if_neg (Nat.not_lt_zero _)
theorem mixT_zero : mixT us L d 0 = fun _ => 0 := by
 funext i
 exact if_neg (Nat.not_lt_zero _)
theorem mixL_at : mixL us L d k k = L k := if_neg (Nat.lt_irrefl _)
theorem mixL_succ : mixL us L d (k + 1) = put (mixL us L d k) k (L k - takes us L d k) := by
 funext i
 unfold put mixL
 by_cases h : i = k
 ·subst h; rw [if_pos (by omega), if_pos rfl]
 ·rw [if_neg h]
  by_cases h2 : i < k
  ·rw [if_pos h2, if_pos (by omega)]
  ·rw [if_neg h2, if_neg (by omega)]
theorem mixT_succ : mixT us L d (k + 1) = put (mixT us L d k) k (takes us L d k) := by
 funext i
 unfold put mixT
 by_cases h : i = k
 ·subst h; rw [if_pos (by omega), if_pos rfl]
 ·rw [if_neg h]
  by_cases h2 : i < k
  ·rw [if_pos h2, if_pos (by omega)]
  ·rw [if_neg h2, if_neg (by omega)]
theorem mixL_off (h : us k = false) : mixL us L d (k + 1) = mixL us L d k := by
 rw [mixL_succ, takes_off h]
 funext i
 unfold put
 by_cases e : i = k
 ·rw [if_pos e, e, mixL_at]; omega
 ·rw [if_neg e]
theorem mixT_off (h : us k = false) : mixT us L d (k + 1) = mixT us L d k := by
 rw [mixT_succ, takes_off h]
 funext i
 unfold put
 by_cases e : i = k
 ·rw [if_pos e, e]; exact (if_neg (Nat.lt_irrefl _)).symm
 ·rw [if_neg e]
end
theorem dueTo_le {us : Nat → Bool} {L : Nat → Int} {d : Int} (hd : 0 ≤ d) : ∀ {k : Nat}, (∀ i, i < k → 0 ≤ L i) → dueTo us L d k ≤ d
 | 0, _ => Int.le_refl _
 | k + 1, h => by
  have h1 := dueTo_le (us := us) hd (k := k) fun i hi => h i (by omega)
  have h2 := takes_rng (us := us) hd (n := k + 1) h (Nat.lt_succ_self k)
  rw [dueTo_succ]
  omega
/-- What the last drawn region of Divide reads. -/
def dvS (g9 gO x g7 gL i : Nat) (v9 vr v7 vl : Value) (k : Nat) (X : World) : Prop := match k with
 | 0 => X.cell? ⟨g9, 0, none⟩ = some v9
 | 1 => X.cell? ⟨gO, x, none⟩ = some vr
 | 2 => X.cell? ⟨g7, 0, none⟩ = some v7
 | 3 => X.cell? ⟨gL, i, none⟩ = some vl
 | _ => True
theorem dvS_set {g9 gO x g7 gL i : Nat} {v9 vr v7 vl : Value} {X : World} {b o : Nat} {v : Value} (h9 : g9 ≠ b) (hO : gO ≠ b) (h7 : g7 ≠ b) (k : Nat) (hl : gL ≠ b ∨ k ≠ 3) (h : dvS g9 gO x g7 gL i v9 vr v7 vl k X) : dvS g9 gO x g7 gL i v9 vr v7 vl k (X.setCell ⟨b, o, none⟩ v) := by
 have oth : ∀ c, c ≠ b → (X.setCell ⟨b, o, none⟩ v).heap[c]? = X.heap[c]? := fun c hc => Below.heap_setCell X ⟨b, o, none⟩ v c hc
 match k with
 | 0 => exact (cell_of_heap (oth g9 h9)).trans h
 | 1 => exact (cell_of_heap (oth gO hO)).trans h
 | 2 => exact (cell_of_heap (oth g7 h7)).trans h
 | 3 => exact (cell_of_heap (oth gL (hl.resolve_right (fun h => h rfl)))).trans h
 | k + 4 => exact trivial
theorem usB_us {rs : List Rch} {ps : List Pay} (ok : RsOk rs) (pk : PsOk rs ps) {k : Nat} (hk : k < ps.length) (r : Nat) : usB rs (yAt ps k) r = usR rs ps r k := by
 unfold usB usR
 have h := way_us ok pk hk r
 cases hu : usF rs ps k r
 ·exact decide_eq_false fun e => by rw [h.1 e] at hu; cases hu
 ·exact decide_eq_true (h.2 hu)
theorem ButB.via {p q : Nat → Prop} {A B C : World} (h : ButB p A B) (k : ButB q B C) (hq : ∀ b, b < A.heap.size → q b → p b) : ButB p A C :=
 ⟨k.os.trans h.os, k.tape.trans h.tape, k.output.trans h.output, Nat.le_trans h.size k.size, fun b hb hn => (k.same b (Nat.lt_of_lt_of_le hb h.size) fun e => hn (hq b hb e)).trans (h.same b hb hn)⟩
end Go.Proofs.YtegmniphgahblaaGreat
