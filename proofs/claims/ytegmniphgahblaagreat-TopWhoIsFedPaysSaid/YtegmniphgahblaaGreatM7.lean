/- Words: cases; corners of a case. | Plain: what the river gives is what flows to beds, what is left, and what is lost. | Plain: what flows, told of each carrier. | Plain: more of what has a sign gives no less. | Walks: the closure of corner; words: four lists in one box. | Walks: corner. -/
import Derived.Test.YtegmniphgahblaaGreatM5
import Derived.Test.YtegmniphgahblaaGreatM6
namespace Go.Proofs.YtegmniphgahblaaGreat
open Go.RowKit

abbrev Sp := Int × Int
def sAt (l : List Sp) (i : Nat) : Sp := l.getD i (0, 0)
def spCells (p : Sp) : List Value := [.int .i64 p.1, .int .i64 p.2]
def cellsS (l : List Sp) : List Value := l.flatMap spCells
theorem cellsS_length (l : List Sp) : (cellsS l).length = l.length * 2 := by
 induction l with
 | nil => rfl
 | cons x r ih => simp only [cellsS, List.flatMap_cons, List.length_append] at ih ⊢; rw [ih]; simp [spCells]; omega
theorem cellsS_at : ∀ (l : List Sp) (i j : Nat), i < l.length → j < 2 → (cellsS l)[i * 2 + j]? = (spCells (sAt l i))[j]?
 | [], i, j, h, _ => absurd h (by simp)
 | x :: r, 0, j, h, hj => by
  have e : cellsS (x :: r) = spCells x ++ cellsS r := by simp [cellsS]
  rw [e, List.getElem?_append_left (by simp [spCells]; omega)]
  simp [sAt]
 | x :: r, i + 1, j, h, hj => by
  have e : cellsS (x :: r) = spCells x ++ cellsS r := by simp [cellsS]
  have e2 : (i + 1) * 2 + j = (spCells x).length + (i * 2 + j) := by simp [spCells]; omega
  rw [e, e2, List.getElem?_append_right (by omega), Nat.add_sub_cancel_left, cellsS_at r i j (by simpa using h) hj]
  simp [sAt]
/-- The two cells of a span. -/
structure SpAt (w : World) (b off : Nat) (p : Sp) : Prop where
 c0 : w.cell? ⟨b, off, none⟩ = some (.int .i64 p.1)
 c1 : w.cell? ⟨b, off + 1, none⟩ = some (.int .i64 p.2)
/-- A slice of spans, as it reads. -/
def RdS (w : World) (B : Nat) (A : Option Addr) (l : List Sp) : Prop := 0 < l.length → ∃ b off, A = some ⟨b, off, none⟩ ∧ b < B ∧ ∀ i, i < l.length → SpAt w b (off + i * 2) (sAt l i)
theorem RdS.below {w w' : World} {B n : Nat} {A : Option Addr} {l : List Sp} (h : RdS w B A l) (hb : Below n w w') (hB : B ≤ n) : RdS w' B A l := fun hn => by
 obtain ⟨b, off, e, hl, hc⟩ := h hn
 exact ⟨b, off, e, hl, fun i hi => ⟨(hb.cell (p := ⟨b, off + i * 2, none⟩) (by show b < n; omega)).trans (hc i hi).c0, (hb.cell (p := ⟨b, off + i * 2 + 1, none⟩) (by show b < n; omega)).trans (hc i hi).c1⟩⟩
theorem RdS.mono {w : World} {B B' : Nat} {A : Option Addr} {l : List Sp} (h : RdS w B A l) (hB : B ≤ B') : RdS w B' A l := fun hn => by
 obtain ⟨b, off, e, hl, hc⟩ := h hn
 exact ⟨b, off, e, by omega, hc⟩
theorem RdS.ext {w w' : World} {A : Option Addr} {l : List Sp} (h : RdS w w.heap.size A l) (hb : Below w.heap.size w w') : RdS w' w'.heap.size A l := (h.below hb (Nat.le_refl _)).mono hb.size

/-- A case, as it reads. -/
structure Cs where
 A0 : Option Addr
 A1 : Option Addr
 c0 : Nat
 c1 : Nat
 ri : List Sp
 bo : List Sp
def Cs.v (s : Cs) : Value := .agg #[.slice s.A0 s.ri.length s.c0, .slice s.A1 s.bo.length s.c1]
structure Csd (w : World) (s : Cs) : Prop where
 r0 : RdS w w.heap.size s.A0 s.ri
 r1 : RdS w w.heap.size s.A1 s.bo
 m0 : s.ri.length ≤ 1000
 m1 : s.bo.length ≤ 1000
theorem Csd.ext {w w' : World} {s : Cs} (h : Csd w s) (hb : Below w.heap.size w w') : Csd w' s := ⟨h.r0.ext hb, h.r1.ext hb, h.m0, h.m1⟩
def spOk (p : Sp) (most : Int) : Bool := spanB p.1 p.2 most
theorem spOk_iff {p : Sp} {m : Int} : spOk p m = true ↔ 0 ≤ p.1 ∧ p.1 ≤ p.2 ∧ p.2 ≤ m := by unfold spOk spanB; simp
/-- The first k spans of the river are right; those of the boards. -/
def riB (cs : Cs) (k : Nat) : Bool := (List.range k).all fun i => spOk (sAt cs.ri i) 1048576
def boB (ws : List Car) (cs : Cs) (k : Nat) : Bool := (List.range k).all fun i => spOk (sAt cs.bo i) ((oAt (outs ws) i).ps.length - 1)
def caseB (ws : List Car) (cs : Cs) : Bool := decide (cs.ri.length = (headsTo ws ws.length).length) && decide (cs.bo.length = (outs ws).length) && riB cs cs.ri.length && boB ws cs cs.bo.length
def caseE (ws : List Car) (cs : Cs) : Int := if caseB ws cs = true then 0 else 1
structure CsOk (ws : List Car) (cs : Cs) : Prop where
 l0 : cs.ri.length = (headsTo ws ws.length).length
 l1 : cs.bo.length = (outs ws).length
 r0 : ∀ i, i < cs.ri.length → 0 ≤ (sAt cs.ri i).1 ∧ (sAt cs.ri i).1 ≤ (sAt cs.ri i).2 ∧ (sAt cs.ri i).2 ≤ 1048576
 r1 : ∀ i, i < (outs ws).length → 0 ≤ (sAt cs.bo i).1 ∧ (sAt cs.bo i).1 ≤ (sAt cs.bo i).2 ∧ (sAt cs.bo i).2 ≤ ((oAt (outs ws) i).ps.length : Int) - 1
theorem caseE_zero {ws : List Car} {cs : Cs} : caseE ws cs = 0 ↔ CsOk ws cs := by
 have h0 : caseE ws cs = 0 ↔ caseB ws cs = true := by unfold caseE; split <;> simp_all
 rw [h0]
 unfold caseB riB boB
 simp only [Bool.and_eq_true, decide_eq_true_eq, List.all_eq_true, List.mem_range, spOk_iff]
 exact ⟨fun ⟨⟨⟨a, b⟩, c⟩, d⟩ => ⟨a, b, c, fun i hi => d i (by omega)⟩, fun ⟨a, b, c, d⟩ => ⟨⟨⟨a, b⟩, c⟩, fun i hi => d i (by omega)⟩⟩
theorem caseE_cases (ws : List Car) (cs : Cs) : caseE ws cs = 0 ∨ caseE ws cs = 1 := by unfold caseE; split <;> simp

/-- The end of a span that a sign names. -/
def endB (most : Bool) (sign : Int) : Bool := decide (0 < sign) && most || decide (sign < 0) && !most
def endV (most : Bool) (sign : Int) (s : Sp) : Int := if endB most sign = true then s.2 else s.1
theorem endV_or (most : Bool) (sign : Int) (s : Sp) : endV most sign s = s.1 ∨ endV most sign s = s.2 := by unfold endV; split <;> simp
def cRi (ws : List Car) (cs : Cs) (x : Nat) (most : Bool) (k : Nat) : List Int := (List.range k).map fun i => endV most (nth (rivS ws x) i) (sAt cs.ri i)
def cBo (ws : List Car) (cs : Cs) (x : Nat) (most : Bool) (k : Nat) : List Int := (List.range k).map fun i => endV most (hatV ws x i) (sAt cs.bo i)
def cLk (ws : List Car) (x : Nat) (most : Bool) (k : Nat) : List Int := (List.range k).map fun i => endV most (hatV ws x i) ((oAt (outs ws) i).kl, (oAt (outs ws) i).kh)
def cLo (ws : List Car) (x : Nat) (most : Bool) (k : Nat) : List Int := (List.range k).map fun i => endV most (reaV ws x i) ((oAt (outs ws) i).sl, (oAt (outs ws) i).sh)
theorem cRi_succ (ws : List Car) (cs : Cs) (x : Nat) (most : Bool) (k : Nat) : cRi ws cs x most (k + 1) = cRi ws cs x most k ++ [endV most (nth (rivS ws x) k) (sAt cs.ri k)] := by unfold cRi; rw [List.range_succ, List.map_append]; rfl
theorem cBo_succ (ws : List Car) (cs : Cs) (x : Nat) (most : Bool) (k : Nat) : cBo ws cs x most (k + 1) = cBo ws cs x most k ++ [endV most (hatV ws x k) (sAt cs.bo k)] := by unfold cBo; rw [List.range_succ, List.map_append]; rfl
theorem cLk_succ (ws : List Car) (x : Nat) (most : Bool) (k : Nat) : cLk ws x most (k + 1) = cLk ws x most k ++ [endV most (hatV ws x k) ((oAt (outs ws) k).kl, (oAt (outs ws) k).kh)] := by unfold cLk; rw [List.range_succ, List.map_append]; rfl
theorem cLo_succ (ws : List Car) (x : Nat) (most : Bool) (k : Nat) : cLo ws x most (k + 1) = cLo ws x most k ++ [endV most (reaV ws x k) ((oAt (outs ws) k).sl, (oAt (outs ws) k).sh)] := by unfold cLo; rw [List.range_succ, List.map_append]; rfl
theorem cRi_length (ws : List Car) (cs : Cs) (x : Nat) (most : Bool) (k : Nat) : (cRi ws cs x most k).length = k := by simp [cRi]
theorem cBo_length (ws : List Car) (cs : Cs) (x : Nat) (most : Bool) (k : Nat) : (cBo ws cs x most k).length = k := by simp [cBo]
theorem cLk_length (ws : List Car) (x : Nat) (most : Bool) (k : Nat) : (cLk ws x most k).length = k := by simp [cLk]
theorem cLo_length (ws : List Car) (x : Nat) (most : Bool) (k : Nat) : (cLo ws x most k).length = k := by simp [cLo]
theorem nth_hat {ws : List Car} {x i : Nat} (h : i < (outs ws).length) : nth (hatS ws x) i = hatV ws x i := nth_range _ h
theorem nth_rea {ws : List Car} {x i : Nat} (h : i < (outs ws).length) : nth (reaS ws x) i = reaV ws x i := nth_range _ h
/-- Water that is a corner of a case. -/
structure Corner (ws : List Car) (cs : Cs) (x : Nat) (most : Bool) (s : Wt) : Prop where
 ri : s.ri = cRi ws cs x most cs.ri.length
 bo : s.bo = cBo ws cs x most (outs ws).length
 lk : s.lk = cLk ws x most (outs ws).length
 lo : s.lo = cLo ws x most (outs ws).length
/-- The corner as a water with no addresses. -/
def corW (ws : List Car) (cs : Cs) (x : Nat) (most : Bool) : Wt := ⟨none, none, none, none, 0, 0, 0, 0, cRi ws cs x most cs.ri.length, cBo ws cs x most (outs ws).length, cLk ws x most (outs ws).length, cLo ws x most (outs ws).length⟩
theorem flow0_congr {ws : List Car} {s t : Wt} (h0 : s.ri = t.ri) : flow0 ws s = flow0 ws t := by unfold flow0; rw [h0]
theorem flowF_congr {ws : List Car} {s t : Wt} (h0 : s.ri = t.ri) (h1 : s.bo = t.bo) (h2 : s.lk = t.lk) (h3 : s.lo = t.lo) : flowF ws s = flowF ws t := by
 have hs : flowStep ws s = flowStep ws t := by
  funext f x
  unfold flowStep thrOf lossOf
  rw [h1, h2, h3]
 unfold flowF flowL
 rw [hs, flow0_congr h0]
theorem Corner.flow {ws : List Car} {cs : Cs} {x : Nat} {most : Bool} {s : Wt} (h : Corner ws cs x most s) : flowF ws s = flowF ws (corW ws cs x most) := flowF_congr h.ri h.bo h.lk h.lo
theorem Corner.ok {ws : List Car} {cs : Cs} {x : Nat} {most : Bool} {s : Wt} (h : Corner ws cs x most s) (g : Good ws) (k : CsOk ws cs) : Ok ws s := by
 have e0 := h.ri; have e1 := h.bo; have e2 := h.lk; have e3 := h.lo
 refine ⟨by rw [e0, cRi_length]; exact k.l0, by rw [e1, cBo_length], by rw [e2, cLk_length], by rw [e3, cLo_length], fun i hi => ?_, fun i hi => ?_, fun i hi => ?_, fun i hi => ?_⟩
 ·rw [e0, cRi_length] at hi
  have := k.r0 i hi
  rw [e0]; unfold cRi; rw [nth_range _ hi]
  rcases endV_or most (nth (rivS ws x) i) (sAt cs.ri i) with e | e <;> rw [e] <;> omega
 ·have := k.r1 i hi
  rw [e1]; unfold cBo; rw [nth_range _ hi]
  rcases endV_or most (hatV ws x i) (sAt cs.bo i) with e | e <;> rw [e] <;> omega
 ·have := (g.fine hi).k
  rw [e2]; unfold cLk; rw [nth_range _ hi]
  rcases endV_or most (hatV ws x i) ((oAt (outs ws) i).kl, (oAt (outs ws) i).kh) with e | e <;> rw [e] <;> dsimp only <;> omega
 ·have := (g.fine hi).s
  rw [e3]; unfold cLo; rw [nth_range _ hi]
  rcases endV_or most (reaV ws x i) ((oAt (outs ws) i).sl, (oAt (outs ws) i).sh) with e | e <;> rw [e] <;> dsimp only <;> omega
/-- The ends of the flow of an outlet. -/
def endsF (ws : List Car) (cs : Cs) (x : Nat) : Sp := (flowF ws (corW ws cs x false) x, flowF ws (corW ws cs x true) x)
end Go.Proofs.YtegmniphgahblaaGreat
namespace Go.Proofs.YtegmniphgahblaaGreat
open Go.RowKit

def sumN (f : Nat → Int) : Nat → Int
 | 0 => 0
 | n + 1 => sumN f n + f n
theorem sumN_ext {f h : Nat → Int} : ∀ {n : Nat}, (∀ j, j < n → f j = h j) → sumN f n = sumN h n
 | 0, _ => rfl
 | n + 1, e => by rw [sumN, sumN, sumN_ext (fun j hj => e j (by omega)), e n (by omega)]
theorem put_same (f : Nat → Int) (i : Nat) (v : Int) : put f i v i = v := if_pos rfl
theorem put_ne (f : Nat → Int) {i j : Nat} (v : Int) (h : j ≠ i) : put f i v j = f j := if_neg h
theorem sumN_put (f : Nat → Int) (i : Nat) (v : Int) : ∀ n, sumN (put f i v) n = sumN f n + if i < n then v - f i else 0
 | 0 => by simp [sumN]
 | n + 1 => by
  rw [sumN, sumN, sumN_put f i v n]
  by_cases h1 : n = i
  ·subst h1; rw [put_same, if_neg (by omega), if_pos (by omega)]; omega
  ·rw [put_ne _ _ h1]
   by_cases h2 : i < n
   ·rw [if_pos h2, if_pos (by omega)]; omega
   ·rw [if_neg h2, if_neg (by omega)]; omega

theorem flowStep_at (ws : List Car) (s : Wt) (f : Nat → Int) (x j : Nat) : flowStep ws s f x j =
  if 0 ≤ (oAt (outs ws) x).into ∧ j = 60 + (oAt (outs ws) x).into.toNat then thrOf ws s f (caAt ws x) x
  else if j = 60 + caAt ws x then f (60 + caAt ws x) - lossOf s f (caAt ws x) x - thrOf ws s f (caAt ws x) x
  else if j = x then thrOf ws s f (caAt ws x) x else if j = 76 then f 76 + lossOf s f (caAt ws x) x else f j := by
 unfold flowStep
 by_cases h : 0 ≤ (oAt (outs ws) x).into
 ·rw [if_pos h]
  unfold put
  by_cases e : j = 60 + (oAt (outs ws) x).into.toNat
  ·rw [if_pos e, if_pos ⟨h, e⟩]
  ·have e' : ¬ (0 ≤ (oAt (outs ws) x).into ∧ j = 60 + (oAt (outs ws) x).into.toNat) := fun q => e q.2
   rw [if_neg e, if_neg e']
 ·have h' : ¬ (0 ≤ (oAt (outs ws) x).into ∧ j = 60 + (oAt (outs ws) x).into.toNat) := fun q => h q.1
  rw [if_neg h, if_neg h']
  rfl

theorem caAt_mono {ws : List Car} {x y : Nat} (hxy : x ≤ y) (hy : y < (outs ws).length) : caAt ws x ≤ caAt ws y := by
 have hx : x < (outs ws).length := by omega
 refine Classical.byContradiction fun hc => ?_
 have h1 := place_eq hx
 have h2 := place_eq hy
 have h3 := atAt_lt hy
 have h4 := start_succ (caAt_lt hy)
 have h5 := start_mono (ws := ws) (c := caAt ws y + 1) (d := caAt ws x) (by omega) (by have := caAt_lt hx; omega)
 omega
theorem heads_ne {ws : List Car} {n i j : Nat} (hij : i < j) (hj : j < (headsTo ws n).length) : (headsTo ws n).getD i 0 ≠ (headsTo ws n).getD j 0 := by
 have hn : (headsTo ws n).Pairwise (· < ·) := by
  unfold headsTo
  exact List.Pairwise.filter _ List.pairwise_lt_range
 have := List.pairwise_iff_getElem.1 hn i j (by omega) hj hij
 rw [List.getD_eq_getElem?_getD, List.getElem?_eq_getElem (by omega), List.getD_eq_getElem?_getD, List.getElem?_eq_getElem hj]
 simp only [Option.getD_some]
 omega
theorem begin_zero (hs : List Nat) (ri : List Int) (d : Nat) : ∀ k, (∀ i, i < k → hs.getD i 0 ≠ d) → beginTo hs ri k d = 0
 | 0, _ => rfl
 | k + 1, h => by
  rw [beginTo, put_ne _ _ (Ne.symm (h k (by omega)))]
  exact begin_zero hs ri d k (fun i hi => h i (by omega))
theorem begin_sum {ws : List Car} (h16 : ws.length ≤ 16) (ri : List Int) : ∀ k, k ≤ (headsTo ws ws.length).length → sumN (beginTo (headsTo ws ws.length) ri k) 16 = sumN (nth ri) k
 | 0, _ => by rfl
 | k + 1, hk => by
  have := headsTo_lt (ws := ws) (n := ws.length) (k := k) (by omega)
  rw [beginTo, sumN_put, begin_sum h16 ri k (by omega), if_pos (by omega), begin_zero _ _ _ k (fun i hi => heads_ne hi (by omega))]
  simp only [sumN]
  omega
theorem heads_up {ws : List Car} {n k : Nat} (h : k < (headsTo ws n).length) : upO ws ((headsTo ws n).getD k 0 : Int) = none := by
 have h1 : (headsTo ws n).getD k 0 ∈ headsTo ws n := by
  rw [List.getD_eq_getElem?_getD, List.getElem?_eq_getElem h]; exact List.getElem_mem h
 have h2 := (List.mem_filter.1 h1).2
 simpa using h2
/-- A carrier that is fed begins with nothing. -/
theorem flow0_fed {ws : List Car} (s : Wt) {y : Nat} (g : Good ws) (hy : y < (outs ws).length) (h0 : 0 ≤ (oAt (outs ws) y).into) : flow0 ws s (60 + (oAt (outs ws) y).into.toNat) = 0 := by
 have hin := (g.fine hy).into
 have := g.n1
 rw [flow0_at, if_pos (by omega)]
 refine begin_zero _ _ _ _ (fun i hi e => ?_)
 have h1 := heads_up hi
 rw [e] at h1
 have e2 : ((60 + (oAt (outs ws) y).into.toNat - 60 : Nat) : Int) = (oAt (outs ws) y).into := by omega
 rw [e2, upO_of g hy h0] at h1
 cases h1

def bedF (ws : List Car) (f : Nat → Int) (x : Nat) : Int := if (oAt (outs ws) x).into < 0 then f x else 0
/-- What has been shared out so far. -/
structure KeepI (ws : List Car) (s : Wt) (k : Nat) (f : Nat → Int) : Prop where
 e : sumN (fun c => f (60 + c)) 16 + f 76 + sumN (bedF ws f) k = sumN (nth s.ri) s.ri.length
 z : ∀ y, k ≤ y → y < (outs ws).length → 0 ≤ (oAt (outs ws) y).into → f (60 + (oAt (outs ws) y).into.toNat) = 0
 b : ∀ x, x < k → 0 ≤ f x
theorem KeepI.start {ws : List Car} {s : Wt} (g : Good ws) (ok : Ok ws s) : KeepI ws s 0 (flow0 ws s) := by
 refine ⟨?_, fun y _ hy h0 => flow0_fed s g hy h0, fun x hx => absurd hx (by omega)⟩
 have e1 : sumN (fun c => flow0 ws s (60 + c)) 16 = sumN (beginTo (headsTo ws ws.length) s.ri (headsTo ws ws.length).length) 16 := sumN_ext (fun j hj => by
  rw [flow0_at, if_pos (by omega)]
  congr 1
  omega)
 rw [e1, begin_sum g.n1 _ _ (Nat.le_refl _), flow0_at, if_neg (by omega), ok.l0]
 simp [sumN]
theorem KeepI.step {ws : List Car} {s : Wt} (g : Good ws) (ok : Ok ws s) {f : Nat → Int} {x k : Nat} (hx : x < (outs ws).length) (hb : Bnd f k) (h : KeepI ws s x f) : KeepI ws s (x + 1) (flowStep ws s f x) := by
 have hf := g.fine hx
 have hca := hf.ca
 have hin := hf.into
 have hv := step_vals g ok hb hx
 have n1 := g.n1
 have n2 := g.n2
 have he := h.e
 have hF := flowStep_at ws s f x
 generalize hl : lossOf s f (caAt ws x) x = l at *
 generalize ht : thrOf ws s f (caAt ws x) x = t at *
 generalize hc : caAt ws x = c at *
 generalize hFF : flowStep ws s f x = F at *
 have hold : ∀ j, j < x → F j = f j := fun j hj => by rw [hF, if_neg (by omega), if_neg (by omega), if_neg (by omega), if_neg (by omega)]
 have hx1 : F x = t := by rw [hF, if_neg (by omega), if_neg (by omega), if_pos rfl]
 have h76 : F 76 = f 76 + l := by rw [hF, if_neg (by omega), if_neg (by omega), if_neg (by omega), if_pos rfl]
 have hbeds : sumN (bedF ws F) (x + 1) = sumN (bedF ws f) x + if (oAt (outs ws) x).into < 0 then t else 0 := by
  rw [sumN, sumN_ext (f := bedF ws F) (h := bedF ws f) (fun j hj => by unfold bedF; rw [hold j hj])]
  unfold bedF
  rw [hx1]
 refine ⟨?_, fun y hy1 hy h0 => ?_, fun j hj => ?_⟩
 ·rw [hbeds, h76]
  rcases hin with hi | hi
  ·have e1 : sumN (fun d => F (60 + d)) 16 = sumN (put (fun d => f (60 + d)) c (f (60 + c) - l - t)) 16 := sumN_ext (fun j hj => by
    rw [hF, if_neg (by omega)]
    unfold put
    by_cases e : j = c
    ·rw [if_pos (by omega), if_pos e]
    ·rw [if_neg (by omega), if_neg e, if_neg (by omega), if_neg (by omega)])
   rw [e1, sumN_put, if_pos hca, if_pos (by omega)]
   omega
  ·have hz := h.z x (Nat.le_refl _) hx (by omega)
   have e1 : sumN (fun d => F (60 + d)) 16 = sumN (put (put (fun d => f (60 + d)) c (f (60 + c) - l - t)) (oAt (outs ws) x).into.toNat t) 16 := sumN_ext (fun j hj => by
    rw [hF]
    by_cases e0 : j = (oAt (outs ws) x).into.toNat
    ·rw [if_pos (by omega), e0, put_same]
    ·rw [if_neg (by omega), put_ne _ _ e0]
     by_cases e : j = c
     ·rw [if_pos (by omega), e, put_same]
     ·rw [if_neg (by omega), put_ne _ _ e, if_neg (by omega), if_neg (by omega)])
   rw [e1, sumN_put, sumN_put, if_pos hca, if_pos (by omega), put_ne _ _ (by omega), hz]
   omega
 ·have hfy := (g.fine hy).into
  have hm := caAt_mono (x := x) (y := y) (by omega) hy
  have hne : (oAt (outs ws) y).into ≠ (oAt (outs ws) x).into := fun e => by have := g.fed y x hy hx h0 e; omega
  rw [hF, if_neg (by omega), if_neg (by omega), if_neg (by omega), if_neg (by omega)]
  exact h.z y (by omega) hy h0
 ·by_cases e : j = x
  ·rw [e, hx1]; omega
  ·rw [hold j (by omega)]; exact h.b j (by omega)
theorem keeps_all {ws : List Car} {s : Wt} (g : Good ws) (ok : Ok ws s) : ∀ k, k ≤ (outs ws).length → KeepI ws s k (flowL ws s (firsts (outs ws).length k))
 | 0, _ => KeepI.start g ok
 | k + 1, hk => by
  rw [firsts_succ (by omega), flowL_snoc]
  exact KeepI.step g ok (by omega) (flow_bounds g ok _) (keeps_all g ok k (by omega))
theorem keeps_law {ws : List Car} {s : Wt} (g : Good ws) (ok : Ok ws s) : KeepI ws s (outs ws).length (flowF ws s) := by
 have := keeps_all g ok _ (Nat.le_refl _)
 rw [firsts_all] at this
 exact this
theorem flowF_bounds {ws : List Car} {s : Wt} (g : Good ws) (ok : Ok ws s) : Bnd (flowF ws s) (outs ws).length := by
 have := flow_bounds g ok (List.finRange (outs ws).length)
 rw [List.length_finRange] at this
 exact this
/-- A carrier that is none has nothing. -/
theorem tail_none {ws : List Car} {s : Wt} (g : Good ws) : ∀ (k : Nat), k ≤ (outs ws).length → ∀ j, ws.length ≤ j → j < 16 → flowL ws s (firsts (outs ws).length k) (60 + j) = 0
 | 0, _, j, h1, h2 => by
  show flow0 ws s (60 + j) = 0
  rw [flow0_at, if_pos (by omega)]
  exact begin_zero _ _ _ _ (fun i hi e => by have := headsTo_lt hi; omega)
 | k + 1, hk, j, h1, h2 => by
  have hc := caAt_lt (ws := ws) (n := k) (by omega)
  have hin := (g.fine (i := k) (by omega)).into
  have n2 := g.n2
  rw [firsts_succ (by omega), flowL_snoc, flowStep_at]
  dsimp only
  rw [if_neg (by omega), if_neg (by omega), if_neg (by omega), if_neg (by omega)]
  exact tail_none g k (by omega) j h1 h2
theorem sumN_tail {f : Nat → Int} : ∀ {m n : Nat}, n ≤ m → (∀ j, n ≤ j → j < m → f j = 0) → sumN f m = sumN f n
 | 0, n, h, _ => by rw [show n = 0 by omega]
 | m + 1, n, h, hz => by
  by_cases e : n = m + 1
  ·rw [e]
  ·rw [sumN, sumN_tail (m := m) (n := n) (by omega) (fun j h1 h2 => hz j h1 (by omega)), hz m (by omega) (by omega)]; omega
theorem keeps_sum {ws : List Car} {s : Wt} (g : Good ws) (ok : Ok ws s) : flowF ws s 76 + sumN (bedF ws (flowF ws s)) (outs ws).length + sumN (fun c => flowF ws s (60 + c)) ws.length = sumN (nth s.ri) s.ri.length := by
 have h := (keeps_law g ok).e
 have hz := tail_none (s := s) g _ (Nat.le_refl _)
 rw [firsts_all] at hz
 have e := sumN_tail (f := fun c => flowF ws s (60 + c)) (m := 16) (n := ws.length) g.n1 (fun j h1 h2 => hz j h1 h2)
 rw [e] at h
 omega
end Go.Proofs.YtegmniphgahblaaGreat
namespace Go.Proofs.YtegmniphgahblaaGreat
open Go.RowKit

def lossV (s : Wt) (b : Int) (x : Nat) : Int := min b (nth s.lo x)
def thrV (ws : List Car) (s : Wt) (b : Int) (x : Nat) : Int := min (b - lossV s b x) (nth (oAt (outs ws) x).ps (nth s.bo x).toNat + nth s.lk x)
def leftV (ws : List Car) (s : Wt) (b : Int) (x : Nat) : Int := b - lossV s b x - thrV ws s b x
theorem step_other {ws : List Car} {s : Wt} {f : Nat → Int} {x j : Nat} (h1 : ¬ (0 ≤ (oAt (outs ws) x).into ∧ j = 60 + (oAt (outs ws) x).into.toNat)) (h2 : j ≠ 60 + caAt ws x) (h3 : j ≠ x) (h4 : j ≠ 76) : flowStep ws s f x j = f j := by
 rw [flowStep_at, if_neg h1, if_neg h2, if_neg h3, if_neg h4]
/-- The state ahead of outlet k. -/
def flowK (ws : List Car) (s : Wt) (k : Nat) : Nat → Int := flowL ws s (firsts (outs ws).length k)
theorem flowK_zero (ws : List Car) (s : Wt) : flowK ws s 0 = flow0 ws s := rfl
theorem flowK_succ {ws : List Car} {s : Wt} {k : Nat} (h : k < (outs ws).length) : flowK ws s (k + 1) = flowStep ws s (flowK ws s k) k := by
 unfold flowK
 rw [firsts_succ h, flowL_snoc]
theorem flowK_all (ws : List Car) (s : Wt) : flowK ws s (outs ws).length = flowF ws s := by unfold flowK; rw [firsts_all]; rfl
theorem thr_stays {ws : List Car} {s : Wt} (g : Good ws) {x : Nat} (d : Nat) (h : x + 1 + d ≤ (outs ws).length) : flowK ws s (x + 1 + d) x = flowK ws s (x + 1) x := by
 have n2 := g.n2
 induction d with
 | zero => rfl
 | succ d ih =>
  have hk : x + 1 + d < (outs ws).length := by omega
  have e : x + 1 + (d + 1) = (x + 1 + d) + 1 := by omega
  rw [e, flowK_succ hk, step_other (by omega) (by omega) (by omega) (by omega)]
  exact ih (by omega)
/-- What flows through an outlet. -/
theorem through_eq {ws : List Car} {s : Wt} (g : Good ws) {x : Nat} (hx : x < (outs ws).length) : flowF ws s x = thrV ws s (flowK ws s x (60 + caAt ws x)) x := by
 have n2 := g.n2
 have h1 := thr_stays (s := s) g ((outs ws).length - (x + 1)) (x := x) (by omega)
 rw [show x + 1 + ((outs ws).length - (x + 1)) = (outs ws).length by omega, flowK_all] at h1
 rw [h1, flowK_succ hx, flowStep_at, if_neg (by omega), if_neg (by omega), if_pos rfl]
 rfl
theorem lost_eq {ws : List Car} {s : Wt} (g : Good ws) : ∀ k, k ≤ (outs ws).length → flowK ws s k 76 = sumN (fun x => lossV s (flowK ws s x (60 + caAt ws x)) x) k
 | 0, _ => by
  rw [flowK_zero, flow0_at, if_neg (by omega)]
  rfl
 | k + 1, hk => by
  have n2 := g.n2
  have hf := g.fine (i := k) (by omega)
  have h1 := hf.ca
  have h2 := hf.into
  have n1 := g.n1
  rw [flowK_succ (by omega), flowStep_at, if_neg (by omega), if_neg (by omega), if_neg (by omega), if_pos rfl, lost_eq g k (by omega)]
  rfl
theorem caAt_of {ws : List Car} {c k : Nat} (hc : c < ws.length) (hk : k < (outs ws).length) : (k < start ws c → caAt ws k < c) ∧ (start ws (c + 1) ≤ k → c < caAt ws k) := by
 have h1 := place_eq hk
 have h2 := atAt_lt hk
 have h3 := caAt_lt hk
 have h4 := start_succ h3
 refine ⟨fun h => Classical.byContradiction fun hn => ?_, fun h => Classical.byContradiction fun hn => ?_⟩
 ·have := start_mono (ws := ws) (c := c) (d := caAt ws k) (by omega) (by omega)
  omega
 ·have := start_mono (ws := ws) (c := caAt ws k + 1) (d := c + 1) (by omega) (by omega)
  omega
/-- What carrier c gets at its begin. -/
def begF (ws : List Car) (s : Wt) (c : Nat) : Int := flowK ws s (start ws c) (60 + c)
theorem begin_head {ws : List Car} (ri : List Int) {k : Nat} (d : Nat) (h : k + 1 + d ≤ (headsTo ws ws.length).length) : beginTo (headsTo ws ws.length) ri (k + 1 + d) ((headsTo ws ws.length).getD k 0) = nth ri k := by
 induction d with
 | zero => rw [Nat.add_zero, beginTo, put_same]
 | succ d ih =>
  rw [show k + 1 + (d + 1) = (k + 1 + d) + 1 by omega, beginTo, put_ne _ _ (heads_ne (i := k) (j := k + 1 + d) (by omega) (by omega))]
  exact ih (by omega)
theorem start_le {ws : List Car} {c : Nat} (hc : c ≤ ws.length) : start ws c ≤ (outs ws).length := by
 have := start_mono hc (Nat.le_refl _)
 rw [start_all] at this
 exact this
theorem beg_unfed {ws : List Car} {s : Wt} (g : Good ws) {c : Nat} (hc : c < ws.length) (hu : upO ws (c : Int) = none) : begF ws s c = beginTo (headsTo ws ws.length) s.ri (headsTo ws ws.length).length c := by
 have n1 := g.n1
 have n2 := g.n2
 have hs := start_le (ws := ws) (c := c) (by omega)
 have key : ∀ k, k ≤ start ws c → flowK ws s k (60 + c) = flow0 ws s (60 + c) := by
  intro k
  induction k with
  | zero => intro _; rfl
  | succ k ih =>
   intro hk
   have h1 := (caAt_of hc (k := k) (by omega)).1 (by omega)
   have h2 := upO_none hu k (by omega)
   rw [flowK_succ (by omega), step_other (by omega) (by omega) (by omega) (by omega)]
   exact ih (by omega)
 unfold begF
 rw [key _ (Nat.le_refl _), flow0_at, if_pos (by omega)]
 congr 1
 omega
theorem beg_head {ws : List Car} {s : Wt} (g : Good ws) {k : Nat} (hk : k < (headsTo ws ws.length).length) : begF ws s ((headsTo ws ws.length).getD k 0) = nth s.ri k := by
 rw [beg_unfed g (headsTo_lt hk) (heads_up hk)]
 have := begin_head (ws := ws) s.ri (k := k) ((headsTo ws ws.length).length - (k + 1)) (by omega)
 rw [show k + 1 + ((headsTo ws ws.length).length - (k + 1)) = (headsTo ws ws.length).length by omega] at this
 exact this
theorem beg_fed {ws : List Car} {s : Wt} (g : Good ws) {c y : Nat} (hc : c < ws.length) (hu : upO ws (c : Int) = some y) : begF ws s c = flowF ws s y := by
 have n1 := g.n1
 have n2 := g.n2
 obtain ⟨hy, hin⟩ := upO_some hu
 have hlow := (up_lower g hu).2
 have hs := start_le (ws := ws) (c := c) (by omega)
 have hys : y < start ws c := by
  have h1 := place_eq hy
  have h2 := atAt_lt hy
  have h4 := start_succ (caAt_lt hy)
  have := start_mono (ws := ws) (c := caAt ws y + 1) (d := c) (by omega) (by omega)
  omega
 have key : ∀ d, y + 1 + d ≤ start ws c → flowK ws s (y + 1 + d) (60 + c) = flowK ws s (y + 1) y := by
  intro d
  induction d with
  | zero =>
   intro _
   have hfy := (g.fine hy).ca
   rw [Nat.add_zero, flowK_succ hy, flowStep_at, if_pos (by omega), flowStep_at, if_neg (by omega), if_neg (by omega), if_pos rfl]
  | succ d ih =>
   intro hk
   have h1 := (caAt_of hc (k := y + 1 + d) (by omega)).1 (by omega)
   have h2 : (oAt (outs ws) (y + 1 + d)).into ≠ c := fun e => by
    have := g.fed (y + 1 + d) y (by omega) hy (by omega) (by omega)
    omega
   rw [show y + 1 + (d + 1) = (y + 1 + d) + 1 by omega, flowK_succ (by omega), step_other (by omega) (by omega) (by omega) (by omega)]
   exact ih (by omega)
 have h1 := key (start ws c - (y + 1)) (by omega)
 rw [show y + 1 + (start ws c - (y + 1)) = start ws c by omega] at h1
 unfold begF
 rw [h1, ← thr_stays (s := s) g ((outs ws).length - (y + 1)) (x := y) (by omega), show y + 1 + ((outs ws).length - (y + 1)) = (outs ws).length by omega, flowK_all]
/-- What is left on carrier c behind k of its outlets, by what it gets. -/
def tailTo (ws : List Car) (s : Wt) (c : Nat) (b : Int) : Nat → Int
 | 0 => b
 | k + 1 => leftV ws s (tailTo ws s c b k) (start ws c + k)
theorem tail_at {ws : List Car} {s : Wt} (g : Good ws) {c : Nat} (hc : c < ws.length) : ∀ k, k ≤ (cAt ws c).os.length → flowK ws s (start ws c + k) (60 + c) = tailTo ws s c (begF ws s c) k
 | 0, _ => rfl
 | k + 1, hk => by
  have n1 := g.n1
  have n2 := g.n2
  have hx := start_lt hc (k := k) (by omega)
  have hca := caAt_start hc (k := k) (by omega)
  have hf := g.fine hx
  have h2 := hf.into
  rw [hca] at h2
  rw [← Nat.add_assoc, flowK_succ hx, flowStep_at, hca, if_neg (by omega), if_pos rfl]
  unfold tailTo
  rw [← tail_at g hc k (by omega)]
  rfl
theorem in_at {ws : List Car} {s : Wt} (g : Good ws) {x : Nat} (hx : x < (outs ws).length) : flowK ws s x (60 + caAt ws x) = tailTo ws s (caAt ws x) (begF ws s (caAt ws x)) (atAt ws x) := by
 rw [← tail_at g (caAt_lt hx) _ (Nat.le_of_lt (atAt_lt hx)), ← place_eq hx]
/-- What flows through an outlet, told of its carrier. -/
theorem flow_at {ws : List Car} {s : Wt} (g : Good ws) {x : Nat} (hx : x < (outs ws).length) : flowF ws s x = thrV ws s (tailTo ws s (caAt ws x) (begF ws s (caAt ws x)) (atAt ws x)) x := by
 rw [through_eq g hx, in_at g hx]
theorem end_at {ws : List Car} {s : Wt} (g : Good ws) {c : Nat} (hc : c < ws.length) : flowF ws s (60 + c) = tailTo ws s c (begF ws s c) (cAt ws c).os.length := by
 have n1 := g.n1
 have n2 := g.n2
 have hs := start_succ hc
 have hl := start_le (ws := ws) (c := c + 1) (by omega)
 have key : ∀ d, start ws (c + 1) + d ≤ (outs ws).length → flowK ws s (start ws (c + 1) + d) (60 + c) = flowK ws s (start ws (c + 1)) (60 + c) := by
  intro d
  induction d with
  | zero => intro _; rfl
  | succ d ih =>
   intro hk
   have h1 := (caAt_of hc (k := start ws (c + 1) + d) (by omega)).2 (by omega)
   have h2 := (g.fine (i := start ws (c + 1) + d) (by omega)).into
   rw [← Nat.add_assoc, flowK_succ (by omega), step_other (by omega) (by omega) (by omega) (by omega)]
   exact ih (by omega)
 have h1 := key ((outs ws).length - start ws (c + 1)) (by omega)
 rw [show start ws (c + 1) + ((outs ws).length - start ws (c + 1)) = (outs ws).length by omega, flowK_all] at h1
 rw [h1, hs, tail_at g hc _ (Nat.le_refl _)]
/-- Each carrier is a head, or fed. -/
theorem head_or_fed (ws : List Car) {c : Nat} (hc : c < ws.length) : (∃ k, k < (headsTo ws ws.length).length ∧ (headsTo ws ws.length).getD k 0 = c ∧ upO ws (c : Int) = none) ∨ ∃ y, upO ws (c : Int) = some y := by
 cases hu : upO ws (c : Int) with
 | some y => exact .inr ⟨y, rfl⟩
 | none =>
  left
  have hm : c ∈ headsTo ws ws.length := by
   unfold headsTo
   exact List.mem_filter.2 ⟨List.mem_range.2 hc, by rw [hu]; rfl⟩
  obtain ⟨k, hk, e⟩ := List.mem_iff_getElem.1 hm
  exact ⟨k, hk, by rw [List.getD_eq_getElem?_getD, List.getElem?_eq_getElem hk]; exact e, rfl⟩
end Go.Proofs.YtegmniphgahblaaGreat
namespace Go.Proofs.YtegmniphgahblaaGreat
open Go.RowKit

theorem onL_rev (ws : List Car) (x : Nat) (l : List Nat) : onL ws (x :: l).reverse = upd (onL ws l.reverse) (caAt ws x : Int) (pl ws x) := by
 unfold onL
 rw [List.reverse_cons, List.foldl_append]
 rfl
theorem upd_same {α : Type} (f : Int → Option α) (k : Int) (v : α) : upd f k v k = some v := by unfold upd; simp
theorem upd_ne {α : Type} (f : Int → Option α) {k z : Int} (v : α) (h : z ≠ k) : upd f k v z = f z := by unfold upd; simp [h]
theorem upList_cases {ws : List Car} (g : Good ws) (x : Nat) : (upO ws (caAt ws x : Int) = none ∧ upList ws x = [x]) ∨ ∃ y, upO ws (caAt ws x : Int) = some y ∧ upList ws x = x :: upList ws y := by
 cases hu : upO ws (caAt ws x : Int) with
 | none => exact .inl ⟨rfl, upList_none hu⟩
 | some y => exact .inr ⟨y, rfl, upList_some g hu⟩
theorem upList_self {ws : List Car} (g : Good ws) (x : Nat) : x ∈ upList ws x := by
 rcases upList_cases g x with ⟨_, e⟩ | ⟨y, _, e⟩ <;> rw [e] <;> simp
theorem upList_ca {ws : List Car} (g : Good ws) : ∀ (c x : Nat), caAt ws x = c → ∀ z ∈ upList ws x, caAt ws z ≤ c := by
 intro c
 induction c using Nat.strongRecOn with
 | _ c ih =>
  intro x hx z hz
  rcases upList_cases g x with ⟨_, e⟩ | ⟨y, hu, e⟩
  ·rw [e] at hz; rw [List.mem_singleton.1 hz]; omega
  ·rw [e] at hz
   rcases List.mem_cons.1 hz with rfl | hz
   ·omega
   ·have hy := (up_lower g hu).2
    have := ih (caAt ws y) (by omega) y rfl z hz
    omega
/-- What the map of the way says of a carrier on it. -/
theorem on_mem {ws : List Car} (g : Good ws) : ∀ (c x : Nat), caAt ws x = c → ∀ z ∈ upList ws x, onL ws (pathN ws x) (caAt ws z : Int) = some (pl ws z) := by
 intro c
 induction c using Nat.strongRecOn with
 | _ c ih =>
  intro x hx z hz
  unfold pathN
  rcases upList_cases g x with ⟨_, e⟩ | ⟨y, hu, e⟩
  ·rw [e] at hz ⊢; rw [List.mem_singleton.1 hz, onL_rev, upd_same]
  ·rw [e] at hz ⊢
   rw [onL_rev]
   rcases List.mem_cons.1 hz with rfl | hz
   ·rw [upd_same]
   ·have hy := (up_lower g hu).2
    have h1 := upList_ca g _ y rfl z hz
    rw [upd_ne _ _ (by omega)]
    exact ih (caAt ws y) (by omega) y rfl z hz
theorem on_none {ws : List Car} (g : Good ws) : ∀ (c x : Nat), caAt ws x = c → ∀ d : Nat, (∀ z ∈ upList ws x, caAt ws z ≠ d) → onL ws (pathN ws x) (d : Int) = none := by
 intro c
 induction c using Nat.strongRecOn with
 | _ c ih =>
  intro x hx d hd
  unfold pathN
  have h0 := hd x (upList_self g x)
  rcases upList_cases g x with ⟨_, e⟩ | ⟨y, hu, e⟩
  ·rw [e, onL_rev, upd_ne _ _ (by omega)]; rfl
  ·rw [e] at hd ⊢
   rw [onL_rev, upd_ne _ _ (by omega)]
   have hy := (up_lower g hu).2
   exact ih (caAt ws y) (by omega) y rfl d (fun z hz => hd z (List.mem_cons_of_mem _ hz))
theorem up_mem {ws : List Car} (g : Good ws) : ∀ (c x : Nat), caAt ws x = c → ∀ z ∈ upList ws x, ∀ y, upO ws (caAt ws z : Int) = some y → y ∈ upList ws x := by
 intro c
 induction c using Nat.strongRecOn with
 | _ c ih =>
  intro x hx z hz y hy
  rcases upList_cases g x with ⟨hn, e⟩ | ⟨y', hu, e⟩
  ·rw [e] at hz; rw [List.mem_singleton.1 hz, hn] at hy; cases hy
  ·rw [e] at hz ⊢
   rcases List.mem_cons.1 hz with rfl | hz
   ·rw [hu] at hy; cases hy
    exact List.mem_cons_of_mem _ (upList_self g _)
   ·have h1 := (up_lower g hu).2
    exact List.mem_cons_of_mem _ (ih (caAt ws y') (by omega) y' rfl z hz y hy)
theorem head_of_none {ws : List Car} (g : Good ws) : ∀ (c x : Nat), caAt ws x = c → ∀ z ∈ upList ws x, upO ws (caAt ws z : Int) = none → headOf ws x = z := by
 intro c
 induction c using Nat.strongRecOn with
 | _ c ih =>
  intro x hx z hz hn
  unfold headOf pathN
  rcases upList_cases g x with ⟨_, e⟩ | ⟨y, hu, e⟩
  ·rw [e] at hz ⊢; rw [List.mem_singleton.1 hz]; rfl
  ·rw [e] at hz ⊢
   rcases List.mem_cons.1 hz with rfl | hz
   ·rw [hu] at hn; cases hn
   ·have h1 := (up_lower g hu).2
    have h2 := ih (caAt ws y) (by omega) y rfl z hz hn
    have hp := pathN_pos g y
    unfold headOf pathN at h2
    unfold pathN at hp
    rw [List.reverse_cons, List.getD_eq_getElem?_getD, List.getElem?_append_left hp, ← List.getD_eq_getElem?_getD]
    exact h2
theorem pl_inj {ws : List Car} {i j : Nat} (h : pl ws i = pl ws j) : i = j := by
 unfold pl at h
 have := congrArg Prod.fst h
 dsimp only at this
 omega
theorem hat_on {ws : List Car} (g : Good ws) {x z i : Nat} (hz : z ∈ upList ws x) (hi : caAt ws i = caAt ws z) : hatV ws x i = (if i = z then 1 else if atAt ws i ≤ atAt ws z then -1 else 0) ∧ reaV ws x i = if atAt ws i ≤ atAt ws z then -1 else 0 := by
 have h := on_mem g _ x rfl z hz
 unfold hatV reaV lastO
 rw [hi, h]
 dsimp only
 have e2 : ((atAt ws i : Int) ≤ (pl ws z).2.2) = (atAt ws i ≤ atAt ws z) := by unfold pl; dsimp only; rw [Int.ofNat_le]
 simp only [e2, and_true]
 by_cases e : i = z
 ·rw [if_pos e, if_pos (by rw [e])]
 ·rw [if_neg e, if_neg (fun q => e (pl_inj q))]

/-- The second water has no less of what has a sign. -/
structure Up (ws : List Car) (x : Nat) (s t : Wt) : Prop where
 ri : ∀ k, k < (headsTo ws ws.length).length → nth (rivS ws x) k * nth s.ri k ≤ nth (rivS ws x) k * nth t.ri k
 bo : ∀ i, i < (outs ws).length → hatV ws x i * nth s.bo i ≤ hatV ws x i * nth t.bo i
 lk : ∀ i, i < (outs ws).length → hatV ws x i * nth s.lk i ≤ hatV ws x i * nth t.lk i
 lo : ∀ i, i < (outs ws).length → reaV ws x i * nth s.lo i ≤ reaV ws x i * nth t.lo i
theorem ps_mono {ws : List Car} (g : Good ws) {i : Nat} (hi : i < (outs ws).length) : ∀ (d j : Nat), j + d < (oAt (outs ws) i).ps.length → nth (oAt (outs ws) i).ps j ≤ nth (oAt (outs ws) i).ps (j + d)
 | 0, j, _ => Int.le_refl _
 | d + 1, j, h => by
  have h1 := ps_mono g hi d j (by omega)
  have h2 := g.right i hi
  unfold rightB at h2
  rw [Bool.and_eq_true] at h2
  have h3 := incB_iff.1 h2.2 (j + d + 1) (by omega)
  unfold incAt at h3
  rw [Bool.and_eq_true] at h3
  have h4 := h3.2
  simp at h4
  rw [show j + (d + 1) = j + d + 1 by omega]
  omega
theorem ps_le {ws : List Car} (g : Good ws) {i : Nat} (hi : i < (outs ws).length) {a b : Int} (h0 : 0 ≤ a) (hab : a ≤ b) (hb : b ≤ ((oAt (outs ws) i).ps.length : Int) - 1) : nth (oAt (outs ws) i).ps a.toNat ≤ nth (oAt (outs ws) i).ps b.toNat := by
 have := ps_mono g hi (b.toNat - a.toNat) a.toNat (by omega)
 rw [show a.toNat + (b.toNat - a.toNat) = b.toNat by omega] at this
 exact this
theorem riv_at {ws : List Car} {x k : Nat} (hk : k < (headsTo ws ws.length).length) : nth (rivS ws x) k = if (headsTo ws ws.length).getD k 0 = caAt ws (headOf ws x) then 1 else 0 := by
 unfold rivS rivTo nth
 simp [hk]
theorem mono_law {ws : List Car} {s t : Wt} (g : Good ws) (oks : Ok ws s) (okt : Ok ws t) {x : Nat} (hx : x < (outs ws).length) (h : Up ws x s t) : ∀ (c z : Nat), caAt ws z = c → z ∈ upList ws x → flowF ws s z ≤ flowF ws t z := by
 intro c
 induction c using Nat.strongRecOn with
 | _ c ih =>
  intro z hc hz
  have hzN := upList_mem g _ x rfl hx z hz
  have hcl := caAt_lt hzN
  have hbeg : begF ws s (caAt ws z) ≤ begF ws t (caAt ws z) := by
   rcases head_or_fed ws hcl with ⟨k, hk, e, hu⟩ | ⟨y, hu⟩
   ·have e1 := beg_head (s := s) g hk
    have e2 := beg_head (s := t) g hk
    rw [e] at e1 e2
    rw [e1, e2]
    have h1 := h.ri k hk
    rw [riv_at hk, head_of_none g _ x rfl z hz hu, if_pos e] at h1
    omega
   ·rw [beg_fed g hcl hu, beg_fed g hcl hu]
    exact ih (caAt ws y) (by have := (up_lower g hu).2; omega) y rfl (up_mem g _ x rfl z hz y hu)
  have hat := atAt_lt hzN
  have htail : ∀ k, k ≤ atAt ws z → tailTo ws s (caAt ws z) (begF ws s (caAt ws z)) k ≤ tailTo ws t (caAt ws z) (begF ws t (caAt ws z)) k := by
   intro k
   induction k with
   | zero => intro _; exact hbeg
   | succ k ihk =>
    intro hk
    have hiN := start_lt hcl (k := k) (by omega)
    have hci := caAt_start hcl (k := k) (by omega)
    have hai := atAt_start hcl (k := k) (by omega)
    have hne : start ws (caAt ws z) + k ≠ z := fun e => by rw [e] at hai; omega
    obtain ⟨e1, e2⟩ := hat_on g hz hci
    rw [if_neg hne, if_pos (by omega)] at e1
    rw [if_pos (by omega)] at e2
    have hb := h.bo _ hiN
    have hl := h.lk _ hiN
    have ho := h.lo _ hiN
    rw [e1] at hb hl
    rw [e2] at ho
    have b1 := oks.r1 _ hiN
    have b2 := okt.r1 _ hiN
    have hp := ps_le g hiN (a := nth t.bo (start ws (caAt ws z) + k)) (b := nth s.bo (start ws (caAt ws z) + k)) (by omega) (by omega) (by omega)
    have := ihk (by omega)
    unfold tailTo
    unfold leftV thrV lossV
    omega
  obtain ⟨e1, e2⟩ := hat_on g hz (i := z) rfl
  rw [if_pos rfl] at e1
  rw [if_pos (Nat.le_refl _)] at e2
  have hb := h.bo _ hzN
  have hl := h.lk _ hzN
  have ho := h.lo _ hzN
  rw [e1] at hb hl
  rw [e2] at ho
  have b1 := oks.r1 _ hzN
  have b2 := okt.r1 _ hzN
  have hp := ps_le g hzN (a := nth s.bo z) (b := nth t.bo z) (by omega) (by omega) (by omega)
  have := htail _ (Nat.le_refl _)
  rw [flow_at g hzN, flow_at g hzN]
  unfold thrV lossV
  omega
/-- More of what has a sign for an outlet gives it no less. -/
theorem mono_flow {ws : List Car} {s t : Wt} (g : Good ws) (oks : Ok ws s) (okt : Ok ws t) {x : Nat} (hx : x < (outs ws).length) (h : Up ws x s t) : flowF ws s x ≤ flowF ws t x := mono_law g oks okt hx h _ x rfl (upList_self g x)
end Go.Proofs.YtegmniphgahblaaGreat
namespace Go.Proofs.YtegmniphgahblaaGreat
open Go.RowKit Go.Shelf

set_option maxRecDepth 100000 in
set_option maxHeartbeats 400000 in
theorem corner1_any (sign lo hi : Int) (most : Bool) (B : Nat) (w : World) (hc : w.cell? ⟨B, 0, none⟩ = some (.bool most)) :
  Calls Tryz.prog 84 #[.int .i64 sign, .agg #[.int .i64 lo, .int .i64 hi], .pointer (some ⟨B, 0, none⟩)] w fun e w' => e = .returned (.int .i64 (endV most sign (lo, hi))) ∧ Below w.heap.size w w' := by
 have hb := (Below.refl _ w).alloc (Nat.le_refl _) (.cells #[.int .i64 lo, .int .i64 hi] 67)
 have HB := Lib.hid hb
 have hc2 := cell_alloc hc (.cells #[.int .i64 lo, .int .i64 hi] 67)
 clear hb
 by_cases h1 : 0 < sign
 ·have h2 : ¬ sign < 0 := by omega
  cases most
  all_goals
   go_enter Tryz.func84, Tryz.ntmps84
   go_wp2
   go_ret
   exact ⟨by simp [endV, endB] <;> (intros; omega), HB.out⟩
 ·by_cases h2 : sign < 0
  ·cases most
   all_goals
    go_enter Tryz.func84, Tryz.ntmps84
    go_wp2
    go_ret
    exact ⟨by simp [endV, endB] <;> (intros; omega), HB.out⟩
  ·cases most
   all_goals
    go_enter Tryz.func84, Tryz.ntmps84
    go_wp2
    go_ret
    exact ⟨by simp [endV, endB] <;> (intros; omega), HB.out⟩

/-- Four lists of the call's own, in the four cells of one box. -/
structure Qd (d base m : Nat) (W0 : World) (b : Nat) (v : Nat → Value) (L : Nat → List Int) (X : World) : Prop where
 k : Blk X b #[v 0, v 1, v 2, v 3] 30
 o : ∀ i, d ≤ i → i < 4 → Own X base (v i) (L i)
 ne : ∀ i j, d ≤ i → d ≤ j → i < 4 → j < 4 → i ≠ j → ∀ k, (v i).ownBlock = some k → (v j).ownBlock ≠ some k
 bl : Below m W0 X
 b0 : m ≤ b ∧ b < base
 lt : base ≤ X.heap.size
 ms : m ≤ X.heap.size
 md : ∀ k, k < base → k ≠ b → X.heap[k]? = W0.heap[k]?
def putA {α : Type} (f : Nat → α) (i : Nat) (x : α) (j : Nat) : α := if j = i then x else f j
theorem putA_same {α : Type} (f : Nat → α) (i : Nat) (x : α) : putA f i x i = x := if_pos rfl
theorem putA_ne {α : Type} (f : Nat → α) {i j : Nat} (x : α) (h : j ≠ i) : putA f i x j = f j := if_neg h
section
variable {d base m : Nat} {W0 : World} {b : Nat} {v : Nat → Value} {L : Nat → List Int} {X X' : World}
theorem Qd.below (h : Qd d base m W0 b v L X) (hb : Below X.heap.size X X') : Qd d base m W0 b v L X' := by
 have hb0 := h.b0
 have hlt := h.lt
 have hm := h.ms
 exact ⟨(hb.block b (by omega)).trans h.k, fun i hd hi => (h.o i hd hi).later hb, h.ne, h.bl.trans (hb.mono hm), hb0, Nat.le_trans hlt hb.size, Nat.le_trans hm hb.size, fun k h1 h2 => (hb.block k (by omega)).trans (h.md k h1 h2)⟩
theorem Qd.alloc (h : Qd d base m W0 b v L X) (o : Obj) : Qd d base m W0 b v L (X.alloc o) := h.below ((Below.refl _ X).alloc (Nat.le_refl _) o)
theorem Qd.cell (h : Qd d base m W0 b v L X) (i : Nat) (hi : i < 4) : X.cell? ⟨b, i, none⟩ = some (v i) := by
 have := cell_row (i := i) h.k
 rw [this]
 match i, hi with
 | 0, _ => rfl
 | 1, _ => rfl
 | 2, _ => rfl
 | 3, _ => rfl
theorem Qd.frozen (h : Qd d base m W0 b v L X) (i : Nat) : X.frozen? ⟨b, i, none⟩ = false := blk_frozen h.k
/-- What an append to one list leaves alone. -/
theorem Qd.keep (h : Qd d base m W0 b v L X) {i : Nat} (hd : d ≤ i) (hi : i < 4) (hg : X.grownBy X' (v i).ownBlock) : (∀ k, k < base → X'.heap[k]? = X.heap[k]?) := fun k hk =>
 hg.block k (by have := h.lt; omega) (fun e => by have := ((h.o i hd hi).blkIs e.symm).1; omega)
/-- One list is appended to, and stored. -/
theorem Qd.push (h : Qd d base m W0 b v L X) {i : Nat} (hd : d ≤ i) (hi : i < 4) {v' : Value} {y : Int} (hg : X.grownBy X' (v i).ownBlock) (ho : Own X' base v' (L i ++ [y])) (hb : v'.ownBlock = (v i).ownBlock ∨ v'.ownBlock = some X.heap.size) :
  Qd d base m W0 b (putA v i v') (putA L i (L i ++ [y])) (X'.setCell ⟨b, i, none⟩ v') := by
 have hb0 := h.b0
 have hlt := h.lt
 have hm := h.ms
 have hkeep := h.keep hd hi hg
 have oth : ∀ k, k ≠ b → (X'.setCell ⟨b, i, none⟩ v').heap[k]? = X'.heap[k]? := fun k hk => Below.heap_setCell _ _ _ _ hk
 have hr : ∀ j, d ≤ j → j < 4 → ∀ k, (v j).ownBlock = some k → base ≤ k ∧ k < X.heap.size := fun j hdj hj k e => ⟨((h.o j hdj hj).blkIs e).1, ((h.o j hdj hj).blkIs e).2.1⟩
 refine ⟨?_, fun j hdj hj => ?_, fun j1 j2 d1 d2 h1 h2 h3 k e => ?_, ?_, hb0, by rw [World.size_setCell]; exact Nat.le_trans hlt hg.size, by rw [World.size_setCell]; exact Nat.le_trans hm hg.size, fun k h1 h2 => (oth k h2).trans ((hkeep k h1).trans (h.md k h1 h2))⟩
 ·have h1 : Blk (X'.setCell ⟨b, i, none⟩ v') b (#[v 0, v 1, v 2, v 3].setIfInBounds i v') 30 := heap_setCell_same _ _ i _ _ _ ((hkeep b hb0.2).trans h.k)
  match i, hi with
  | 0, _ => exact h1
  | 1, _ => exact h1
  | 2, _ => exact h1
  | 3, _ => exact h1
 ·unfold putA
  by_cases e : j = i
  ·rw [if_pos e, if_pos e]
   exact ho.blk (fun k e => oth k (by have := (ho.blkIs e).1; omega))
  ·rw [if_neg e, if_neg e]
   exact (h.o j hdj hj).blk (fun k e2 => (oth k (by have := (hr j hdj hj k e2).1; omega)).trans (hg.block k (hr j hdj hj k e2).2 (fun e3 => h.ne i j hd hdj hi hj (Ne.symm e) k e3.symm e2)))
 ·unfold putA at e ⊢
  by_cases e1 : j1 = i
  ·rw [if_pos e1] at e
   rw [if_neg (by omega)]
   rcases hb with hb | hb
   ·exact h.ne i j2 hd d2 hi h2 (by omega) k (hb ▸ e)
   ·intro e2
    have := (hr j2 d2 h2 k e2).2
    rw [hb] at e; cases e; omega
  ·rw [if_neg e1] at e
   by_cases e2 : j2 = i
   ·rw [if_pos e2]
    rcases hb with hb | hb
    ·rw [hb]; exact h.ne j1 i d1 hd h1 hi e1 k e
    ·rw [hb]
     intro e3
     have := (hr j1 d1 h1 k e).2
     cases e3; omega
   ·rw [if_neg e2]; exact h.ne j1 j2 d1 d2 h1 h2 h3 k e
 ·exact (h.bl.grown hg hm (fun k e => by have := (hr i hd hi k e).1; omega)).setCell (p := ⟨b, i, none⟩) hb0.1 _
theorem Qd.start (d : Nat) (W0 : World) (m b : Nat) (v : Nat → Value) (hb : m ≤ b) (hk : Blk W0 b #[v 0, v 1, v 2, v 3] 30) (hv : ∀ i, d ≤ i → i < 4 → v i = .slice none 0 0) : Qd d W0.heap.size m W0 b v (fun _ => []) W0 :=
 ⟨hk, (fun i hd hi => by rw [hv i hd hi]; exact Own.nil _ _), (fun i j hd _ hi _ _ k e => by rw [hv i hd hi] at e; cases e), Below.refl _ _, ⟨hb, (Array.getElem?_eq_some_iff.1 hk).1⟩, Nat.le_refl _, by have := (Array.getElem?_eq_some_iff.1 hk).1; omega, fun _ _ _ => rfl⟩
end
theorem Qd.congr {d base m : Nat} {W0 : World} {b : Nat} {v : Nat → Value} {L L' : Nat → List Int} {X : World} (h : Qd d base m W0 b v L X) (e : ∀ i, d ≤ i → i < 4 → L i = L' i) : Qd d base m W0 b v L' X :=
 ⟨h.k, fun i hd hi => e i hd hi ▸ h.o i hd hi, h.ne, h.bl, h.b0, h.lt, h.ms, h.md⟩
theorem Qd.congr2 {d base m : Nat} {W0 : World} {b : Nat} {v v' : Nat → Value} {L L' : Nat → List Int} {X : World} (h : Qd d base m W0 b v L X) (e1 : ∀ i, i < 4 → v i = v' i) (e : ∀ i, d ≤ i → i < 4 → L i = L' i) : Qd d base m W0 b v' L' X := by
 have h2 := h.congr e
 refine ⟨?_, fun i hd hi => e1 i hi ▸ h2.o i hd hi, fun i j hd hj h1 h3 h4 => e1 i h1 ▸ e1 j h3 ▸ h2.ne i j hd hj h1 h3 h4, h.bl, h.b0, h.lt, h.ms, h.md⟩
 rw [← e1 0 (by omega), ← e1 1 (by omega), ← e1 2 (by omega), ← e1 3 (by omega)]
 exact h.k
/-- The four lists of a corner, as far as they are told. -/
def corL (ws : List Car) (cs : Cs) (x : Nat) (most : Bool) (r k1 k2 k3 : Nat) : Nat → List Int
 | 0 => cRi ws cs x most r
 | 1 => cBo ws cs x most k1
 | 2 => cLk ws x most k2
 | _ => cLo ws x most k3

theorem cell_of_heap {X X' : World} {g i : Nat} (h : X'.heap[g]? = X.heap[g]?) : X'.cell? ⟨g, i, none⟩ = X.cell? ⟨g, i, none⟩ := by simp [World.cell?, h]
/-- The cells that a region reads: the one that it stores into, two more, and a pair. -/
def wd (g0 i0 g1 i1 g2 i2 g3 i3 i4 : Nat) (u0 u1 u2 u3 u4 : Value) (k : Nat) (X : World) : Prop := match k with
 | 0 => X.cell? ⟨g0, i0, none⟩ = some u0
 | 1 => X.cell? ⟨g1, i1, none⟩ = some u1
 | 2 => X.cell? ⟨g2, i2, none⟩ = some u2
 | _ => X.cell? ⟨g3, i3, none⟩ = some u3 ∧ X.cell? ⟨g3, i4, none⟩ = some u4
section
variable {g0 i0 g1 i1 g2 i2 g3 i3 i4 : Nat} {u0 u1 u2 u3 u4 : Value} {X X' : World}
theorem wd_heap (h0 : X'.heap[g0]? = X.heap[g0]?) (h1 : X'.heap[g1]? = X.heap[g1]?) (h2 : X'.heap[g2]? = X.heap[g2]?) (h3 : X'.heap[g3]? = X.heap[g3]?) (k : Nat) (h : wd g0 i0 g1 i1 g2 i2 g3 i3 i4 u0 u1 u2 u3 u4 k X) : wd g0 i0 g1 i1 g2 i2 g3 i3 i4 u0 u1 u2 u3 u4 k X' := by
 match k with
 | 0 => exact (cell_of_heap h0).trans h
 | 1 => exact (cell_of_heap h1).trans h
 | 2 => exact (cell_of_heap h2).trans h
 | k + 3 =>
  obtain ⟨e3, e4⟩ : _ ∧ _ := h
  exact ⟨(cell_of_heap h3).trans e3, (cell_of_heap h3).trans e4⟩
theorem wd_below (hb : Below X.heap.size X X') (k : Nat) (h : wd g0 i0 g1 i1 g2 i2 g3 i3 i4 u0 u1 u2 u3 u4 k X) : wd g0 i0 g1 i1 g2 i2 g3 i3 i4 u0 u1 u2 u3 u4 k X' := by
 have one : ∀ {g i : Nat} {u : Value}, X.cell? ⟨g, i, none⟩ = some u → X'.cell? ⟨g, i, none⟩ = some u := fun {g i u} e => (cell_of_heap (hb.block g (lt_of_cell' e))).trans e
 match k with
 | 0 => exact one h
 | 1 => exact one h
 | 2 => exact one h
 | k + 3 =>
  obtain ⟨e3, e4⟩ : _ ∧ _ := h
  exact ⟨one e3, one e4⟩
theorem wd_grown {row : Option Nat} (hg : X.grownBy X' row) (h0 : some g0 ≠ row) (h1 : some g1 ≠ row) (h2 : some g2 ≠ row) (h3 : some g3 ≠ row) (k : Nat) (h : wd g0 i0 g1 i1 g2 i2 g3 i3 i4 u0 u1 u2 u3 u4 k X) : wd g0 i0 g1 i1 g2 i2 g3 i3 i4 u0 u1 u2 u3 u4 k X' := by
 match k with
 | 0 => exact grown_cell hg h h0
 | 1 => exact grown_cell hg h h1
 | 2 => exact grown_cell hg h h2
 | k + 3 =>
  obtain ⟨e3, e4⟩ : _ ∧ _ := h
  exact ⟨grown_cell hg e3 h3, grown_cell hg e4 h3⟩
theorem wd_set (v : Value) (h1 : g1 ≠ g0) (h2 : g2 ≠ g0) (h3 : g3 ≠ g0) (k : Nat) (hk : (k != 0) = true) (h : wd g0 i0 g1 i1 g2 i2 g3 i3 i4 u0 u1 u2 u3 u4 k X) : wd g0 i0 g1 i1 g2 i2 g3 i3 i4 u0 u1 u2 u3 u4 k (X.setCell ⟨g0, i0, none⟩ v) := by
 have oth : ∀ g, g ≠ g0 → (X.setCell ⟨g0, i0, none⟩ v).heap[g]? = X.heap[g]? := fun g hg => Below.heap_setCell _ _ _ _ hg
 match k with
 | 0 => simp at hk
 | 1 => exact (cell_of_heap (oth _ h1)).trans h
 | 2 => exact (cell_of_heap (oth _ h2)).trans h
 | k + 3 =>
  obtain ⟨e3, e4⟩ : _ ∧ _ := h
  exact ⟨(cell_of_heap (oth _ h3)).trans e3, (cell_of_heap (oth _ h3)).trans e4⟩
end
end Go.Proofs.YtegmniphgahblaaGreat
namespace Go.Proofs.YtegmniphgahblaaGreat
open Go.RowKit Go.Shelf

set_option maxRecDepth 100000 in
set_option maxHeartbeats 1000000 in
theorem corner_any (A : Option Addr) (c : Nat) (ws : List Car) (cs : Cs) (x : Nat) (most : Bool) (hx : x < (outs ws).length) (w : World) (hW : Wk w A ws) (g : Good ws) (hc : Csd w cs) (hk : CsOk ws cs) :
  Calls Tryz.prog 69 #[.agg #[.slice A ws.length c], cs.v, plV (pl ws x), .bool most] w fun e w' => ∃ s : Wt, e = .returned s.v ∧ Wet w' s ∧ Corner ws cs x most s ∧
   Fresh w.heap.size s.A0 ∧ Fresh w.heap.size s.A1 ∧ Fresh w.heap.size s.A2 ∧ Fresh w.heap.size s.A3 ∧ Below w.heap.size w w' := by
 obtain ⟨A0, A1, c0, c1, ri, bo⟩ := cs
 have hb1 : Below w.heap.size w (((((w.alloc (.cells #[.slice A ws.length c] 24)).alloc (.cells #[.slice A0 ri.length c0, .slice A1 bo.length c1] 27)).alloc (.cells #[.int .i64 (x : Int), .int .i64 (caAt ws x : Int), .int .i64 (atAt ws x : Int)] 103)).alloc (.cells #[.bool most] 4)).alloc (.cells #[.slice none 0 0, .slice none 0 0, .slice none 0 0, .slice none 0 0] 30)) :=
  (((((Below.refl _ w).alloc (Nat.le_refl _) _).alloc (by simp) _).alloc (by simp; omega) _).alloc (by simp; omega) _).alloc (by simp; omega) _
 have q0 : Blk (((((w.alloc (.cells #[.slice A ws.length c] 24)).alloc (.cells #[.slice A0 ri.length c0, .slice A1 bo.length c1] 27)).alloc (.cells #[.int .i64 (x : Int), .int .i64 (caAt ws x : Int), .int .i64 (atAt ws x : Int)] 103)).alloc (.cells #[.bool most] 4)).alloc (.cells #[.slice none 0 0, .slice none 0 0, .slice none 0 0, .slice none 0 0] 30)) w.heap.size #[.slice A ws.length c] 24 := blk_alloc (blk_alloc (blk_alloc (blk_alloc (blk_new _ _ _ rfl) _) _) _) _
 have q1 : Blk (((((w.alloc (.cells #[.slice A ws.length c] 24)).alloc (.cells #[.slice A0 ri.length c0, .slice A1 bo.length c1] 27)).alloc (.cells #[.int .i64 (x : Int), .int .i64 (caAt ws x : Int), .int .i64 (atAt ws x : Int)] 103)).alloc (.cells #[.bool most] 4)).alloc (.cells #[.slice none 0 0, .slice none 0 0, .slice none 0 0, .slice none 0 0] 30)) (w.heap.size + 1) #[.slice A0 ri.length c0, .slice A1 bo.length c1] 27 := blk_alloc (blk_alloc (blk_alloc (blk_new _ _ _ (by simp)) _) _) _
 have q2 : Blk (((((w.alloc (.cells #[.slice A ws.length c] 24)).alloc (.cells #[.slice A0 ri.length c0, .slice A1 bo.length c1] 27)).alloc (.cells #[.int .i64 (x : Int), .int .i64 (caAt ws x : Int), .int .i64 (atAt ws x : Int)] 103)).alloc (.cells #[.bool most] 4)).alloc (.cells #[.slice none 0 0, .slice none 0 0, .slice none 0 0, .slice none 0 0] 30)) (w.heap.size + 1 + 1) #[.int .i64 (x : Int), .int .i64 (caAt ws x : Int), .int .i64 (atAt ws x : Int)] 103 := blk_alloc (blk_alloc (blk_new _ _ _ (by simp)) _) _
 have q3 : Blk (((((w.alloc (.cells #[.slice A ws.length c] 24)).alloc (.cells #[.slice A0 ri.length c0, .slice A1 bo.length c1] 27)).alloc (.cells #[.int .i64 (x : Int), .int .i64 (caAt ws x : Int), .int .i64 (atAt ws x : Int)] 103)).alloc (.cells #[.bool most] 4)).alloc (.cells #[.slice none 0 0, .slice none 0 0, .slice none 0 0, .slice none 0 0] 30)) (w.heap.size + 1 + 1 + 1) #[.bool most] 4 := blk_alloc (blk_new _ _ _ (by simp)) _
 have q4 : Blk (((((w.alloc (.cells #[.slice A ws.length c] 24)).alloc (.cells #[.slice A0 ri.length c0, .slice A1 bo.length c1] 27)).alloc (.cells #[.int .i64 (x : Int), .int .i64 (caAt ws x : Int), .int .i64 (atAt ws x : Int)] 103)).alloc (.cells #[.bool most] 4)).alloc (.cells #[.slice none 0 0, .slice none 0 0, .slice none 0 0, .slice none 0 0] 30)) (w.heap.size + 1 + 1 + 1 + 1) #[.slice none 0 0, .slice none 0 0, .slice none 0 0, .slice none 0 0] 30 := blk_new _ _ _ (by simp)
 have hsz : (((((w.alloc (.cells #[.slice A ws.length c] 24)).alloc (.cells #[.slice A0 ri.length c0, .slice A1 bo.length c1] 27)).alloc (.cells #[.int .i64 (x : Int), .int .i64 (caAt ws x : Int), .int .i64 (atAt ws x : Int)] 103)).alloc (.cells #[.bool most] 4)).alloc (.cells #[.slice none 0 0, .slice none 0 0, .slice none 0 0, .slice none 0 0] 30)).heap.size = w.heap.size + 5 := by simp
 have HQ := hd7 hb1 q0 q1 q2 q3 q4 hsz
 clear hb1 q0 q1 q2 q3 q4 hsz
 have HC := hd3 hW hc hk
 clear hW hc hk
 dsimp only [Cs.v]
 unfold pl plV
 dsimp only
 go_enter Tryz.func69, Tryz.ntmps69
 go_upto_region 1 with fail
 generalize (((((w.alloc (.cells #[.slice A ws.length c] 24)).alloc (.cells #[.slice A0 ri.length c0, .slice A1 bo.length c1] 27)).alloc (.cells #[.int .i64 (x : Int), .int .i64 (caAt ws x : Int), .int .i64 (atAt ws x : Int)] 103)).alloc (.cells #[.bool most] 4)).alloc (.cells #[.slice none 0 0, .slice none 0 0, .slice none 0 0, .slice none 0 0] 30)) = W1 at *
 obtain ⟨hb1, q0, q1, q2, q3, q4, hsz⟩ := HQ.out
 have d0 : W1.cell? ⟨w.heap.size, 0, none⟩ = some (.slice A ws.length c) := cell_row q0
 have p0 : W1.cell? ⟨w.heap.size + 1 + 1, 0, none⟩ = some (.int .i64 (x : Int)) := cell_row q2
 have p1 : W1.cell? ⟨w.heap.size + 1 + 1, 1, none⟩ = some (.int .i64 (caAt ws x : Int)) := cell_row q2
 have p2 : W1.cell? ⟨w.heap.size + 1 + 1, 2, none⟩ = some (.int .i64 (atAt ws x : Int)) := cell_row q2
 have HS := Lib.hid (signs_any A c ws x hx W1 (HC.out.1.ext hb1) g)
 clear hb1 q0 q1 q2 q3 q4 hsz
 go_upto_region 4 with (go_at_call 83; refine HS.out.mono ?_; rintro e w2 ⟨A7, c7, A8, c8, A9, c9, rfl, hr7, hr8, hr9, hf7, hf8, hf9, hb2⟩; have HR := hd4 hr7 hr8 hr9 hb2; clear hr7 hr8 hr9 hf7 hf8 hf9 hb2)
 clear d0 p0 p1 p2 HS
 have HT : Hid (Qd 0 (w2.heap.size + 1) w.heap.size (w2.alloc (.cells #[.slice none 0 0, .slice none 0 0, .slice none 0 0, .slice none 0 0] 30)) w2.heap.size (fun _ => .slice none 0 0) (fun _ => []) (w2.alloc (.cells #[.slice none 0 0, .slice none 0 0, .slice none 0 0, .slice none 0 0] 30)) ∧ Below w.heap.size w (w2.alloc (.cells #[.slice none 0 0, .slice none 0 0, .slice none 0 0, .slice none 0 0] 30)) ∧
   Blk (w2.alloc (.cells #[.slice none 0 0, .slice none 0 0, .slice none 0 0, .slice none 0 0] 30)) w.heap.size #[.slice A ws.length c] 24 ∧ Blk (w2.alloc (.cells #[.slice none 0 0, .slice none 0 0, .slice none 0 0, .slice none 0 0] 30)) (w.heap.size + 1) #[.slice A0 ri.length c0, .slice A1 bo.length c1] 27 ∧ Blk (w2.alloc (.cells #[.slice none 0 0, .slice none 0 0, .slice none 0 0, .slice none 0 0] 30)) (w.heap.size + 1 + 1 + 1) #[.bool most] 4 ∧
   Blk (w2.alloc (.cells #[.slice none 0 0, .slice none 0 0, .slice none 0 0, .slice none 0 0] 30)) (w.heap.size + 1 + 1 + 1 + 1) #[.slice none 0 0, .slice none 0 0, .slice none 0 0, .slice none 0 0] 30 ∧ Rd (w2.alloc (.cells #[.slice none 0 0, .slice none 0 0, .slice none 0 0, .slice none 0 0] 30)) w2.heap.size A7 (rivS ws x) ∧ Rd (w2.alloc (.cells #[.slice none 0 0, .slice none 0 0, .slice none 0 0, .slice none 0 0] 30)) w2.heap.size A8 (hatS ws x) ∧ Rd (w2.alloc (.cells #[.slice none 0 0, .slice none 0 0, .slice none 0 0, .slice none 0 0] 30)) w2.heap.size A9 (reaS ws x) ∧ w.heap.size + 5 ≤ w2.heap.size ∧ (w2.alloc (.cells #[.slice none 0 0, .slice none 0 0, .slice none 0 0, .slice none 0 0] 30)).heap.size = w2.heap.size + 1) := by
  obtain ⟨hb1, q0, q1, q2, q3, q4, hsz⟩ := HQ.out
  obtain ⟨hr7, hr8, hr9, hb2⟩ := HR.out
  have hs2 := hb2.size
  have hb4 := (Below.refl _ w2).alloc (Nat.le_refl _) (.cells #[.slice none 0 0, .slice none 0 0, .slice none 0 0, .slice none 0 0] 30)
  have hsz6 : (w2.alloc (.cells #[.slice none 0 0, .slice none 0 0, .slice none 0 0, .slice none 0 0] 30)).heap.size = w2.heap.size + 1 := by simp
  have hbA := hb1.trans ((hb2.trans (hb4.mono hs2)).mono hb1.size)
  have hbB := hb2.trans (hb4.mono hs2)
  refine Lib.hid ⟨hsz6 ▸ Qd.start _ _ _ _ _ (by omega) (blk_new _ _ _ rfl) (fun _ _ _ => rfl), hbA, (hbB.block _ (by omega)).trans q0, (hbB.block _ (by omega)).trans q1, (hbB.block _ (by omega)).trans q3, (hbB.block _ (by omega)).trans q4,
   hr7.below hb4 (Nat.le_refl _), hr8.below hb4 (Nat.le_refl _), hr9.below hb4 (Nat.le_refl _), by omega, hsz6⟩
 clear HQ HR
 generalize (w2.alloc (.cells #[.slice none 0 0, .slice none 0 0, .slice none 0 0, .slice none 0 0] 30)) = W2 at *
 have hN := g.n2
 have hnr : ri.length ≤ 16 := by have h0 : ri.length = _ := HC.out.2.2.l0; have := headsTo_le ws ws.length; have := g.n1; omega
 have hrl : (rivS ws x).length = ri.length := (rivTo_length (Nat.le_refl _)).trans (show _ = ri.length from HC.out.2.2.l0.symm)
 have d0 : W2.cell? ⟨w.heap.size + 1, 0, none⟩ = some (.slice A0 ri.length c0) := cell_row HT.out.2.2.2.1
 have d1 : W2.cell? ⟨w.heap.size + 1, 1, none⟩ = some (.slice A1 bo.length c1) := cell_row HT.out.2.2.2.1
 have HN := hd3 hN hnr hrl
 clear hN hrl
 go_wp2
 go_loopg [14, 15, 29] ri.length (fun gg _ _ i wr => ∃ t : Nat, t ≤ ri.length ∧ ri.length - t ≤ gg ∧ i = .int .i64 t ∧ Aside (∃ v0, Qd 0 (w2.heap.size + 1) w.heap.size W2 w2.heap.size (putA (fun _ => .slice none 0 0) 0 v0) (corL ws ⟨A0, A1, c0, c1, ri, bo⟩ x most t 0 0 0) wr))
 case atStart => exact ⟨0, Nat.zero_le _, by omega, rfl, .slice none 0 0, HT.out.1.congr2 (fun i _ => by unfold putA; split <;> rfl) (fun i _ hi => match i, hi with | 0, _ => rfl | 1, _ => rfl | 2, _ => rfl | 3, _ => rfl)⟩
 case round =>
  obtain ⟨t, ht, hgg, rfl, hA⟩ := hrel
  obtain ⟨v0, hQd⟩ := hA.out
  have HA := Lib.hid hQd
  clear hA hQd
  by_cases hlt : t < ri.length
  ·have hltz : (t : Int) < (ri.length : Int) := by omega
   have hbw := HT.out.2.1.trans HA.out.bl
   obtain ⟨bs, os, e0, lbs, hcs⟩ := HC.out.2.1.r0 (by dsimp only; omega)
   dsimp only at e0
   subst e0
   have hsp := hcs t hlt
   dsimp only at hsp
   obtain ⟨lo, hi, hlh⟩ : ∃ lo hi : Int, sAt ri t = (lo, hi) := ⟨_, _, rfl⟩
   rw [hlh] at hsp
   have k0 : wr.cell? ⟨bs, os + t * 2, none⟩ = some (.int .i64 lo) := (hbw.cell (p := ⟨bs, os + t * 2, none⟩) lbs).trans hsp.c0
   have k1 : wr.cell? ⟨bs, os + t * 2 + 1, none⟩ = some (.int .i64 hi) := (hbw.cell (p := ⟨bs, os + t * 2 + 1, none⟩) lbs).trans hsp.c1
   obtain ⟨b7, o7, rfl, lb7, hc7⟩ := HT.out.2.2.2.2.2.2.1 (by rw [HN.out.2.2]; omega)
   have k7 : wr.cell? ⟨b7, o7 + t, none⟩ = some (.int .i64 (nth (rivS ws x) t)) := (cell_of_heap (HA.out.md b7 (by omega) (by omega))).trans (hc7 t (by rw [HN.out.2.2]; exact hlt))
   have k3 : wr.cell? ⟨w.heap.size + 1 + 1 + 1, 0, none⟩ = some (.bool most) := cell_row ((HA.out.md _ (by have := HT.out.2.2.2.2.2.2.2.2.2.1; omega) (by have := HT.out.2.2.2.2.2.2.2.2.2.1; omega)).trans HT.out.2.2.2.2.1)
   have hX0 : Qd 0 (w2.heap.size + 1) w.heap.size W2 w2.heap.size (putA (fun _ => .slice none 0 0) 0 v0) (corL ws ⟨some ⟨bs, os, none⟩, A1, c0, c1, ri, bo⟩ x most t 0 0 0) (wr.alloc (.cells #[.int .i64 lo, .int .i64 hi] 67)).drew := (HA.out.alloc _).below ((Below.refl _ _).drew)
   have s0 : wd w2.heap.size 0 b7 (o7 + t) b7 (o7 + t) wr.heap.size 0 1 v0 (.int .i64 (nth (rivS ws x) t)) (.int .i64 (nth (rivS ws x) t)) (.int .i64 lo) (.int .i64 hi) 0 (wr.alloc (.cells #[.int .i64 lo, .int .i64 hi] 67)).drew := hX0.cell 0 (by omega)
   have s1 : wd w2.heap.size 0 b7 (o7 + t) b7 (o7 + t) wr.heap.size 0 1 v0 (.int .i64 (nth (rivS ws x) t)) (.int .i64 (nth (rivS ws x) t)) (.int .i64 lo) (.int .i64 hi) 1 (wr.alloc (.cells #[.int .i64 lo, .int .i64 hi] 67)).drew := cell_alloc k7 _
   have s3 : wd w2.heap.size 0 b7 (o7 + t) b7 (o7 + t) wr.heap.size 0 1 v0 (.int .i64 (nth (rivS ws x) t)) (.int .i64 (nth (rivS ws x) t)) (.int .i64 lo) (.int .i64 hi) 3 (wr.alloc (.cells #[.int .i64 lo, .int .i64 hi] 67)).drew := ⟨cr 0 (blk_new wr _ _ rfl), cr 1 (blk_new wr _ _ rfl)⟩
   have k3' : (wr.alloc (.cells #[.int .i64 lo, .int .i64 hi] 67)).drew.cell? ⟨w.heap.size + 1 + 1 + 1, 0, none⟩ = some (.bool most) := cell_alloc k3 _
   have hwl : w2.heap.size + 1 ≤ wr.heap.size := HA.out.lt
   have hown : ∀ k, v0.ownBlock = some k → w2.heap.size + 1 ≤ k ∧ k < wr.heap.size := fun k e => ⟨((HA.out.o 0 (by omega) (by omega)).blkIs e).1, ((HA.out.o 0 (by omega) (by omega)).blkIs e).2.1⟩
   have hbx : Blk (wr.alloc (.cells #[.int .i64 lo, .int .i64 hi] 67)).drew wr.heap.size #[.int .i64 lo, .int .i64 hi] 67 := blk_new wr _ _ rfl
   have HX := hd9 hX0 s0 s1 s3 hbx k3' hown lb7 hwl
   have hltr : (t : Int) < ((rivS ws x).length : Int) := by rw [HN.out.2.2]; omega
   clear hbw hcs hsp hc7 hX0 s0 s1 s3 k3 k3' k7 hown hwl lb7 lbs hbx
   go_wp2
   refine wp_region_K (by kernel_rfl) (wd w2.heap.size 0 b7 (o7 + t) b7 (o7 + t) wr.heap.size 0 1 v0 (.int .i64 (nth (rivS ws x) t)) (.int .i64 (nth (rivS ws x) t)) (.int .i64 lo) (.int .i64 hi)) (fun j k => match j with | 12 => k != 0 | _ => true) ?_
   generalize (wr.alloc (.cells #[.int .i64 lo, .int .i64 hi] 67)).drew = X0 at *
   have s0 := HX.out.2.1
   have s1 := HX.out.2.2.1
   have s3 := HX.out.2.2.2.1
   refine kT 1 0 rfl ?_
   refine kT 0 1 rfl ?_
   refine kT 1 2 rfl ?_
   refine kT 1 3 rfl ?_
   refine kT 1 4 rfl ?_
   refine kT 1 5 rfl ?_
   refine kT 1 6 rfl ?_
   refine kT 3 7 rfl ?_
   refine kR 8 rfl fun K hK => ?_
   go_simp
   refine (corner1_any _ _ _ most _ X0 HX.out.2.2.2.2.2.1).mono ?_
   rintro e X1 ⟨rfl, hb⟩
   dsimp only
   refine hK.out _ _ (fun k _ h => wd_below hb k h) ?_
   have hX1 := HX.out.1.below hb
   have hbx1 := (hb.block _ (Array.getElem?_eq_some_iff.1 HX.out.2.2.2.2.1).1).trans HX.out.2.2.2.2.1
   clear hK hb
   refine kR 9 rfl fun K hK => ?_
   go_simp
   refine hK.out _ _ (fun k _ h => wd_below ((Below.refl _ X1).alloc (Nat.le_refl _) _) k h) ?_
   have hX2 := hX1.alloc (.cells #[.int .i64 (endV most (nth (rivS ws x) t) (lo, hi))] 3)
   have cn : (X1.alloc (.cells #[.int .i64 (endV most (nth (rivS ws x) t) (lo, hi))] 3)).cell? ⟨X1.heap.size, 0, none⟩ = some (.int .i64 (endV most (nth (rivS ws x) t) (lo, hi))) := cell_row (blk_new X1 _ _ rfl)
   clear hK
   refine kR 10 rfl fun K hK => ?_
   refine wp_append_int (.tmp 35) (.tmp 43) rfl (w2.heap.size + 1) v0 _ (endV most (nth (rivS ws x) t) (lo, hi)) rfl (hX2.o 0 (by omega) (by omega)) (Nat.le_trans (Nat.le_of_eq (show (corL ws ⟨some ⟨bs, os, none⟩, A1, c0, c1, ri, bo⟩ x most t 0 0 0 0).length = t from cRi_length _ _ _ _ _)) (by omega)) _ rfl cn hX2.lt ?_
   intro v' X3 ho hg hb'
   obtain ⟨A', c', rfl⟩ := ho.slice (n := t + 1) (by rw [List.length_append]; exact congrArg (· + 1) (show (corL ws ⟨some ⟨bs, os, none⟩, A1, c0, c1, ri, bo⟩ x most t 0 0 0 0).length = t from cRi_length _ _ _ _ _))
   refine hK.out _ _ (fun k _ h => wd_grown hg (fun e => by have := HX.out.2.2.2.2.2.2.1 _ e.symm; have := HX.out.2.2.2.2.2.2.2; omega) (fun e => by have := HX.out.2.2.2.2.2.2.1 _ e.symm; have := HX.out.2.2.2.2.2.2.2; omega) (fun e => by have := HX.out.2.2.2.2.2.2.1 _ e.symm; have := HX.out.2.2.2.2.2.2.2; omega) (fun e => by have := HX.out.2.2.2.2.2.2.1 _ e.symm; have := HX.out.2.2.2.2.2.2.2; omega) k h) ?_
   have hX3 := hX2.push (i := 0) (by omega) (by omega) hg ho hb'
   have eb : X3.cell? ⟨w2.heap.size, 0, none⟩ = some v0 := (cell_of_heap (hX2.keep (i := 0) (by omega) (by omega) hg _ (by have := HX.out.2.2.2.2.2.2.2; omega))).trans (hX2.cell 0 (by omega))
   have fb : X3.frozen? ⟨w2.heap.size, 0, none⟩ = false := blk_frozen ((hX2.keep (i := 0) (by omega) (by omega) hg _ (by have := HX.out.2.2.2.2.2.2.2; omega)).trans hX2.k)
   have hbx3 := (hg.block wr.heap.size (by rw [World.size_alloc]; have := (Array.getElem?_eq_some_iff.1 hbx1).1; omega) (fun e => by have := HX.out.2.2.2.2.2.2.1 _ e.symm; omega)).trans (blk_alloc hbx1 (.cells #[.int .i64 (endV most (nth (rivS ws x) t) (lo, hi))] 3))
   have hbx4 : Blk (X3.setCell ⟨w2.heap.size, 0, none⟩ (.slice A' (t + 1) c')) wr.heap.size _ _ := (Below.heap_setCell _ _ _ _ (by have := HX.out.2.2.2.2.2.2.2; show wr.heap.size ≠ w2.heap.size; omega)).trans hbx3
   clear hK hg ho hb' cn hbx1 hbx3
   go_frame
   refine kR 11 rfl fun K hK => ?_
   go_simp
   refine hK.out _ _ (fun k _ h => h) ?_
   clear hK
   refine kR 12 rfl fun K hK => ?_
   go_simp
   refine hK.out _ _ (fun k hk h => wd_set _ (by have := HX.out.2.2.2.2.2.2.2; omega) (by have := HX.out.2.2.2.2.2.2.2; omega) (by have := HX.out.2.2.2.2.2.2.2; omega) k hk h) ?_
   clear hK eb fb
   refine kD ?_
   have HF := Lib.hid hX3
   clear hX1 hX2 hX3 hbx4
   go_wp2
   go_roundg (ri.length - (t + 1))
   case measure => omega
   case rel => exact ⟨t + 1, by omega, by omega, by go_num, .slice A' (t + 1) c', HF.out.congr2 (fun i _ => by unfold putA; split <;> simp_all) (fun i _ hj => match i, hj with | 0, _ => by rw [show corL ws ⟨some ⟨bs, os, none⟩, A1, c0, c1, ri, bo⟩ x most (t + 1) 0 0 0 0 = cRi ws ⟨some ⟨bs, os, none⟩, A1, c0, c1, ri, bo⟩ x most (t + 1) from rfl, cRi_succ]; show putA _ 0 _ 0 = _; rw [show sAt (Cs.ri ⟨some ⟨bs, os, none⟩, A1, c0, c1, ri, bo⟩) t = (lo, hi) from hlh]; rfl | 1, _ => rfl | 2, _ => rfl | 3, _ => rfl)⟩
  ·have hltz : ¬ (t : Int) < (ri.length : Int) := by omega
   obtain rfl : t = ri.length := by omega
   have c0' : wr.cell? ⟨w.heap.size, 0, none⟩ = some (.slice A ws.length c) := cell_row ((HA.out.md _ (by have := HT.out.2.2.2.2.2.2.2.2.2.1; omega) (by have := HT.out.2.2.2.2.2.2.2.2.2.1; omega)).trans HT.out.2.2.1)
   have HL := Lib.hid (listed_any A c ws wr (HC.out.1.ext (HT.out.2.1.trans HA.out.bl)))
   go_upto_region 10 with (go_at_call 32; refine HL.out.mono ?_; rintro e w3 ⟨A4, c4, rfl, hr4, hf4, hb4⟩; have HM := hd3 hr4 hf4 hb4; clear hr4 hf4 hb4)
   obtain ⟨hr4, hf4, hb4⟩ := HM.out
   have hQ := HA.out
   have hs4 := hb4.size
   have hlt0 := hQ.lt
   obtain ⟨B0, d0', hv0, rd0, fr0⟩ := ((hQ.o 0 (by omega) (by omega)).later hb4).rd
   rw [show (corL ws ⟨A0, A1, c0, c1, ri, bo⟩ x most ri.length 0 0 0 0) = cRi ws ⟨A0, A1, c0, c1, ri, bo⟩ x most ri.length from rfl] at hv0 rd0
   rw [cRi_length] at hv0
   have hv0' : v0 = .slice B0 ri.length d0' := hv0
   subst hv0'
   clear hv0
   have hblk := fun k (hk : k < w2.heap.size + 1) (hk2 : k ≠ w2.heap.size) => (hb4.block k (by omega)).trans (hQ.md k hk hk2)
   obtain ⟨t1, t2, t3, t4, t5, t6, t7, t8, t9, t10, t11⟩ := HT.out
   have HT2 : Hid (Qd 1 w3.heap.size w.heap.size w3 w2.heap.size (putA (fun _ => .slice none 0 0) 0 (.slice B0 ri.length d0')) (corL ws ⟨A0, A1, c0, c1, ri, bo⟩ x most ri.length 0 0 0) w3 ∧ Below w.heap.size w w3 ∧
     Blk w3 (w.heap.size + 1) #[.slice A0 ri.length c0, .slice A1 bo.length c1] 27 ∧ Blk w3 (w.heap.size + 1 + 1 + 1) #[.bool most] 4 ∧ Blk w3 (w.heap.size + 1 + 1 + 1 + 1) #[.slice none 0 0, .slice none 0 0, .slice none 0 0, .slice none 0 0] 30 ∧
     Rd w3 w2.heap.size A8 (hatS ws x) ∧ Rd w3 w2.heap.size A9 (reaS ws x) ∧ RdO w3 w3.heap.size A4 (outs ws) ∧ Fresh wr.heap.size A4 ∧ Rd w3 w3.heap.size B0 (cRi ws ⟨A0, A1, c0, c1, ri, bo⟩ x most ri.length) ∧ Fresh (w2.heap.size + 1) B0 ∧ w.heap.size + 5 ≤ w2.heap.size ∧ w2.heap.size + 1 ≤ wr.heap.size ∧ wr.heap.size ≤ w3.heap.size) := by
    refine Lib.hid ⟨(Qd.start 1 w3 w.heap.size w2.heap.size _ (by omega) ((hb4.block _ (by omega)).trans hQ.k) (fun i h1 h2 => by unfold putA; rw [if_neg (by omega)])).congr (fun i h1 h2 => match i, h1, h2 with | 1, _, _ => rfl | 2, _, _ => rfl | 3, _, _ => rfl),
     (t2.trans hQ.bl).trans (hb4.mono (by have := t2.size; omega)), (hblk _ (by omega) (by omega)).trans t4, (hblk _ (by omega) (by omega)).trans t5, (hblk _ (by omega) (by omega)).trans t6, ?_, ?_, hr4, hf4, rd0, fr0, t10, hlt0, hs4⟩
    ·intro hn
     obtain ⟨b, off, e, hl, hc⟩ := t8 hn
     exact ⟨b, off, e, hl, fun i hi => (cell_of_heap (hblk b (by omega) (by omega))).trans (hc i hi)⟩
    ·intro hn
     obtain ⟨b, off, e, hl, hc⟩ := t9 hn
     exact ⟨b, off, e, hl, fun i hi => (cell_of_heap (hblk b (by omega) (by omega))).trans (hc i hi)⟩
   clear hr4 hf4 hb4 hQ hs4 hlt0 rd0 fr0 hblk t1 t2 t3 t4 t5 t6 t7 t8 t9 t10 t11 HA HT HM HL
   generalize wr = wz at *
   go_loopg [16, 17, 50] (outs ws).length (fun gg _ _ i wr => ∃ t : Nat, t ≤ (outs ws).length ∧ (outs ws).length - t ≤ gg ∧ i = .int .i64 t ∧ Aside (∃ v : Nat → Value, v 0 = .slice B0 ri.length d0' ∧ Qd 1 w3.heap.size w.heap.size w3 w2.heap.size v (corL ws ⟨A0, A1, c0, c1, ri, bo⟩ x most ri.length t t t) wr))
   case atStart => exact ⟨0, Nat.zero_le _, by omega, rfl, _, rfl, HT2.out.1⟩
   case round =>
    obtain ⟨t, ht, hgg, rfl, hA⟩ := hrel
    obtain ⟨v, hv0, hQd⟩ := hA.out
    have HA := hd2 hv0 hQd
    clear hA hv0 hQd
    by_cases hlt : t < (outs ws).length
    ·have hltz : (t : Int) < ((outs ws).length : Int) := by omega
     have ht6 : t ≤ 1000 := by have := HN.out.1; omega
     obtain ⟨hw1, hw2, hw3, hw4, hw5, hw6, hw7, hw8, hw9, hwA, hwB, hwC, hwD, hwE⟩ := HT2.out
     obtain ⟨hv0, hQ⟩ := HA.out
     have hbw := hw2.trans hQ.bl
     have hlb : bo.length = (outs ws).length := HC.out.2.2.l1
     obtain ⟨bs, os, e0, lbs, hcs⟩ := HC.out.2.1.r1 (by show 0 < bo.length; omega)
     dsimp only at e0
     subst e0
     have hsp := hcs t (by show t < bo.length; omega)
     dsimp only at hsp
     obtain ⟨lo, hi, hlh⟩ : ∃ lo hi : Int, sAt bo t = (lo, hi) := ⟨_, _, rfl⟩
     rw [hlh] at hsp
     have k0 : wr.cell? ⟨bs, os + t * 2, none⟩ = some (.int .i64 lo) := (hbw.cell (p := ⟨bs, os + t * 2, none⟩) lbs).trans hsp.c0
     have k1 : wr.cell? ⟨bs, os + t * 2 + 1, none⟩ = some (.int .i64 hi) := (hbw.cell (p := ⟨bs, os + t * 2 + 1, none⟩) lbs).trans hsp.c1
     have hlh8 : (hatS ws x).length = (outs ws).length := by simp [hatS]
     have hlh9 : (reaS ws x).length = (outs ws).length := by simp [reaS]
     obtain ⟨b8, o8, e8, lb8, hc8⟩ := hw6 (by omega)
     subst e8
     have k8 : w3.cell? ⟨b8, o8 + t, none⟩ = some (.int .i64 (hatV ws x t)) := (hc8 t (by omega)).trans (by rw [nth_hat hlt])
     obtain ⟨b9, o9, e9, lb9, hc9⟩ := hw7 (by omega)
     subst e9
     have k9 : w3.cell? ⟨b9, o9 + t, none⟩ = some (.int .i64 (reaV ws x t)) := (hc9 t (by omega)).trans (by rw [nth_rea hlt])
     obtain ⟨b4, o4, e4, lb4, ho4⟩ := hw8 (by omega)
     subst e4
     have h4 := ho4 t hlt
     have lb4' := hw9 _ rfl
     have hm4 := fun (i : Nat) => cell_of_heap (i := i) (hQ.md b4 lb4 (by show b4 ≠ w2.heap.size; dsimp only at lb4'; omega))
     have z0 := (hm4 (o4 + t * 7)).trans h4.c0
     have z1 := (hm4 _).trans h4.c1
     have z2 := (hm4 _).trans h4.c2
     have z3 := (hm4 _).trans h4.c3
     have z4 := (hm4 _).trans h4.c4
     have z5 := (hm4 _).trans h4.c5
     have z6 := (hm4 _).trans h4.c6
     have hX0 : Qd 1 w3.heap.size w.heap.size w3 w2.heap.size v (corL ws ⟨A0, some ⟨bs, os, none⟩, c0, c1, ri, bo⟩ x most ri.length t t t) (wr.alloc (.cells #[.int .i64 (oAt (outs ws) t).id, .int .i64 (oAt (outs ws) t).into, .slice (oAt (outs ws) t).P (oAt (outs ws) t).ps.length (oAt (outs ws) t).c, .int .i64 (oAt (outs ws) t).kl, .int .i64 (oAt (outs ws) t).kh, .int .i64 (oAt (outs ws) t).sl, .int .i64 (oAt (outs ws) t).sh] 69)).drew := (hQ.alloc _).below ((Below.refl _ _).drew)
     have hmd := fun k (h1 : k < w3.heap.size) (h2 : k ≠ w2.heap.size) => hX0.md k h1 h2
     have s0 : wd w2.heap.size 1 b8 (o8 + t) (w.heap.size + 1) 1 bs (os + t * 2) (os + t * 2 + 1) (v 1) (.int .i64 (hatV ws x t)) (.slice (some ⟨bs, os, none⟩) bo.length c1) (.int .i64 lo) (.int .i64 hi) 0 (wr.alloc (.cells #[.int .i64 (oAt (outs ws) t).id, .int .i64 (oAt (outs ws) t).into, .slice (oAt (outs ws) t).P (oAt (outs ws) t).ps.length (oAt (outs ws) t).c, .int .i64 (oAt (outs ws) t).kl, .int .i64 (oAt (outs ws) t).kh, .int .i64 (oAt (outs ws) t).sl, .int .i64 (oAt (outs ws) t).sh] 69)).drew := hX0.cell 1 (by omega)
     have s1 : wd w2.heap.size 1 b8 (o8 + t) (w.heap.size + 1) 1 bs (os + t * 2) (os + t * 2 + 1) (v 1) (.int .i64 (hatV ws x t)) (.slice (some ⟨bs, os, none⟩) bo.length c1) (.int .i64 lo) (.int .i64 hi) 1 (wr.alloc (.cells #[.int .i64 (oAt (outs ws) t).id, .int .i64 (oAt (outs ws) t).into, .slice (oAt (outs ws) t).P (oAt (outs ws) t).ps.length (oAt (outs ws) t).c, .int .i64 (oAt (outs ws) t).kl, .int .i64 (oAt (outs ws) t).kh, .int .i64 (oAt (outs ws) t).sl, .int .i64 (oAt (outs ws) t).sh] 69)).drew := (cell_of_heap (hmd b8 (by omega) (by omega))).trans k8
     have s2 : wd w2.heap.size 1 b8 (o8 + t) (w.heap.size + 1) 1 bs (os + t * 2) (os + t * 2 + 1) (v 1) (.int .i64 (hatV ws x t)) (.slice (some ⟨bs, os, none⟩) bo.length c1) (.int .i64 lo) (.int .i64 hi) 2 (wr.alloc (.cells #[.int .i64 (oAt (outs ws) t).id, .int .i64 (oAt (outs ws) t).into, .slice (oAt (outs ws) t).P (oAt (outs ws) t).ps.length (oAt (outs ws) t).c, .int .i64 (oAt (outs ws) t).kl, .int .i64 (oAt (outs ws) t).kh, .int .i64 (oAt (outs ws) t).sl, .int .i64 (oAt (outs ws) t).sh] 69)).drew := cr 1 ((hmd _ (by omega) (by omega)).trans hw3)
     have s3 : wd w2.heap.size 1 b8 (o8 + t) (w.heap.size + 1) 1 bs (os + t * 2) (os + t * 2 + 1) (v 1) (.int .i64 (hatV ws x t)) (.slice (some ⟨bs, os, none⟩) bo.length c1) (.int .i64 lo) (.int .i64 hi) 3 (wr.alloc (.cells #[.int .i64 (oAt (outs ws) t).id, .int .i64 (oAt (outs ws) t).into, .slice (oAt (outs ws) t).P (oAt (outs ws) t).ps.length (oAt (outs ws) t).c, .int .i64 (oAt (outs ws) t).kl, .int .i64 (oAt (outs ws) t).kh, .int .i64 (oAt (outs ws) t).sl, .int .i64 (oAt (outs ws) t).sh] 69)).drew := ⟨cell_alloc k0 _, cell_alloc k1 _⟩
     have hbx : Blk (wr.alloc (.cells #[.int .i64 (oAt (outs ws) t).id, .int .i64 (oAt (outs ws) t).into, .slice (oAt (outs ws) t).P (oAt (outs ws) t).ps.length (oAt (outs ws) t).c, .int .i64 (oAt (outs ws) t).kl, .int .i64 (oAt (outs ws) t).kh, .int .i64 (oAt (outs ws) t).sl, .int .i64 (oAt (outs ws) t).sh] 69)).drew wr.heap.size _ _ := blk_new wr #[.int .i64 (oAt (outs ws) t).id, .int .i64 (oAt (outs ws) t).into, .slice (oAt (outs ws) t).P (oAt (outs ws) t).ps.length (oAt (outs ws) t).c, .int .i64 (oAt (outs ws) t).kl, .int .i64 (oAt (outs ws) t).kh, .int .i64 (oAt (outs ws) t).sl, .int .i64 (oAt (outs ws) t).sh] 69 rfl
     have k3 : (wr.alloc (.cells #[.int .i64 (oAt (outs ws) t).id, .int .i64 (oAt (outs ws) t).into, .slice (oAt (outs ws) t).P (oAt (outs ws) t).ps.length (oAt (outs ws) t).c, .int .i64 (oAt (outs ws) t).kl, .int .i64 (oAt (outs ws) t).kh, .int .i64 (oAt (outs ws) t).sl, .int .i64 (oAt (outs ws) t).sh] 69)).drew.cell? ⟨w.heap.size + 1 + 1 + 1, 0, none⟩ = some (.bool most) := cell_row ((hmd _ (by omega) (by omega)).trans hw4)
     have hown : ∀ k, (v 1).ownBlock = some k → w3.heap.size ≤ k ∧ k < wr.heap.size := fun k e => ⟨((hQ.o 1 (by omega) (by omega)).blkIs e).1, ((hQ.o 1 (by omega) (by omega)).blkIs e).2.1⟩
     have hown2 : ∀ k, (v 2).ownBlock = some k → w3.heap.size ≤ k ∧ k < wr.heap.size := fun k e => ⟨((hQ.o 2 (by omega) (by omega)).blkIs e).1, ((hQ.o 2 (by omega) (by omega)).blkIs e).2.1⟩
     have hown3 : ∀ k, (v 3).ownBlock = some k → w3.heap.size ≤ k ∧ k < wr.heap.size := fun k e => ⟨((hQ.o 3 (by omega) (by omega)).blkIs e).1, ((hQ.o 3 (by omega) (by omega)).blkIs e).2.1⟩
     have hltw := hQ.lt
     have hnb : b8 < w2.heap.size ∧ b9 < w2.heap.size ∧ bs < w.heap.size ∧ w.heap.size + 5 ≤ w2.heap.size ∧ w2.heap.size + 1 ≤ w3.heap.size ∧ w3.heap.size ≤ wr.heap.size := ⟨lb8, lb9, lbs, hwC, by omega, hltw⟩
     have HX := hd9 hX0 s0 s1 s3 hbx k3 hown hnb s2
     have HY := hd9 hown2 hown3 k8 k9 hw4 hv0 hnb hlh hlb
     have hl8z : (t : Int) < ((hatS ws x).length : Int) := by omega
     have hl9z : (t : Int) < ((reaS ws x).length : Int) := by omega
     have hlbz : (t : Int) < (bo.length : Int) := by omega
     clear hw1 hw2 hw3 hw4 hw5 hw6 hw7 hw8 hw9 hwA hwB hwC hwD hwE hv0 hQ hbw hlb lbs hcs hsp hlh8 hlh9 lb8 hc8 k8 lb9 hc9 k9 lb4 ho4 h4 lb4' hm4 hX0 hmd s0 s1 s2 s3 hbx k3 hown hown2 hown3 hltw hnb k0 k1
     go_wp2
     refine wp_region_K (by kernel_rfl) (wd w2.heap.size 1 b8 (o8 + t) (w.heap.size + 1) 1 bs (os + t * 2) (os + t * 2 + 1) (v 1) (.int .i64 (hatV ws x t)) (.slice (some ⟨bs, os, none⟩) bo.length c1) (.int .i64 lo) (.int .i64 hi)) (fun j k => match j with | 16 => k != 0 | _ => true) ?_
     generalize (wr.alloc (.cells #[.int .i64 (oAt (outs ws) t).id, .int .i64 (oAt (outs ws) t).into, .slice (oAt (outs ws) t).P (oAt (outs ws) t).ps.length (oAt (outs ws) t).c, .int .i64 (oAt (outs ws) t).kl, .int .i64 (oAt (outs ws) t).kh, .int .i64 (oAt (outs ws) t).sl, .int .i64 (oAt (outs ws) t).sh] 69)).drew = X0 at *
     have s0 := HX.out.2.1
     have s1 := HX.out.2.2.1
     have s2 := HX.out.2.2.2.2.2.2.2.2
     have s3 := HX.out.2.2.2.1
     refine kT 1 0 rfl ?_
     refine kT 0 1 rfl ?_
     refine kT 1 2 rfl ?_
     refine kT 1 3 rfl ?_
     refine kT 1 4 rfl ?_
     refine kT 1 5 rfl ?_
     refine kT 1 6 rfl ?_
     refine kT 1 7 rfl ?_
     refine kT 2 8 rfl ?_
     refine kT 1 9 rfl ?_
     refine kT 1 10 rfl ?_
     refine kT 3 11 rfl ?_
     clear s0 s1 s2 s3
     refine kR 12 rfl fun K hK => ?_
     go_simp
     refine (corner1_any _ _ _ most _ X0 HX.out.2.2.2.2.2.1).mono ?_
     rintro e X1 ⟨rfl, hb⟩
     dsimp only
     refine hK.out _ _ (fun k _ h => wd_below hb k h) ?_
     have hX1 := HX.out.1.below hb
     have hbx1 := (hb.block _ (Array.getElem?_eq_some_iff.1 HX.out.2.2.2.2.1).1).trans HX.out.2.2.2.2.1
     clear hK hb
     refine kR 13 rfl fun K hK => ?_
     go_simp
     refine hK.out _ _ (fun k _ h => wd_below ((Below.refl _ X1).alloc (Nat.le_refl _) _) k h) ?_
     have hX2 := hX1.alloc (.cells #[.int .i64 (endV most (hatV ws x t) (lo, hi))] 3)
     have cn : (X1.alloc (.cells #[.int .i64 (endV most (hatV ws x t) (lo, hi))] 3)).cell? ⟨X1.heap.size, 0, none⟩ = some (.int .i64 (endV most (hatV ws x t) (lo, hi))) := cell_row (blk_new X1 _ _ rfl)
     clear hK
     refine kR 14 rfl fun K hK => ?_
     refine wp_append_int (.tmp 56) (.tmp 68) rfl w3.heap.size (v 1) _ (endV most (hatV ws x t) (lo, hi)) rfl (hX2.o 1 (by omega) (by omega)) (Nat.le_trans (Nat.le_of_eq (show (corL ws ⟨A0, some ⟨bs, os, none⟩, c0, c1, ri, bo⟩ x most ri.length t t t 1).length = t from cBo_length _ _ _ _ _)) (by omega)) _ rfl cn hX2.lt ?_
     intro v' X3 ho hg hb'
     obtain ⟨A', c', rfl⟩ := ho.slice (n := t + 1) (by rw [List.length_append]; exact congrArg (· + 1) (show (corL ws ⟨A0, some ⟨bs, os, none⟩, c0, c1, ri, bo⟩ x most ri.length t t t 1).length = t from cBo_length _ _ _ _ _))
     refine hK.out _ _ (fun k _ h => wd_grown hg (fun e => by have := HX.out.2.2.2.2.2.2.1 _ e.symm; have := HX.out.2.2.2.2.2.2.2; omega) (fun e => by have := HX.out.2.2.2.2.2.2.1 _ e.symm; have := HX.out.2.2.2.2.2.2.2; omega) (fun e => by have := HX.out.2.2.2.2.2.2.1 _ e.symm; have := HX.out.2.2.2.2.2.2.2; omega) (fun e => by have := HX.out.2.2.2.2.2.2.1 _ e.symm; have := HX.out.2.2.2.2.2.2.2; omega) k h) ?_
     have hX3 := hX2.push (i := 1) (by omega) (by omega) hg ho hb'
     have eb : X3.cell? ⟨w2.heap.size, 1, none⟩ = some (v 1) := (cell_of_heap (hX2.keep (i := 1) (by omega) (by omega) hg _ (by have := HX.out.2.2.2.2.2.2.2; omega))).trans (hX2.cell 1 (by omega))
     have fb : X3.frozen? ⟨w2.heap.size, 1, none⟩ = false := blk_frozen ((hX2.keep (i := 1) (by omega) (by omega) hg _ (by have := HX.out.2.2.2.2.2.2.2; omega)).trans hX2.k)
     have hbx3 := (hg.block wr.heap.size (by rw [World.size_alloc]; have := (Array.getElem?_eq_some_iff.1 hbx1).1; omega) (fun e => by have := HX.out.2.2.2.2.2.2.1 _ e.symm; omega)).trans (blk_alloc hbx1 (.cells #[.int .i64 (endV most (hatV ws x t) (lo, hi))] 3))
     have hbx4 : Blk (X3.setCell ⟨w2.heap.size, 1, none⟩ (.slice A' (t + 1) c')) wr.heap.size _ _ := (Below.heap_setCell _ _ _ _ (by have := HX.out.2.2.2.2.2.2.2; show wr.heap.size ≠ w2.heap.size; omega)).trans hbx3
     clear hK hg ho hb' cn hbx1 hbx3
     go_frame
     refine kR 15 rfl fun K hK => ?_
     go_simp
     refine hK.out _ _ (fun k _ h => h) ?_
     clear hK
     refine kR 16 rfl fun K hK => ?_
     go_simp
     refine hK.out _ _ (fun k hk h => wd_set _ (by have := HX.out.2.2.2.2.2.2.2; omega) (by have := HX.out.2.2.2.2.2.2.2; omega) (by have := HX.out.2.2.2.2.2.2.2; omega) k hk h) ?_
     clear hK eb fb
     refine kD ?_
     have hX0 := hX3.below ((Below.refl _ _).drew)
     have s0 : wd w2.heap.size 2 b8 (o8 + t) b8 (o8 + t) wr.heap.size 3 4 (v 2) (.int .i64 (hatV ws x t)) (.int .i64 (hatV ws x t)) (.int .i64 (oAt (outs ws) t).kl) (.int .i64 (oAt (outs ws) t).kh) 0 (X3.setCell ⟨w2.heap.size, 1, none⟩ (.slice A' (t + 1) c')).drew := hX0.cell 2 (by omega)
     have s1 : wd w2.heap.size 2 b8 (o8 + t) b8 (o8 + t) wr.heap.size 3 4 (v 2) (.int .i64 (hatV ws x t)) (.int .i64 (hatV ws x t)) (.int .i64 (oAt (outs ws) t).kl) (.int .i64 (oAt (outs ws) t).kh) 1 (X3.setCell ⟨w2.heap.size, 1, none⟩ (.slice A' (t + 1) c')).drew := (cell_of_heap (hX0.md b8 (by have := HY.out.2.2.2.2.2.2.1; omega) (by have := HY.out.2.2.2.2.2.2.1; omega))).trans HY.out.2.2.1
     have s3 : wd w2.heap.size 2 b8 (o8 + t) b8 (o8 + t) wr.heap.size 3 4 (v 2) (.int .i64 (hatV ws x t)) (.int .i64 (hatV ws x t)) (.int .i64 (oAt (outs ws) t).kl) (.int .i64 (oAt (outs ws) t).kh) 3 (X3.setCell ⟨w2.heap.size, 1, none⟩ (.slice A' (t + 1) c')).drew := ⟨cr 3 hbx4, cr 4 hbx4⟩
     have hbx : Blk (X3.setCell ⟨w2.heap.size, 1, none⟩ (.slice A' (t + 1) c')).drew wr.heap.size _ _ := hbx4
     have k3 : (X3.setCell ⟨w2.heap.size, 1, none⟩ (.slice A' (t + 1) c')).drew.cell? ⟨w.heap.size + 1 + 1 + 1, 0, none⟩ = some (.bool most) := cell_row ((hX0.md _ (by have := HY.out.2.2.2.2.2.2.1; omega) (by have := HY.out.2.2.2.2.2.2.1; omega)).trans HY.out.2.2.2.2.1)
     clear HX
     have HX := hd8 hX0 s0 s1 s3 hbx k3 HY.out.1 HY.out.2.2.2.2.2.2.1
     clear hX3 hbx4 hX0 s0 s1 s3 hbx k3 hX1 hX2
     go_wp2
     refine wp_region_K (by kernel_rfl) (wd w2.heap.size 2 b8 (o8 + t) b8 (o8 + t) wr.heap.size 3 4 (v 2) (.int .i64 (hatV ws x t)) (.int .i64 (hatV ws x t)) (.int .i64 (oAt (outs ws) t).kl) (.int .i64 (oAt (outs ws) t).kh)) (fun j k => match j with | 13 => k != 0 | _ => true) ?_
     generalize (X3.setCell ⟨w2.heap.size, 1, none⟩ (.slice A' (t + 1) c')).drew = X0 at *
     have s0 := HX.out.2.1
     have s1 := HX.out.2.2.1
     have s3 := HX.out.2.2.2.1
     refine kT 1 0 rfl ?_
     refine kT 0 1 rfl ?_
     refine kT 1 2 rfl ?_
     refine kT 1 3 rfl ?_
     refine kT 1 4 rfl ?_
     refine kT 1 5 rfl ?_
     refine kT 1 6 rfl ?_
     refine kT 1 7 rfl ?_
     refine kT 3 8 rfl ?_
     clear s0 s1 s3
     refine kR 9 rfl fun K hK => ?_
     go_simp
     refine (corner1_any _ _ _ most _ X0 HX.out.2.2.2.2.2.1).mono ?_
     rintro e X1 ⟨rfl, hb⟩
     dsimp only
     refine hK.out _ _ (fun k _ h => wd_below hb k h) ?_
     have hX1 := HX.out.1.below hb
     have hbx1 := (hb.block _ (Array.getElem?_eq_some_iff.1 HX.out.2.2.2.2.1).1).trans HX.out.2.2.2.2.1
     clear hK hb
     refine kR 10 rfl fun K hK => ?_
     go_simp
     refine hK.out _ _ (fun k _ h => wd_below ((Below.refl _ X1).alloc (Nat.le_refl _) _) k h) ?_
     have hX2 := hX1.alloc (.cells #[.int .i64 (endV most (hatV ws x t) ((oAt (outs ws) t).kl, (oAt (outs ws) t).kh))] 3)
     have cn : (X1.alloc (.cells #[.int .i64 (endV most (hatV ws x t) ((oAt (outs ws) t).kl, (oAt (outs ws) t).kh))] 3)).cell? ⟨X1.heap.size, 0, none⟩ = some (.int .i64 (endV most (hatV ws x t) ((oAt (outs ws) t).kl, (oAt (outs ws) t).kh))) := cell_row (blk_new X1 _ _ rfl)
     clear hK
     refine kR 11 rfl fun K hK => ?_
     refine wp_append_int (.tmp 72) (.tmp 81) rfl w3.heap.size (v 2) _ (endV most (hatV ws x t) ((oAt (outs ws) t).kl, (oAt (outs ws) t).kh)) rfl (hX2.o 2 (by omega) (by omega)) (Nat.le_trans (Nat.le_of_eq (show (corL ws ⟨A0, some ⟨bs, os, none⟩, c0, c1, ri, bo⟩ x most ri.length t t t 2).length = t from cLk_length _ _ _ _)) (by omega)) _ rfl cn hX2.lt ?_
     intro v' X3 ho hg hb'
     obtain ⟨A', c', rfl⟩ := ho.slice (n := t + 1) (by rw [List.length_append]; exact congrArg (· + 1) (show (corL ws ⟨A0, some ⟨bs, os, none⟩, c0, c1, ri, bo⟩ x most ri.length t t t 2).length = t from cLk_length _ _ _ _))
     refine hK.out _ _ (fun k _ h => wd_grown hg (fun e => by have := HX.out.2.2.2.2.2.2.1 _ e.symm; have := HX.out.2.2.2.2.2.2.2; omega) (fun e => by have := HX.out.2.2.2.2.2.2.1 _ e.symm; have := HX.out.2.2.2.2.2.2.2; omega) (fun e => by have := HX.out.2.2.2.2.2.2.1 _ e.symm; have := HX.out.2.2.2.2.2.2.2; omega) (fun e => by have := HX.out.2.2.2.2.2.2.1 _ e.symm; have := HX.out.2.2.2.2.2.2.2; omega) k h) ?_
     have hX3 := hX2.push (i := 2) (by omega) (by omega) hg ho hb'
     have eb : X3.cell? ⟨w2.heap.size, 2, none⟩ = some (v 2) := (cell_of_heap (hX2.keep (i := 2) (by omega) (by omega) hg _ (by have := HX.out.2.2.2.2.2.2.2; omega))).trans (hX2.cell 2 (by omega))
     have fb : X3.frozen? ⟨w2.heap.size, 2, none⟩ = false := blk_frozen ((hX2.keep (i := 2) (by omega) (by omega) hg _ (by have := HX.out.2.2.2.2.2.2.2; omega)).trans hX2.k)
     have hbx3 := (hg.block wr.heap.size (by rw [World.size_alloc]; have := (Array.getElem?_eq_some_iff.1 hbx1).1; omega) (fun e => by have := HX.out.2.2.2.2.2.2.1 _ e.symm; omega)).trans (blk_alloc hbx1 (.cells #[.int .i64 (endV most (hatV ws x t) ((oAt (outs ws) t).kl, (oAt (outs ws) t).kh))] 3))
     have hbx4 : Blk (X3.setCell ⟨w2.heap.size, 2, none⟩ (.slice A' (t + 1) c')) wr.heap.size _ _ := (Below.heap_setCell _ _ _ _ (by have := HX.out.2.2.2.2.2.2.2; show wr.heap.size ≠ w2.heap.size; omega)).trans hbx3
     clear hK hg ho hb' cn hbx1 hbx3
     go_frame
     refine kR 12 rfl fun K hK => ?_
     go_simp
     refine hK.out _ _ (fun k _ h => h) ?_
     clear hK
     refine kR 13 rfl fun K hK => ?_
     go_simp
     refine hK.out _ _ (fun k hk h => wd_set _ (by have := HX.out.2.2.2.2.2.2.2; omega) (by have := HX.out.2.2.2.2.2.2.2; omega) (by have := HX.out.2.2.2.2.2.2.2; omega) k hk h) ?_
     clear hK eb fb
     refine kD ?_
     have hX0 := hX3.below ((Below.refl _ _).drew)
     have s0 : wd w2.heap.size 3 b9 (o9 + t) b9 (o9 + t) wr.heap.size 5 6 (v 3) (.int .i64 (reaV ws x t)) (.int .i64 (reaV ws x t)) (.int .i64 (oAt (outs ws) t).sl) (.int .i64 (oAt (outs ws) t).sh) 0 (X3.setCell ⟨w2.heap.size, 2, none⟩ (.slice A' (t + 1) c')).drew := hX0.cell 3 (by omega)
     have s1 : wd w2.heap.size 3 b9 (o9 + t) b9 (o9 + t) wr.heap.size 5 6 (v 3) (.int .i64 (reaV ws x t)) (.int .i64 (reaV ws x t)) (.int .i64 (oAt (outs ws) t).sl) (.int .i64 (oAt (outs ws) t).sh) 1 (X3.setCell ⟨w2.heap.size, 2, none⟩ (.slice A' (t + 1) c')).drew := (cell_of_heap (hX0.md b9 (by have := HY.out.2.2.2.2.2.2.1; omega) (by have := HY.out.2.2.2.2.2.2.1; omega))).trans HY.out.2.2.2.1
     have s3 : wd w2.heap.size 3 b9 (o9 + t) b9 (o9 + t) wr.heap.size 5 6 (v 3) (.int .i64 (reaV ws x t)) (.int .i64 (reaV ws x t)) (.int .i64 (oAt (outs ws) t).sl) (.int .i64 (oAt (outs ws) t).sh) 3 (X3.setCell ⟨w2.heap.size, 2, none⟩ (.slice A' (t + 1) c')).drew := ⟨cr 5 hbx4, cr 6 hbx4⟩
     have hbx : Blk (X3.setCell ⟨w2.heap.size, 2, none⟩ (.slice A' (t + 1) c')).drew wr.heap.size _ _ := hbx4
     have k3 : (X3.setCell ⟨w2.heap.size, 2, none⟩ (.slice A' (t + 1) c')).drew.cell? ⟨w.heap.size + 1 + 1 + 1, 0, none⟩ = some (.bool most) := cell_row ((hX0.md _ (by have := HY.out.2.2.2.2.2.2.1; omega) (by have := HY.out.2.2.2.2.2.2.1; omega)).trans HY.out.2.2.2.2.1)
     clear HX
     have HX := hd8 hX0 s0 s1 s3 hbx k3 HY.out.2.1 HY.out.2.2.2.2.2.2.1
     clear hX3 hbx4 hX0 s0 s1 s3 hbx k3 hX1 hX2
     go_wp2
     refine wp_region_K (by kernel_rfl) (wd w2.heap.size 3 b9 (o9 + t) b9 (o9 + t) wr.heap.size 5 6 (v 3) (.int .i64 (reaV ws x t)) (.int .i64 (reaV ws x t)) (.int .i64 (oAt (outs ws) t).sl) (.int .i64 (oAt (outs ws) t).sh)) (fun j k => match j with | 13 => k != 0 | _ => true) ?_
     generalize (X3.setCell ⟨w2.heap.size, 2, none⟩ (.slice A' (t + 1) c')).drew = X0 at *
     have s0 := HX.out.2.1
     have s1 := HX.out.2.2.1
     have s3 := HX.out.2.2.2.1
     refine kT 1 0 rfl ?_
     refine kT 0 1 rfl ?_
     refine kT 1 2 rfl ?_
     refine kT 1 3 rfl ?_
     refine kT 1 4 rfl ?_
     refine kT 1 5 rfl ?_
     refine kT 1 6 rfl ?_
     refine kT 1 7 rfl ?_
     refine kT 3 8 rfl ?_
     clear s0 s1 s3
     refine kR 9 rfl fun K hK => ?_
     go_simp
     refine (corner1_any _ _ _ most _ X0 HX.out.2.2.2.2.2.1).mono ?_
     rintro e X1 ⟨rfl, hb⟩
     dsimp only
     refine hK.out _ _ (fun k _ h => wd_below hb k h) ?_
     have hX1 := HX.out.1.below hb
     have hbx1 := (hb.block _ (Array.getElem?_eq_some_iff.1 HX.out.2.2.2.2.1).1).trans HX.out.2.2.2.2.1
     clear hK hb
     refine kR 10 rfl fun K hK => ?_
     go_simp
     refine hK.out _ _ (fun k _ h => wd_below ((Below.refl _ X1).alloc (Nat.le_refl _) _) k h) ?_
     have hX2 := hX1.alloc (.cells #[.int .i64 (endV most (reaV ws x t) ((oAt (outs ws) t).sl, (oAt (outs ws) t).sh))] 3)
     have cn : (X1.alloc (.cells #[.int .i64 (endV most (reaV ws x t) ((oAt (outs ws) t).sl, (oAt (outs ws) t).sh))] 3)).cell? ⟨X1.heap.size, 0, none⟩ = some (.int .i64 (endV most (reaV ws x t) ((oAt (outs ws) t).sl, (oAt (outs ws) t).sh))) := cell_row (blk_new X1 _ _ rfl)
     clear hK
     refine kR 11 rfl fun K hK => ?_
     refine wp_append_int (.tmp 85) (.tmp 94) rfl w3.heap.size (v 3) _ (endV most (reaV ws x t) ((oAt (outs ws) t).sl, (oAt (outs ws) t).sh)) rfl (hX2.o 3 (by omega) (by omega)) (Nat.le_trans (Nat.le_of_eq (show (corL ws ⟨A0, some ⟨bs, os, none⟩, c0, c1, ri, bo⟩ x most ri.length t t t 3).length = t from cLo_length _ _ _ _)) (by omega)) _ rfl cn hX2.lt ?_
     intro v' X3 ho hg hb'
     obtain ⟨A', c', rfl⟩ := ho.slice (n := t + 1) (by rw [List.length_append]; exact congrArg (· + 1) (show (corL ws ⟨A0, some ⟨bs, os, none⟩, c0, c1, ri, bo⟩ x most ri.length t t t 3).length = t from cLo_length _ _ _ _))
     refine hK.out _ _ (fun k _ h => wd_grown hg (fun e => by have := HX.out.2.2.2.2.2.2.1 _ e.symm; have := HX.out.2.2.2.2.2.2.2; omega) (fun e => by have := HX.out.2.2.2.2.2.2.1 _ e.symm; have := HX.out.2.2.2.2.2.2.2; omega) (fun e => by have := HX.out.2.2.2.2.2.2.1 _ e.symm; have := HX.out.2.2.2.2.2.2.2; omega) (fun e => by have := HX.out.2.2.2.2.2.2.1 _ e.symm; have := HX.out.2.2.2.2.2.2.2; omega) k h) ?_
     have hX3 := hX2.push (i := 3) (by omega) (by omega) hg ho hb'
     have eb : X3.cell? ⟨w2.heap.size, 3, none⟩ = some (v 3) := (cell_of_heap (hX2.keep (i := 3) (by omega) (by omega) hg _ (by have := HX.out.2.2.2.2.2.2.2; omega))).trans (hX2.cell 3 (by omega))
     have fb : X3.frozen? ⟨w2.heap.size, 3, none⟩ = false := blk_frozen ((hX2.keep (i := 3) (by omega) (by omega) hg _ (by have := HX.out.2.2.2.2.2.2.2; omega)).trans hX2.k)
     have hbx3 := (hg.block wr.heap.size (by rw [World.size_alloc]; have := (Array.getElem?_eq_some_iff.1 hbx1).1; omega) (fun e => by have := HX.out.2.2.2.2.2.2.1 _ e.symm; omega)).trans (blk_alloc hbx1 (.cells #[.int .i64 (endV most (reaV ws x t) ((oAt (outs ws) t).sl, (oAt (outs ws) t).sh))] 3))
     have hbx4 : Blk (X3.setCell ⟨w2.heap.size, 3, none⟩ (.slice A' (t + 1) c')) wr.heap.size _ _ := (Below.heap_setCell _ _ _ _ (by have := HX.out.2.2.2.2.2.2.2; show wr.heap.size ≠ w2.heap.size; omega)).trans hbx3
     clear hK hg ho hb' cn hbx1 hbx3
     go_frame
     refine kR 12 rfl fun K hK => ?_
     go_simp
     refine hK.out _ _ (fun k _ h => h) ?_
     clear hK
     refine kR 13 rfl fun K hK => ?_
     go_simp
     refine hK.out _ _ (fun k hk h => wd_set _ (by have := HX.out.2.2.2.2.2.2.2; omega) (by have := HX.out.2.2.2.2.2.2.2; omega) (by have := HX.out.2.2.2.2.2.2.2; omega) k hk h) ?_
     clear hK eb fb
     refine kD ?_
     have HF := Lib.hid hX3
     clear hX1 hX2 hX3 hbx4
     go_wp2
     go_roundg ((outs ws).length - (t + 1))
     case measure => omega
     case rel => exact ⟨t + 1, by omega, by omega, by go_num, _, (by rw [putA_ne _ _ (show (0 : Nat) ≠ 3 by decide), putA_ne _ _ (show (0 : Nat) ≠ 2 by decide), putA_ne _ _ (show (0 : Nat) ≠ 1 by decide)]; exact HY.out.2.2.2.2.2.1), HF.out.congr (fun i hd hj => match i, hd, hj with
      | 1, _, _ => (by rw [putA_ne _ _ (show (1 : Nat) ≠ 3 by decide), putA_ne _ _ (show (1 : Nat) ≠ 2 by decide), putA_same]; exact (show cBo ws ⟨A0, some ⟨bs, os, none⟩, c0, c1, ri, bo⟩ x most t ++ [endV most (hatV ws x t) (lo, hi)] = cBo ws ⟨A0, some ⟨bs, os, none⟩, c0, c1, ri, bo⟩ x most (t + 1) from by rw [cBo_succ, show sAt (Cs.bo ⟨A0, some ⟨bs, os, none⟩, c0, c1, ri, bo⟩) t = _ from hlh]))
      | 2, _, _ => (by rw [putA_ne _ _ (show (2 : Nat) ≠ 3 by decide), putA_same, putA_ne _ _ (show (2 : Nat) ≠ 1 by decide)]; exact (cLk_succ ws x most t).symm)
      | 3, _, _ => (by rw [putA_same, putA_ne _ _ (show (3 : Nat) ≠ 2 by decide), putA_ne _ _ (show (3 : Nat) ≠ 1 by decide)]; exact (cLo_succ ws x most t).symm))⟩
    ·have hltz : ¬ (t : Int) < ((outs ws).length : Int) := by omega
     obtain rfl : t = (outs ws).length := by omega
     obtain ⟨hw1, hw2, hw3, hw4, hw5, hw6, hw7, hw8, hw9, hwA, hwB, hwC, hwD, hwE⟩ := HT2.out
     obtain ⟨hv0, hQ⟩ := HA.out
     have hlb : bo.length = (outs ws).length := HC.out.2.2.l1
     obtain ⟨B1, d1', e1, rd1, fr1⟩ := (hQ.o 1 (by omega) (by omega)).rd
     obtain ⟨B2, d2', e2, rd2, fr2⟩ := (hQ.o 2 (by omega) (by omega)).rd
     obtain ⟨B3, d3', e3, rd3, fr3⟩ := (hQ.o 3 (by omega) (by omega)).rd
     have j1 : wr.cell? ⟨w2.heap.size, 0, none⟩ = some (.slice B0 ri.length d0') := (hQ.cell 0 (by omega)).trans (by rw [hv0])
     rw [show (corL ws ⟨A0, A1, c0, c1, ri, bo⟩ x most ri.length (outs ws).length (outs ws).length (outs ws).length 1) = cBo ws ⟨A0, A1, c0, c1, ri, bo⟩ x most (outs ws).length from rfl] at e1 rd1
     rw [show (corL ws ⟨A0, A1, c0, c1, ri, bo⟩ x most ri.length (outs ws).length (outs ws).length (outs ws).length 2) = cLk ws x most (outs ws).length from rfl] at e2 rd2
     rw [show (corL ws ⟨A0, A1, c0, c1, ri, bo⟩ x most ri.length (outs ws).length (outs ws).length (outs ws).length 3) = cLo ws x most (outs ws).length from rfl] at e3 rd3
     rw [cBo_length] at e1
     rw [cLk_length] at e2
     rw [cLo_length] at e3
     have j2 : wr.cell? ⟨w2.heap.size, 1, none⟩ = some _ := (hQ.cell 1 (by omega)).trans (by rw [e1])
     have j3 : wr.cell? ⟨w2.heap.size, 2, none⟩ = some _ := (hQ.cell 2 (by omega)).trans (by rw [e2])
     have j4 : wr.cell? ⟨w2.heap.size, 3, none⟩ = some _ := (hQ.cell 3 (by omega)).trans (by rw [e3])
     have q5 := (hQ.md _ (by omega) (by omega)).trans hw5
     have g0 := cr 0 q5
     have g1 := cr 1 q5
     have g2 := cr 2 q5
     have g3 := cr 3 q5
     have x0 := bf 0 q5
     have x1 := bf 1 q5
     have x2 := bf 2 q5
     have x3 := bf 3 q5
     have HE := hd8 q5 rd1 rd2 rd3 fr1 fr2 fr3 hQ
     clear hw1 hw2 hw3 hw4 hw5 hw6 hw7 hw8 hw9 hwA hwB hwC hwD hwE hv0 hQ hlb e1 e2 e3 rd1 rd2 rd3 fr1 fr2 fr3 q5
     go_wp2
     have HF : Hid (Blk ((((wr.setCell ⟨w.heap.size + 1 + 1 + 1 + 1, 0, none⟩ (Value.slice B0 ri.length d0')).setCell ⟨w.heap.size + 1 + 1 + 1 + 1, 1, none⟩ (Value.slice B1 (outs ws).length d1')).setCell ⟨w.heap.size + 1 + 1 + 1 + 1, 2, none⟩ (Value.slice B2 (outs ws).length d2')).setCell ⟨w.heap.size + 1 + 1 + 1 + 1, 3, none⟩ (Value.slice B3 (outs ws).length d3')) (w.heap.size + 1 + 1 + 1 + 1) #[.slice B0 ri.length d0', .slice B1 (outs ws).length d1', .slice B2 (outs ws).length d2', .slice B3 (outs ws).length d3'] 30 ∧ (∀ k, k ≠ w.heap.size + 1 + 1 + 1 + 1 → ((((wr.setCell ⟨w.heap.size + 1 + 1 + 1 + 1, 0, none⟩ (Value.slice B0 ri.length d0')).setCell ⟨w.heap.size + 1 + 1 + 1 + 1, 1, none⟩ (Value.slice B1 (outs ws).length d1')).setCell ⟨w.heap.size + 1 + 1 + 1 + 1, 2, none⟩ (Value.slice B2 (outs ws).length d2')).setCell ⟨w.heap.size + 1 + 1 + 1 + 1, 3, none⟩ (Value.slice B3 (outs ws).length d3')).heap[k]? = wr.heap[k]?) ∧ ((((wr.setCell ⟨w.heap.size + 1 + 1 + 1 + 1, 0, none⟩ (Value.slice B0 ri.length d0')).setCell ⟨w.heap.size + 1 + 1 + 1 + 1, 1, none⟩ (Value.slice B1 (outs ws).length d1')).setCell ⟨w.heap.size + 1 + 1 + 1 + 1, 2, none⟩ (Value.slice B2 (outs ws).length d2')).setCell ⟨w.heap.size + 1 + 1 + 1 + 1, 3, none⟩ (Value.slice B3 (outs ws).length d3')).heap.size = wr.heap.size ∧ Below w.heap.size w ((((wr.setCell ⟨w.heap.size + 1 + 1 + 1 + 1, 0, none⟩ (Value.slice B0 ri.length d0')).setCell ⟨w.heap.size + 1 + 1 + 1 + 1, 1, none⟩ (Value.slice B1 (outs ws).length d1')).setCell ⟨w.heap.size + 1 + 1 + 1 + 1, 2, none⟩ (Value.slice B2 (outs ws).length d2')).setCell ⟨w.heap.size + 1 + 1 + 1 + 1, 3, none⟩ (Value.slice B3 (outs ws).length d3'))) := by
      have hbl := HT2.out.2.1.trans HE.out.2.2.2.2.2.2.2.bl
      have le4 : w.heap.size ≤ w.heap.size + 1 + 1 + 1 + 1 := by omega
      refine Lib.hid ⟨heap_setCell_same _ _ 3 _ _ _ (heap_setCell_same _ _ 2 _ _ _ (heap_setCell_same _ _ 1 _ _ _ (heap_setCell_same _ _ 0 _ _ _ HE.out.1))), fun k hk => ?_, by simp only [World.size_setCell], (((hbl.setCell (p := ⟨w.heap.size + 1 + 1 + 1 + 1, 0, none⟩) le4 _).setCell (p := ⟨w.heap.size + 1 + 1 + 1 + 1, 1, none⟩) le4 _).setCell (p := ⟨w.heap.size + 1 + 1 + 1 + 1, 2, none⟩) le4 _).setCell (p := ⟨w.heap.size + 1 + 1 + 1 + 1, 3, none⟩) le4 _⟩
      rw [Below.heap_setCell _ _ _ _ (by exact hk), Below.heap_setCell _ _ _ _ (by exact hk), Below.heap_setCell _ _ _ _ (by exact hk), Below.heap_setCell _ _ _ _ (by exact hk)]
     generalize ((((wr.setCell ⟨w.heap.size + 1 + 1 + 1 + 1, 0, none⟩ (Value.slice B0 ri.length d0')).setCell ⟨w.heap.size + 1 + 1 + 1 + 1, 1, none⟩ (Value.slice B1 (outs ws).length d1')).setCell ⟨w.heap.size + 1 + 1 + 1 + 1, 2, none⟩ (Value.slice B2 (outs ws).length d2')).setCell ⟨w.heap.size + 1 + 1 + 1 + 1, 3, none⟩ (Value.slice B3 (outs ws).length d3')) = WF at *
     obtain ⟨qF, oth, hsF, hbF⟩ := HF.out
     obtain ⟨q5, rd1, rd2, rd3, fr1, fr2, fr3, hQ⟩ := HE.out
     obtain ⟨hw1, hw2, hw3, hw4, hw5, hw6, hw7, hw8, hw9, rd0, fr0, hwC, hwD, hwE⟩ := HT2.out
     have t0 : WF.cell? ⟨w.heap.size + 1 + 1 + 1 + 1, 0, none⟩ = some _ := cell_row qF
     have t1 : WF.cell? ⟨w.heap.size + 1 + 1 + 1 + 1, 1, none⟩ = some _ := cell_row qF
     have t2 : WF.cell? ⟨w.heap.size + 1 + 1 + 1 + 1, 2, none⟩ = some _ := cell_row qF
     have t3 : WF.cell? ⟨w.heap.size + 1 + 1 + 1 + 1, 3, none⟩ = some _ := cell_row qF
     have mv : ∀ {B : Option Addr} {xs : List Int}, Rd wr wr.heap.size B xs → Fresh w3.heap.size B → Rd WF WF.heap.size B xs := fun {B xs} h1 h2 hn => by
      obtain ⟨b, off, e, hl, hc⟩ := h1 hn
      have := h2 _ e
      dsimp only at this
      exact ⟨b, off, e, by omega, fun i hi => (cell_of_heap (oth b (by omega))).trans (hc i hi)⟩
     have r0 : Rd WF WF.heap.size B0 (cRi ws ⟨A0, A1, c0, c1, ri, bo⟩ x most ri.length) := fun hn => by
      obtain ⟨b, off, e, hl, hc⟩ := rd0 hn
      have := fr0 _ e
      dsimp only at this
      exact ⟨b, off, e, by have := hQ.lt; omega, fun i hi => (cell_of_heap ((oth b (by omega)).trans (hQ.md b hl (by omega)))).trans (hc i hi)⟩
     have hN6 := HN.out.1
     exact bodyPost_ret (v := .agg #[.slice B0 ri.length d0', .slice B1 (outs ws).length d1', .slice B2 (outs ws).length d2', .slice B3 (outs ws).length d3']) (by simp [results, Tryz.results69, go_sem, t0, t1, t2, t3]) rfl
      ⟨⟨B0, B1, B2, B3, d0', d1', d2', d3', cRi ws ⟨A0, A1, c0, c1, ri, bo⟩ x most ri.length, cBo ws ⟨A0, A1, c0, c1, ri, bo⟩ x most (outs ws).length, cLk ws x most (outs ws).length, cLo ws x most (outs ws).length⟩,
       by unfold Wt.v; dsimp only; rw [cRi_length, cBo_length, cLk_length, cLo_length],
       ⟨r0, mv rd1 fr1, mv rd2 fr2, mv rd3 fr3, by dsimp only; rw [cRi_length]; omega, by dsimp only; rw [cBo_length]; omega, by dsimp only; rw [cLk_length]; omega, by dsimp only; rw [cLo_length]; omega⟩, ⟨rfl, rfl, rfl, rfl⟩,
       fr0.mono (by omega), fr1.mono (by omega), fr2.mono (by omega), fr3.mono (by omega), hbF⟩
end Go.Proofs.YtegmniphgahblaaGreat
