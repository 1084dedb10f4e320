/- Words: runs; what a course gives. -/
import Derived.Test.YtdadoelajhemjaaQ2
import Derived.Test.YtdadoelajhemjaaM12
namespace Go.Proofs.Ytdadoelajhemjaa
open Go.RowKit

/-- A run, as it reads. -/
structure Rn where
 m : Int
 s : Wt
instance : Inhabited Rn := ⟨⟨0, noW⟩⟩
def rAt (l : List Rn) (i : Nat) : Rn := l.getD i default
theorem rAt_mem {l : List Rn} {i : Nat} (h : i < l.length) : rAt l i ∈ l := by
 unfold rAt
 rw [List.getD_eq_getElem?_getD, List.getElem?_eq_getElem h]
 exact List.getElem_mem h
/-- The five cells of a run, and its lists. -/
structure RnAt (w : World) (b off : Nat) (r : Rn) : Prop where
 c0 : w.cell? ⟨b, off, none⟩ = some (.int .i64 r.m)
 c1 : w.cell? ⟨b, off + 1, none⟩ = some (.slice r.s.A0 r.s.ri.length r.s.c0)
 c2 : w.cell? ⟨b, off + 1 + 1, none⟩ = some (.slice r.s.A1 r.s.bo.length r.s.c1)
 c3 : w.cell? ⟨b, off + 1 + 2, none⟩ = some (.slice r.s.A2 r.s.lk.length r.s.c2)
 c4 : w.cell? ⟨b, off + 1 + 3, none⟩ = some (.slice r.s.A3 r.s.lo.length r.s.c3)
 wt : Wet w r.s
theorem RnAt.ext {w w' : World} {b off : Nat} {r : Rn} (h : RnAt w b off r) (hb : Below w.heap.size w w') : RnAt w' b off r :=
 ⟨cell_below hb h.c0, cell_below hb h.c1, cell_below hb h.c2, cell_below hb h.c3, cell_below hb h.c4, h.wt.ext hb⟩
/-- A slice of runs. -/
def RdR (w : World) (A : Option Addr) (l : List Rn) : Prop := 0 < l.length → ∃ b off, A = some ⟨b, off, none⟩ ∧ ∀ i, i < l.length → RnAt w b (off + i * 5) (rAt l i)
theorem RdR.ext {w w' : World} {A : Option Addr} {l : List Rn} (h : RdR w A l) (hb : Below w.heap.size w w') : RdR w' A l := fun hn => by
 obtain ⟨b, off, e, hc⟩ := h hn
 exact ⟨b, off, e, fun i hi => (hc i hi).ext hb⟩
theorem stays_rdr {W : World} {A : Option Addr} {l : List Rn} (h : RdR W A l) : Stays (fun X => RdR X A l) W := ⟨h, fun _ _ a b => a.ext b⟩

/-- The error of a run; the first one of some runs. -/
def runE (ws : List Car) (r : Rn) : Int := if withinB r.m 1 1048576 = true then waterE ws r.s else 1
def runsE (ws : List Car) : List Rn → Int
 | [] => 0
 | r :: l => if runE ws r = 0 then runsE ws l else runE ws r
theorem runsE_zero {ws : List Car} : ∀ {l : List Rn}, runsE ws l = 0 ↔ ∀ r ∈ l, runE ws r = 0
 | [] => by simp [runsE]
 | r :: l => by
  unfold runsE
  by_cases h : runE ws r = 0
  ·rw [if_pos h, runsE_zero]
   simp [h]
  ·rw [if_neg h]
   simp [h]
theorem runsE_first {ws : List Car} : ∀ {l : List Rn} {t : Nat}, t < l.length → (∀ j, j < t → runE ws (rAt l j) = 0) → runE ws (rAt l t) ≠ 0 → runsE ws l = runE ws (rAt l t)
 | [], _, h, _, _ => absurd h (by simp)
 | r :: l, 0, _, _, h => by
  have h' : runE ws r ≠ 0 := h
  unfold runsE
  rw [if_neg h']
  rfl
 | r :: l, t + 1, ht, h0, h => by
  have h1 : runE ws r = 0 := h0 0 (by omega)
  unfold runsE
  rw [if_pos h1]
  exact runsE_first (l := l) (by simpa using ht) (fun j hj => h0 (j + 1) (by omega)) h
/-- What the first t runs give an outlet. -/
def drkTo (ws : List Car) (l : List Rn) : Nat → Nat → Int
 | 0, _ => 0
 | t + 1, i => drkTo ws l t i + (rAt l t).m * flowF ws (rAt l t).s i
def drkE (ws : List Car) (l : List Rn) : Int := if checkE ws = 0 then (if 60 < l.length then 2 else runsE ws l) else checkE ws
def drkL (ws : List Car) (l : List Rn) : List Int := if drkE ws l = 0 then (List.range (outs ws).length).map (drkTo ws l l.length) else []
theorem drk_zero {ws : List Car} {l : List Rn} (h : drkE ws l = 0) : Good ws ∧ l.length ≤ 60 ∧ ∀ r ∈ l, runE ws r = 0 := by
 unfold drkE at h
 by_cases h0 : checkE ws = 0
 ·rw [if_pos h0] at h
  by_cases h1 : 60 < l.length
  ·rw [if_pos h1] at h; cases h
  ·rw [if_neg h1] at h
   exact ⟨good_of_check h0, by omega, runsE_zero.1 h⟩
 ·rw [if_neg h0] at h; exact absurd h h0
theorem run_zero {ws : List Car} {r : Rn} (h : runE ws r = 0) : 1 ≤ r.m ∧ r.m ≤ 1048576 ∧ waterE ws r.s = 0 := by
 unfold runE at h
 by_cases h0 : withinB r.m 1 1048576 = true
 ·rw [if_pos h0] at h
  have := within_iff.1 h0
  exact ⟨this.1, this.2, h⟩
 ·rw [if_neg h0] at h; cases h
theorem flow_max {ws : List Car} {s : Wt} (g : Good ws) (ok : Ok ws s) {x : Nat} (hx : x < (outs ws).length) : 0 ≤ flowF ws s x ∧ flowF ws s x ≤ 1048576 := by
 have hB := flow_bounds g ok (firsts (outs ws).length x)
 have hv := step_vals g ok hB hx
 have ht := hB.t _ (g.fine hx).ca
 have e : flowF ws s x = thrOf ws s (flowL ws s (firsts (outs ws).length x)) (caAt ws x) x := through_eq g hx
 omega
theorem mul_max {m x : Int} (h1 : 1 ≤ m) (h2 : m ≤ 1048576) (h3 : 0 ≤ x) (h4 : x ≤ 1048576) : 0 ≤ m * x ∧ m * x ≤ 1099511627776 :=
 ⟨Int.mul_nonneg (by omega) h3, Int.le_trans (Int.mul_le_mul h2 h4 h3 (by omega)) (by decide)⟩
theorem drkTo_max {ws : List Car} {l : List Rn} (g : Good ws) {x : Nat} (hx : x < (outs ws).length) : ∀ {t : Nat}, (∀ j, j < t → runE ws (rAt l j) = 0) → 0 ≤ drkTo ws l t x ∧ drkTo ws l t x ≤ t * 1099511627776
 | 0, _ => by simp [drkTo]
 | t + 1, h => by
  have h1 := drkTo_max (l := l) g hx (t := t) (fun j hj => h j (by omega))
  obtain ⟨m1, m2, hw⟩ := run_zero (h t (by omega))
  have hf := flow_max g (ok_of_water hw) hx
  have hm := mul_max m1 m2 hf.1 hf.2
  unfold drkTo
  omega
/-- n zeros that were made. -/
theorem made_zero {w : World} {B g n : Nat} (hown : w.ownsRow B 3 1 (.slice (some ⟨g, 0, none⟩) n n) n (madeCells (Value.int .i64 0).cells (n * 1)).toList) : IntF w g n (fun _ => 0) ∧ B ≤ g ∧ g < w.heap.size := by
 rcases hown.2 with ⟨e, hn⟩ | ⟨g', cap, cur, e, hbg, hg2, _⟩
 ·cases e
 ·cases e
  exact ⟨⟨fun j hj => by
   have h1 := World.ownsRow.cells hown (g := g) rfl j (.int .i64 0) (by simp [madeCells, Value.cells, hj, Nat.mod_one])
   rw [add_eq, Nat.zero_add] at h1
   exact h1, fun o => by simp [World.frozen?, hg2]⟩, hbg, (Array.getElem?_eq_some_iff.1 hg2).1⟩
theorem IntF.congr {w : World} {g n : Nat} {f f' : Nat → Int} (h : IntF w g n f) (e : ∀ j, j < n → f j = f' j) : IntF w g n f' := ⟨fun j hj => e j hj ▸ h.at_ j hj, h.fz⟩
end Go.Proofs.Ytdadoelajhemjaa
