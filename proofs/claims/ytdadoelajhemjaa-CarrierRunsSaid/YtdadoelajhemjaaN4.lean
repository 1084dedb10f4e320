/- Runs that come in: opened; law.runs. -/
import Derived.Test.YtdadoelajhemjaaN1
import Derived.Test.YtdadoelajhemjaaL1
namespace Go.Proofs.Ytdadoelajhemjaa
open Go.ChangeShapes Go.WideShapes Go.ChangeAt Go.RowKit Go.Shelf

/-- The five cells of a run that came in. -/
structure RnIn (w : World) (b off : Nat) (r : Rn) : Prop where
 c0 : w.cell? ⟨b, off, none⟩ = some (.int .i64 r.m)
 c1 : w.cell? ⟨b, off + 1, none⟩ = some (.slice r.s.A0 r.s.ri.length r.s.c0)
 c2 : w.cell? ⟨b, off + 1 + 1, none⟩ = some (.slice r.s.A1 r.s.bo.length r.s.c1)
 c3 : w.cell? ⟨b, off + 1 + 2, none⟩ = some (.slice r.s.A2 r.s.lk.length r.s.c2)
 c4 : w.cell? ⟨b, off + 1 + 3, none⟩ = some (.slice r.s.A3 r.s.lo.length r.s.c3)
 wt : WtIn w r.s
theorem RnIn.ext {w w' : World} {b off : Nat} {r : Rn} (h : RnIn w b off r) (hb : Below w.heap.size w w') : RnIn w' b off r :=
 ⟨cell_below hb h.c0, cell_below hb h.c1, cell_below hb h.c2, cell_below hb h.c3, cell_below hb h.c4, h.wt.ext hb⟩
def RnsIn (w : World) (A : Option Addr) (l : List Rn) : Prop := l.length ≤ maxLen ∧ (0 < l.length → ∃ b off, A = some ⟨b, off, none⟩ ∧ ∀ i, i < l.length → RnIn w b (off + i * 5) (rAt l i))
theorem RnsIn.ext {w w' : World} {A : Option Addr} {l : List Rn} (h : RnsIn w A l) (hb : Below w.heap.size w w') : RnsIn w' A l := ⟨h.1, fun hn => by
 obtain ⟨b, off, e, hc⟩ := h.2 hn
 exact ⟨b, off, e, fun i hi => (hc i hi).ext hb⟩⟩
theorem stays_rnsIn {W : World} {A : Option Addr} {l : List Rn} (h : RnsIn W A l) : Stays (fun X => RnsIn X A l) W := ⟨h, fun _ _ a b => a.ext b⟩

theorem cells_ru : Try.prog.cellsOf 76 = 5 := by kernel_rfl
section
variable {H : Type} {enc : TypeId × Value → H} {w : World} {sp : Nat → Bool} {held : Bool}
set_option maxRecDepth 100000 in
theorem open_run {fuel : Nat} {cs : List Value} {y : DataW H × List MemPlace} (h : DataW.trod enc Try.prog w 0 sp held fuel 76 cs = some y) :
  ∃ r : Rn, cs = [.int .i64 r.m, .slice r.s.A0 r.s.ri.length r.s.c0, .slice r.s.A1 r.s.bo.length r.s.c1, .slice r.s.A2 r.s.lk.length r.s.c2, .slice r.s.A3 r.s.lo.length r.s.c3] ∧ WtIn w r.s := by
 obtain ⟨xs, n, _, _, hl, hx, hf⟩ := DataW.trod_struct Try.underlying76 h
 obtain ⟨a, b, c, d, e, rfl⟩ := list5 (hl.trans cells_ru)
 obtain ⟨y0, y1, rfl⟩ := list2 hx
 have k0 : DataW.trod enc Try.prog w 0 sp held n 3 [a] = some y0 := by simpa [cells_in] using hf 0 _ rfl
 have k1 : DataW.trod enc Try.prog w 0 sp held n 27 [b, c, d, e] = some y1 := by simpa [cells_wa] using hf 1 _ rfl
 obtain ⟨a, e0, _, _⟩ := DataW.trod_int Try.underlying3 k0
 simp only [List.cons.injEq, and_true] at e0
 subst e0
 obtain ⟨s, hs, hw⟩ := open_wet k1
 unfold Wt.v at hs
 simp only [Value.agg.injEq, Array.mk.injEq, List.cons.injEq, and_true] at hs
 obtain ⟨h1, h2, h3, h4⟩ := hs
 subst h1 h2 h3 h4
 exact ⟨⟨a, s⟩, rfl, hw⟩
set_option maxRecDepth 100000 in
theorem open_runs {r : Reach} {b0 : Nat} {v : Value} {d : DataW H} {p : List MemPlace} (hv : Value.okWide Try.prog w r b0 72 v) (h : DataW.Trod enc Try.prog w 0 sp held 72 v d p) :
  ∃ (A : Option Addr) (k : Nat) (l : List Rn), v = .slice A l.length k ∧ RnsIn w A l := by
 obtain ⟨a0, l0, k0, rfl⟩ := okWide_slice Try.underlying72 hv
 obtain ⟨fuel, hf⟩ := h
 have hf' : DataW.trod enc Try.prog w 0 sp held fuel 72 [.slice a0 l0 k0] = some (d, p) := hf
 rcases Go.Deep.open_slice Try.underlying72 hf' with ⟨hcs, _⟩ | ⟨a, l, k, m, n', D, Pl, hcs, _, hl, hm, hmm, hy, hi⟩
 ·obtain ⟨rfl, rfl, rfl⟩ : a0 = none ∧ l0 = 0 ∧ k0 = 0 := by simpa using hcs
  exact ⟨none, 0, [], rfl, Nat.zero_le _, fun h0 => absurd h0 (by simp)⟩
 ·obtain ⟨rfl, rfl, rfl⟩ : a0 = some a ∧ l0 = l ∧ k0 = k := by simpa using hcs
  have hnm : l0 ≤ m := by rw [hmm]; split <;> omega
  obtain ⟨b, off, s⟩ := a
  rcases Nat.eq_zero_or_pos l0 with rfl | hpos
  ·exact ⟨_, _, [], rfl, Nat.zero_le _, fun h0 => absurd h0 (by simp)⟩
  have hs : s = none := by
   obtain ⟨cs', hc, ht⟩ := hi 0 (by omega)
   obtain ⟨x, rfl, _⟩ := open_run ht
   rw [cells_ru] at hc
   obtain ⟨_, _, hat⟩ := World.cells?_some hc
   have a0 := World.cell?_spot (hat 0 (by decide))
   simpa [Addr.add] using a0
  subst hs
  have each : ∀ i, i < l0 → ∃ x : Rn, RnIn w b (off + i * 5) x := fun i hin => by
   obtain ⟨cs', hc, ht⟩ := hi i (by omega)
   obtain ⟨x, rfl, hx⟩ := open_run ht
   rw [cells_ru] at hc
   obtain ⟨_, _, hat⟩ := World.cells?_some hc
   have a0 := hat 0 (by decide)
   have a1 := hat 1 (by decide)
   have a2 := hat 2 (by decide)
   have a3 := hat 3 (by decide)
   have a4 := hat 4 (by decide)
   simp only [add_eq] at a0 a1 a2 a3 a4
   exact ⟨x, ⟨by simpa using a0, by simpa using a1, by simpa using a2, by simpa using a3, by simpa using a4, hx⟩⟩
  obtain ⟨ls, hlen, hP⟩ := list_of (default : Rn) _ l0 each
  refine ⟨some ⟨b, off, none⟩, _, ls, by rw [hlen], by omega, fun h0 => ⟨b, off, rfl, fun i hi => hP i (by omega)⟩⟩
end

def runsB (l : List Rn) : Bool := (l.all fun r => wetB r.s) && (decide (l.length ≤ 6) || (decide (60 < l.length) && decide (l.length ≤ 80)))
theorem runsB_ok {w : World} {A : Option Addr} {l : List Rn} (h : RnsIn w A l) (hb : runsB l = true) : RdR w A l ∧ l.length ≤ 80 := by
 unfold runsB at hb
 simp only [Bool.and_eq_true, Bool.or_eq_true, decide_eq_true_eq, List.all_eq_true] at hb
 refine ⟨fun hn => ?_, by omega⟩
 obtain ⟨b, off, e, hc⟩ := h.2 hn
 exact ⟨b, off, e, fun i hi => ⟨(hc i hi).c0, (hc i hi).c1, (hc i hi).c2, (hc i hi).c3, (hc i hi).c4, wetB_ok (hc i hi).wt (hb.1 _ (rAt_mem hi))⟩⟩

set_option maxRecDepth 100000 in
set_option maxHeartbeats 1600000 in
theorem runs_any (A : Option Addr) (c : Nat) (l : List Rn) (w : World) (h : RnsIn w A l) :
  Calls Try.prog 44 #[.slice A l.length c] w fun e w' => e = .returned (.bool (runsB l)) ∧ Below w.heap.size w w' := by
 have hm := h.1
 unfold maxLen at hm
 have K := Lib.hid (stays_rnsIn h)
 have HR : Hid ((∀ j, j < l.length → wetB (rAt l j).s = false → runsB l = false) ∧ ((∀ j, j < l.length → wetB (rAt l j).s = true) → runsB l = (decide (l.length ≤ 6) || (decide (60 < l.length) && decide (l.length ≤ 80))))) := by
  refine Lib.hid ⟨fun j hj e => ?_, fun e => ?_⟩
  ·unfold runsB
   rw [show (l.all fun r => wetB r.s) = false from ?_, Bool.false_and]
   rw [List.all_eq_false]
   exact ⟨_, rAt_mem hj, by rw [e]; decide⟩
  ·unfold runsB
   rw [show (l.all fun r => wetB r.s) = true from ?_, Bool.true_and]
   rw [List.all_eq_true]
   intro r hr
   obtain ⟨j, hj, rfl⟩ := List.getElem_of_mem hr
   have := e j hj
   unfold rAt at this
   rwa [List.getD_eq_getElem?_getD, List.getElem?_eq_getElem hj] at this
 generalize runsB l = R at *
 clear h
 go_enter Try.func44, Try.ntmps44
 go_upto_region 2 with fail
 go_loopg [3] l.length (fun gg i wr => ∃ t : Nat, t ≤ l.length ∧ l.length - t ≤ gg ∧ i = .int .i64 t ∧ Aside (Below w.heap.size w wr ∧ ∀ j, j < t → wetB (rAt l j).s = true))
 case atStart => exact ⟨0, Nat.zero_le _, by omega, rfl, Below.refl _ _, fun j hj => absurd hj (Nat.not_lt_zero _)⟩
 case round =>
  obtain ⟨t, ht, hgg, rfl, hA⟩ := hrel
  have HA := Lib.hid hA.out
  clear hA
  have KA := Lib.hid (K.out.on HA.out.1)
  by_cases hlt : t < l.length
  ·have hltz : (t : Int) < (l.length : Int) := by omega
   obtain ⟨b, off, rfl, hc⟩ := KA.out.1.2 (by omega)
   have hr := hc t hlt
   have hw := wet_any (rAt l t).s wr hr.wt
   have hwf := HR.out.1 t hlt
   have HC : Hid (wetB (rAt l t).s = true → ∀ j, j < t + 1 → wetB (rAt l j).s = true) := Lib.hid (fun h j hj => by
    by_cases e : j = t
    ·subst e; exact h
    ·exact HA.out.2 j (by omega))
   have q1 := hr.c1
   have q2 := hr.c2
   have q3 := hr.c3
   have q4 := hr.c4
   unfold Wt.v at hw
   generalize wetB (rAt l t).s = v at *
   have HW := Lib.hid hw
   clear hw hr hc
   cases v with
   | false =>
    obtain rfl := hwf rfl
    go_wp2_with (go_at_call 19; refine HW.out.mono ?_; rintro e w1 ⟨rfl, hb⟩; have HB := Lib.hid (HA.out.1.trans (hb.mono HA.out.1.size)); clear hb)
    go_ret
    exact ⟨rfl, HB.out⟩
   | true =>
    clear hwf
    go_wp2_with (go_at_call 19; refine HW.out.mono ?_; rintro e w1 ⟨rfl, hb⟩; have HB := Lib.hid (HA.out.1.trans (hb.mono HA.out.1.size)); clear hb)
    go_roundg (l.length - (t + 1))
    case measure => omega
    case rel => exact ⟨t + 1, by omega, by omega, by go_num, HB.out, HC.out trivial⟩
  ·obtain rfl : t = l.length := by omega
   have hltz : ¬ (l.length : Int) < (l.length : Int) := by omega
   have hR := HR.out.2 HA.out.2
   rcases (by omega : l.length ≤ 6 ∨ (¬ l.length ≤ 6 ∧ 60 < l.length ∧ l.length ≤ 80) ∨ (¬ l.length ≤ 6 ∧ 60 < l.length ∧ ¬ l.length ≤ 80) ∨ (¬ l.length ≤ 6 ∧ ¬ 60 < l.length)) with h1 | ⟨h1, h2, h3⟩ | ⟨h1, h2, h3⟩ | ⟨h1, h2⟩
   ·obtain rfl : R = true := by rw [hR]; simp [h1]
    have g1 : (l.length : Int) ≤ 6 := by omega
    clear hR h1
    go_wp2
    go_ret
    exact ⟨rfl, HA.out.1⟩
   ·obtain rfl : R = true := by rw [hR]; simp [h2, h3]
    have g1 : ¬ (l.length : Int) ≤ 6 := by omega
    have g2 : (60 : Int) < (l.length : Int) := by omega
    have g3 : (l.length : Int) ≤ 80 := by omega
    clear hR h1 h2 h3
    go_wp2
    go_ret
    exact ⟨rfl, HA.out.1⟩
   ·obtain rfl : R = false := by rw [hR]; simp [h1, h3]
    have g1 : ¬ (l.length : Int) ≤ 6 := by omega
    have g2 : (60 : Int) < (l.length : Int) := by omega
    have g3 : ¬ (l.length : Int) ≤ 80 := by omega
    clear hR h1 h2 h3
    go_wp2
    go_ret
    exact ⟨rfl, HA.out.1⟩
   ·obtain rfl : R = false := by rw [hR]; simp [h1, h2]
    have g1 : ¬ (l.length : Int) ≤ 6 := by omega
    have g2 : ¬ (60 : Int) < (l.length : Int) := by omega
    clear hR h1 h2
    go_wp2
    go_ret
    exact ⟨rfl, HA.out.1⟩
end Go.Proofs.Ytdadoelajhemjaa
