/- Walks: cased of the laws; a case that comes in. -/
import Derived.Test.YtdadoelajhemjaaD1
import Derived.Test.YtdadoelajhemjaaL1
namespace Go.Proofs.Ytdadoelajhemjaa
open Go.ChangeShapes Go.WideShapes Go.ChangeAt Go.RowKit Go.Shelf

/-- What is known of a case that comes into a law. -/
structure CsIn (w : World) (s : Cs) : Prop where
 r0 : RdS w w.heap.size s.A0 s.ri
 r1 : RdS w w.heap.size s.A1 s.bo
 m0 : s.ri.length ≤ maxLen
 m1 : s.bo.length ≤ maxLen
theorem CsIn.ext {w w' : World} {s : Cs} (h : CsIn w s) (hb : Below w.heap.size w w') : CsIn w' s := ⟨h.r0.ext hb, h.r1.ext hb, h.m0, h.m1⟩
theorem stays_csIn {W : World} {s : Cs} (h : CsIn W s) : Stays (fun X => CsIn X s) W := ⟨h, fun _ _ a b => a.ext b⟩
def casedB (s : Cs) : Bool := decide (s.ri.length ≤ 100) && decide (s.bo.length ≤ 100)
theorem casedB_ok {s : Cs} {w : World} (h : CsIn w s) (hb : casedB s = true) : Csd w s := by
 unfold casedB at hb
 simp only [Bool.and_eq_true, decide_eq_true_eq] at hb
 exact ⟨h.r0, h.r1, by omega, by omega⟩
set_option maxRecDepth 100000 in
set_option maxHeartbeats 1600000 in
theorem cased_any (s : Cs) (w : World) (h : CsIn w s) :
  Calls Try.prog 30 #[s.v] w fun e w' => e = .returned (.bool (casedB s)) ∧ Below w.heap.size w w' := by
 obtain ⟨A0, A1, c0, c1, ri, bo⟩ := s
 obtain ⟨r0, r1, m0, m1⟩ := h
 have hR : casedB ⟨A0, A1, c0, c1, ri, bo⟩ = (decide (ri.length ≤ 100) && decide (bo.length ≤ 100)) := rfl
 rw [hR]
 clear hR r0 r1 m0 m1
 show Calls _ _ #[.agg #[.slice A0 ri.length c0, .slice A1 bo.length c1]] _ _
 have g0 := wetCases ri.length
 have g1 := wetCases bo.length
 generalize decide (ri.length ≤ 100) = b0 at *
 generalize decide (bo.length ≤ 100) = b1 at *
 have hb0 : Below w.heap.size w (w.alloc (.cells #[.slice A0 ri.length c0, .slice A1 bo.length c1] 51)) := (Below.refl _ w).alloc (Nat.le_refl _) _
 have q0 : Blk (w.alloc (.cells #[.slice A0 ri.length c0, .slice A1 bo.length c1] 51)) w.heap.size #[.slice A0 ri.length c0, .slice A1 bo.length c1] 51 := blk_new _ _ _ rfl
 go_enter Try.func30, Try.ntmps30
 go_upto_region 1 with fail
 have HB := Lib.hid hb0
 have p0 := cr 0 q0
 have p1 := cr 1 q0
 clear hb0 q0
 generalize w.alloc (.cells #[.slice A0 ri.length c0, .slice A1 bo.length c1] 51) = w1 at *
 rcases g0 with ⟨d0, rfl⟩ | ⟨d0, rfl⟩
 rcases g1 with ⟨d1, rfl⟩ | ⟨d1, rfl⟩
 all_goals (go_wp2; go_ret; exact ⟨rfl, HB.out⟩)

theorem cells_ls : Try.prog.cellsOf 49 = 1 := by kernel_rfl
theorem cells_cs : Try.prog.cellsOf 51 = 2 := by kernel_rfl
section
variable {H : Type} {enc : TypeId × Value → H} {w : World} {sp : Nat → Bool} {held : Bool}
set_option maxRecDepth 100000 in
theorem open_spans {fuel : Nat} {c : Value} {y : DataW H × List MemPlace} (h : DataW.trod enc Try.prog w 0 sp held fuel 49 [c] = some y) :
  ∃ (A : Option Addr) (k : Nat) (l : List Sp), c = .slice A l.length k ∧ RdS w w.heap.size A l ∧ l.length ≤ maxLen := by
 rcases Go.Deep.open_slice Try.underlying49 h with ⟨hcs, _⟩ | ⟨a, l, k, m, n', D, Pl, hcs, _, hl, hm, hmm, hy, hi⟩
 ·obtain rfl : c = .slice none 0 0 := by simpa using hcs
  exact ⟨none, 0, [], rfl, fun h0 => absurd h0 (by simp), Nat.zero_le _⟩
 ·obtain rfl : c = .slice (some a) l k := by simpa using hcs
  have hnm : l ≤ m := by rw [hmm]; split <;> omega
  obtain ⟨b, off, s⟩ := a
  rcases Nat.eq_zero_or_pos l with rfl | hpos
  ·exact ⟨_, k, [], rfl, fun h0 => absurd h0 (by simp), Nat.zero_le _⟩
  have one : ∀ i, i < l → ∃ x : Sp, w.cell? (Addr.add ⟨b, off, s⟩ (i * 2)) = some (.int .i64 x.1) ∧ w.cell? (Addr.add (Addr.add ⟨b, off, s⟩ (i * 2)) 1) = some (.int .i64 x.2) := fun i hin => by
   obtain ⟨cs', hc, ht⟩ := hi i (by omega)
   rw [cells_sp] at hc
   obtain ⟨_, hlen, hat⟩ := World.cells?_some hc
   obtain ⟨a, b', rfl⟩ := list2 hlen
   obtain ⟨lo, hi', rfl, rfl⟩ := open_span ht
   have a0 := hat 0 (by decide)
   have a1 := hat 1 (by decide)
   exact ⟨(lo, hi'), by simpa [Addr.add] using a0, by simpa using a1⟩
  have hs : s = none := by
   obtain ⟨x, h1, _⟩ := one 0 hpos
   have a0 := World.cell?_spot h1
   simpa [Addr.add] using a0
  subst hs
  have each : ∀ i, i < l → ∃ x : Sp, b < w.heap.size ∧ SpAt w b (off + i * 2) x := fun i hin => by
   obtain ⟨x, h1, h2⟩ := one i hin
   have lt := lt_of_cell h1
   rw [add_eq] at h1 h2 lt
   rw [add_eq] at h2
   exact ⟨x, lt, h1, h2⟩
  obtain ⟨ls, hlen, hP⟩ := list_of ((0, 0) : Sp) _ l each
  refine ⟨some ⟨b, off, none⟩, k, ls, by rw [hlen], fun h0 => ?_, by omega⟩
  obtain ⟨lb, _⟩ := hP 0 (by omega)
  exact ⟨b, off, rfl, lb, fun i hi => (hP i (by omega)).2⟩
set_option maxRecDepth 100000 in
theorem open_case {r : Reach} {b0 : Nat} {v : Value} {d : DataW H} {p : List MemPlace} (hv : Value.okWide Try.prog w r b0 51 v) (h : DataW.Trod enc Try.prog w 0 sp held 51 v d p) :
  ∃ s : Cs, v = s.v ∧ CsIn w s := by
 obtain ⟨cs, rfl, hsz⟩ := okWide_struct Try.underlying51 hv
 obtain ⟨l⟩ := cs
 obtain ⟨a, b, rfl⟩ := list2 (hsz.trans cells_cs)
 obtain ⟨fuel, hf⟩ := h
 have hf' : DataW.trod enc Try.prog w 0 sp held fuel 51 [a, b] = some (d, p) := hf
 obtain ⟨y0, y1, n, _, _, g0, g1⟩ := trod_struct2 Try.underlying51 hf'
 have k0 : DataW.trod enc Try.prog w 0 sp held n 49 [a] = some y0 := by simpa [cells_ls] using g0
 have k1 : DataW.trod enc Try.prog w 0 sp held n 49 [b] = some y1 := by simpa [cells_ls] using g1
 obtain ⟨A0, c0, x0, rfl, r0, m0⟩ := open_spans k0
 obtain ⟨A1, c1, x1, rfl, r1, m1⟩ := open_spans k1
 exact ⟨⟨A0, A1, c0, c1, x0, x1⟩, rfl, r0, r1, m0, m1⟩
end
end Go.Proofs.Ytdadoelajhemjaa
