/- Opens what comes into a law: works, water, numbers. | Walks: SameInts, SameWater. | Walks: the examples of the laws: Meadow, Now, Known. | Walks: the examples of the laws: Now, Known. | Plain: the answers at the chapter's examples. No program here. | The contracts of what sanity calls, at the chapter's examples. | Walks: the laws' sanity. -/
import Derived.Test.YtdadoelajhemjaaM3
import Derived.Test.YtdadoelajhemjaaRows
import Derived.ProofKit
import Derived.OpenShut
import Derived.ChangeOld
import Derived.Deep.Slices
import Derived.SizedLaws
import Derived.Test.YtdadoelajhemjaaM11
namespace Go.Proofs.Ytdadoelajhemjaa
open Go.ChangeShapes Go.WideShapes Go.ChangeAt Go.RowKit Go.Shelf

theorem own_knob : ownKnob Try.prog.godebug = none := by kernel_rfl
theorem laid_out : laidOutB Try.prog = true := by kernel_rfl
theorem cells_li : Try.prog.cellsOf 25 = 1 := by kernel_rfl
theorem cells_lo : Try.prog.cellsOf 36 = 1 := by kernel_rfl
theorem cells_lc : Try.prog.cellsOf 22 = 1 := by kernel_rfl
theorem cells_ca : Try.prog.cellsOf 38 = 1 := by kernel_rfl
theorem cells_wo : Try.prog.cellsOf 24 = 1 := by kernel_rfl
theorem cells_wa : Try.prog.cellsOf 27 = 4 := by kernel_rfl
theorem cells_sp : Try.prog.cellsOf 40 = 2 := by kernel_rfl
theorem cells_ot : Try.prog.cellsOf 42 = 7 := by kernel_rfl
theorem cells_in : Try.prog.cellsOf 3 = 1 := by kernel_rfl
theorem bytes_ot : ∃ k, Try.prog.bytesOf 42 = k + 1 := ⟨71, by kernel_rfl⟩
theorem blk_on {W W' : World} {g : Nat} {cs : Array Value} {ty : TypeId} (h : Blk W g cs ty) (hb : Below W.heap.size W W') : Blk W' g cs ty := (hb.block g (Array.getElem?_eq_some_iff.1 h).1).trans h
theorem list2 {α : Type} {l : List α} (h : l.length = 2) : ∃ a b, l = [a, b] := by
 match l, h with
 | [a, b], _ => exact ⟨a, b, rfl⟩
theorem list4 {α : Type} {l : List α} (h : l.length = 4) : ∃ a b c d, l = [a, b, c, d] := by
 match l, h with
 | [a, b, c, d], _ => exact ⟨a, b, c, d, rfl⟩
theorem list5 {α : Type} {l : List α} (h : l.length = 5) : ∃ a b c d e, l = [a, b, c, d, e] := by
 match l, h with
 | [a, b, c, d, e], _ => exact ⟨a, b, c, d, e, rfl⟩
theorem list7 {α : Type} {l : List α} (h : l.length = 7) : ∃ a b c d e f g, l = [a, b, c, d, e, f, g] := by
 match l, h with
 | [a, b, c, d, e, f, g], _ => exact ⟨a, b, c, d, e, f, g, rfl⟩

theorem lt_of_cell {w : World} {a : Addr} {v : Value} (hc : w.cell? a = some v) : a.block < w.heap.size := by
 rcases Nat.lt_or_ge a.block w.heap.size with h | h
 ·exact h
 ·have : w.heap[a.block]? = none := by simp [h]
  simp [World.cell?, this] at hc

theorem list_of {α : Type} (d : α) (P : Nat → α → Prop) : ∀ (n : Nat), (∀ i, i < n → ∃ x, P i x) → ∃ l : List α, l.length = n ∧ ∀ i, i < n → P i (l.getD i d)
 | 0, _ => ⟨[], rfl, fun i hi => absurd hi (Nat.not_lt_zero i)⟩
 | n + 1, h => by
  obtain ⟨l, hl, hP⟩ := list_of d P n fun i hi => h i (by omega)
  obtain ⟨x, hx⟩ := h n (by omega)
  refine ⟨l ++ [x], by simp [hl], fun i hi => ?_⟩
  rcases Nat.lt_or_ge i n with e | e
  ·have : (l ++ [x]).getD i d = l.getD i d := by simp [List.getD, List.getElem?_append_left (show i < l.length by omega)]
   rw [this]
   exact hP i e
  ·obtain rfl : i = n := by omega
   have : (l ++ [x]).getD i d = x := by subst hl; simp [List.getD]
   rw [this]
   exact hx

section
variable {H : Type} {enc : TypeId × Value → H} {w : World} {sp : Nat → Bool} {held : Bool}

theorem weights_all {e : TypeId} : ∀ {ds : List (DataW H)} {d : DataW H}, d ∈ ds → ∀ n ∈ d.weights Try.prog e, n ∈ DataW.weightsAll Try.prog e ds
 | [], _, h, _, _ => absurd h (by simp)
 | x :: r, d, h, n, hn => by
  simp only [DataW.weightsAll, List.mem_append]
  rcases List.mem_cons.1 h with rfl | h
  ·exact .inl hn
  ·exact .inr (weights_all h n hn)
/-- All that a datum reads is within the reach. -/
def Small (t : TypeId) (d : DataW H) : Prop := ∀ m ∈ d.weights Try.prog t, m ≤ reachBytes
theorem Small.of {ts : List TypeId} {ds : List (DataW H)} (h : (DataW.weightsEach Try.prog ts ds).all (· ≤ reachBytes) = true) {j : Nat} {t : TypeId} {d : DataW H} (ht : ts[j]? = some t) (hd : ds[j]? = some d) : Small t d := fun m hm => by
 have := List.all_eq_true.1 h m (DataW.weights_mem_each ht hd m hm)
 simpa using this
theorem Small.agg {t : TypeId} {fs : Array Field} {ds : List (DataW H)} (hu : Try.prog.underlying t = some (.struct fs)) (h : Small t (.agg ds)) {j : Nat} {f : Field} {d : DataW H} (hf : fs[j]? = some f) (hd : ds[j]? = some d) : Small f.type d := fun m hm =>
 h m (by simp only [DataW.weights, hu]; exact DataW.weights_mem_each (j := j) (by simpa using ⟨f, hf, rfl⟩) hd m hm)
theorem Small.elem {t e : TypeId} {xs ys : List (DataW H)} (hu : Try.prog.underlying t = some (.slice e)) (h : Small t (.slice xs ys)) {d : DataW H} (hd : d ∈ xs) : Small e d := fun m hm =>
 h m (by simp only [DataW.weights, hu, List.mem_cons, List.mem_append]; exact .inr (.inl (weights_all hd m hm)))
theorem Small.len {t e : TypeId} {xs ys : List (DataW H)} (hu : Try.prog.underlying t = some (.slice e)) (h : Small t (.slice xs ys)) (hb : ∃ k, Try.prog.bytesOf e = k + 1) : xs.length ≤ reachBytes := by
 have := h ((xs.length + ys.length) * Try.prog.bytesOf e) (by simp only [DataW.weights, hu, List.mem_cons]; exact .inl trivial)
 obtain ⟨k, hk⟩ := hb
 rw [hk] at this
 exact Nat.le_trans (Nat.le_trans (Nat.le_add_right _ _) (Nat.le_mul_of_pos_right _ (by omega))) this

theorem open_rd {fuel : Nat} {c : Value} {y : DataW H × List MemPlace} (h : DataW.trod enc Try.prog w 0 sp held fuel 25 [c] = some y) :
  ∃ (A : Option Addr) (k : Nat) (xs : List Int), c = .slice A xs.length k ∧ Rd w w.heap.size A xs ∧ xs.length ≤ maxLen := by
 rcases open_ints Try.underlying25 Try.underlying3 cells_in h with ⟨hcs, _⟩ | ⟨a, l, k, zs, hcs, _, hl, hm, hz, _, hcell, _⟩
 ·obtain rfl : c = .slice none 0 0 := by simpa using hcs
  exact ⟨none, 0, [], rfl, Rd.nil, Nat.zero_le _⟩
 ·obtain rfl : c = .slice (some a) l k := by simpa using hcs
  have hzl : l ≤ zs.length := by rw [hz]; split <;> omega
  have hlen : (zs.take l).length = l := by rw [List.length_take]; omega
  refine ⟨some a, k, zs.take l, by rw [hlen], fun h0 => ?_, by omega⟩
  rw [hlen] at h0
  obtain ⟨b, off, s⟩ := a
  have hc0 := hcell 0 (by omega)
  have hs := World.cell?_spot hc0
  simp only [Addr.add] at hs
  obtain rfl : s = none := by simpa using hs
  refine ⟨b, off, rfl, by have := lt_of_cell hc0; simpa [Addr.add] using this, fun i hi => ?_⟩
  rw [hlen] at hi
  have := hcell i (by omega)
  rw [add_eq] at this
  rw [this]
  simp [nth, List.getD, hi]

theorem open_span {fuel : Nat} {a b : Value} {y : DataW H × List MemPlace} (h : DataW.trod enc Try.prog w 0 sp held fuel 40 [a, b] = some y) : ∃ lo hi : Int, a = .int .i64 lo ∧ b = .int .i64 hi := by
 obtain ⟨z0, z1, m, _, _, g0, g1⟩ := trod_struct2 Try.underlying40 h
 have k0 : DataW.trod enc Try.prog w 0 sp held m 3 [a] = some z0 := by simpa [cells_in] using g0
 have k1 : DataW.trod enc Try.prog w 0 sp held m 3 [b] = some z1 := by simpa [cells_in] using g1
 obtain ⟨a, e0, _, _⟩ := DataW.trod_int Try.underlying3 k0
 obtain ⟨b, e1, _, _⟩ := DataW.trod_int Try.underlying3 k1
 simp only [List.cons.injEq, and_true] at e0 e1
 exact ⟨a, b, e0, e1⟩

set_option maxRecDepth 100000 in
theorem open_ot {fuel : Nat} {cs : List Value} {y : DataW H × List MemPlace} (h : DataW.trod enc Try.prog w 0 sp held fuel 42 cs = some y) :
  ∃ o : Ot, cs = o.cells ∧ Rd w w.heap.size o.P o.ps ∧ o.ps.length ≤ maxLen := by
 obtain ⟨xs, n, _, _, hl, hx, hf⟩ := DataW.trod_struct Try.underlying42 h
 obtain ⟨a, b, c, d, e, f, g, rfl⟩ := list7 (hl.trans cells_ot)
 obtain ⟨y0, y1, y2, y3, y4, rfl⟩ := list5 hx
 have k0 : DataW.trod enc Try.prog w 0 sp held n 3 [a] = some y0 := by simpa [cells_in] using hf 0 _ rfl
 have k1 : DataW.trod enc Try.prog w 0 sp held n 3 [b] = some y1 := by simpa [cells_in] using hf 1 _ rfl
 have k2 : DataW.trod enc Try.prog w 0 sp held n 25 [c] = some y2 := by simpa [cells_li] using hf 2 _ rfl
 have k3 : DataW.trod enc Try.prog w 0 sp held n 40 [d, e] = some y3 := by simpa [cells_sp] using hf 3 _ rfl
 have k4 : DataW.trod enc Try.prog w 0 sp held n 40 [f, g] = some y4 := by simpa [cells_sp] using hf 4 _ rfl
 obtain ⟨a, e0, _, _⟩ := DataW.trod_int Try.underlying3 k0
 obtain ⟨b, e1, _, _⟩ := DataW.trod_int Try.underlying3 k1
 simp only [List.cons.injEq, and_true] at e0 e1
 subst e0 e1
 obtain ⟨A, k, xs, rfl, hr, hm⟩ := open_rd k2
 obtain ⟨l0, h0, rfl, rfl⟩ := open_span k3
 obtain ⟨l1, h1, rfl, rfl⟩ := open_span k4
 exact ⟨⟨a, b, A, k, xs, l0, h0, l1, h1⟩, rfl, hr, hm⟩

set_option maxRecDepth 100000 in
theorem open_outlets {fuel : Nat} {c : Value} {y : DataW H × List MemPlace} (h : DataW.trod enc Try.prog w 0 sp held fuel 36 [c] = some y) (hz : Small 36 y.1) :
  ∃ (A : Option Addr) (k : Nat) (l : List Ot), c = .slice A l.length k ∧ RdO w w.heap.size A l ∧ l.length ≤ reachBytes ∧ ∀ i, i < l.length → (oAt l i).ps.length ≤ maxLen := by
 rcases Go.Deep.open_slice Try.underlying36 h with ⟨hcs, _⟩ | ⟨a, l, k, m, n', D, Pl, hcs, _, hl, hm, hmm, hy, hi⟩
 ·obtain rfl : c = .slice none 0 0 := by simpa using hcs
  exact ⟨none, 0, [], rfl, RdO.nil, Nat.zero_le _, fun i hi => absurd hi (Nat.not_lt_zero i)⟩
 ·obtain rfl : c = .slice (some a) l k := by simpa using hcs
  have hnm : l ≤ m := by rw [hmm]; split <;> omega
  have hlr : l ≤ reachBytes := by
   rw [hy] at hz
   have := hz.len Try.underlying36 bytes_ot
   simpa using this
  obtain ⟨b, off, s⟩ := a
  rcases Nat.eq_zero_or_pos l with rfl | hpos
  ·exact ⟨_, k, [], rfl, RdO.nil, Nat.zero_le _, fun i hi => absurd hi (Nat.not_lt_zero i)⟩
  have hs : s = none := by
   obtain ⟨cs', hc, ht⟩ := hi 0 (by omega)
   obtain ⟨x, rfl, _⟩ := open_ot ht
   rw [cells_ot] at hc
   obtain ⟨_, _, hat⟩ := World.cells?_some hc
   have a0 := World.cell?_spot (hat 0 (by decide))
   simpa [Addr.add] using a0
  subst hs
  have each : ∀ i, i < l → ∃ x : Ot, b < w.heap.size ∧ OtAt w w.heap.size b (off + i * 7) x ∧ x.ps.length ≤ maxLen := fun i hin => by
   obtain ⟨cs', hc, ht⟩ := hi i (by omega)
   obtain ⟨x, rfl, hr, hx⟩ := open_ot ht
   rw [cells_ot] at hc
   obtain ⟨_, _, hat⟩ := World.cells?_some hc
   have a0 := hat 0 (by decide)
   have a1 := hat 1 (by decide)
   have a2 := hat 2 (by decide)
   have a3 := hat 3 (by decide)
   have a4 := hat 4 (by decide)
   have a5 := hat 5 (by decide)
   have a6 := hat 6 (by decide)
   have lt := lt_of_cell a1
   simp only [add_eq] at a0 a1 a2 a3 a4 a5 a6 lt
   exact ⟨x, lt, ⟨by simpa [Ot.cells] using a0, by simpa [Ot.cells] using a1, by simpa [Ot.cells] using a2, by simpa [Ot.cells] using a3, by simpa [Ot.cells] using a4, by simpa [Ot.cells] using a5, by simpa [Ot.cells] using a6, hr⟩, hx⟩
  obtain ⟨ls, hlen, hP⟩ := list_of (default : Ot) _ l each
  refine ⟨some ⟨b, off, none⟩, k, ls, by rw [hlen], fun h0 => ?_, by omega, fun i hi => (hP i (by omega)).2.2⟩
  obtain ⟨lb, _⟩ := hP 0 (by omega)
  exact ⟨b, off, rfl, lb, fun i hi => (hP i (by omega)).2.1⟩

/-- What is known of works that come into a law. -/
structure WkIn (w : World) (A : Option Addr) (ws : List Car) : Prop where
 rd : RdW w w.heap.size A ws
 n0 : ws.length ≤ maxLen
 n1 : ∀ i, i < ws.length → (cAt ws i).os.length ≤ reachBytes
 n2 : ∀ i, i < ws.length → ∀ j, j < (cAt ws i).os.length → (oAt (cAt ws i).os j).ps.length ≤ maxLen

set_option maxRecDepth 100000 in
theorem open_works {r : Reach} {b0 : Nat} {v : Value} {d : DataW H} {p : List MemPlace} (hv : Value.okWide Try.prog w r b0 24 v) (h : DataW.Trod enc Try.prog w 0 sp held 24 v d p) (hz : Small 24 d) :
  ∃ (A : Option Addr) (k : Nat) (ws : List Car), v = .agg #[.slice A ws.length k] ∧ WkIn w A ws := by
 obtain ⟨cs, rfl, hsz⟩ := okWide_struct Try.underlying24 hv
 obtain ⟨l⟩ := cs
 match l, hsz.trans cells_wo with
 | [c0], _ =>
  obtain ⟨fuel, hf⟩ := h
  obtain ⟨y0, n, hd, _, h0⟩ := trod_struct1 Try.underlying24 hf
  have h1 : DataW.trod enc Try.prog w 0 sp held n 22 [c0] = some y0 := h0
  obtain ⟨rfl, _⟩ := Prod.mk.inj hd
  have hz1 : Small 22 y0.1 := hz.agg Try.underlying24 (j := 0) rfl rfl
  rcases Go.Deep.open_slice Try.underlying22 h1 with ⟨hcs, _⟩ | ⟨a, l, k, m, n', D, Pl, hcs, _, hl, hm, hmm, hy, hi⟩
  ·obtain rfl : c0 = .slice none 0 0 := by simpa using hcs
   exact ⟨none, 0, [], rfl, ⟨fun h0 => absurd h0 (by simp), Nat.zero_le _, fun i hi => absurd hi (Nat.not_lt_zero i), fun i hi => absurd hi (Nat.not_lt_zero i)⟩⟩
  ·obtain rfl : c0 = .slice (some a) l k := by simpa using hcs
   have hnm : l ≤ m := by rw [hmm]; split <;> omega
   rw [hy] at hz1
   obtain ⟨b, off, s⟩ := a
   rcases Nat.eq_zero_or_pos l with rfl | hpos
   ·exact ⟨_, k, [], rfl, ⟨fun h0 => absurd h0 (by simp), Nat.zero_le _, fun i hi => absurd hi (Nat.not_lt_zero i), fun i hi => absurd hi (Nat.not_lt_zero i)⟩⟩
   have one : ∀ i, i < l → ∃ x : Car, w.cell? (Addr.add ⟨b, off, s⟩ i) = some (.slice x.A x.os.length x.c) ∧ RdO w w.heap.size x.A x.os ∧ x.os.length ≤ reachBytes ∧ ∀ j, j < x.os.length → (oAt x.os j).ps.length ≤ maxLen := fun i hin => by
    obtain ⟨cs', hc, ht⟩ := hi i (by omega)
    rw [cells_ca] at hc
    obtain ⟨hlen, _, hat⟩ := World.cells?_some hc
    match cs', hlen with
    | [c], _ =>
     obtain ⟨z0, n2, hd2, _, k0⟩ := trod_struct1 Try.underlying38 ht
     have k1 : DataW.trod enc Try.prog w 0 sp held n2 36 [c] = some z0 := k0
     have hz2 : Small 38 (D i) := hz1.elem Try.underlying22 (List.mem_map.2 ⟨i, List.mem_range.2 hin, rfl⟩)
     obtain ⟨e2, _⟩ := Prod.mk.inj hd2
     rw [e2] at hz2
     obtain ⟨A', k', xs, rfl, r1, m1, m2⟩ := open_outlets k1 (hz2.agg Try.underlying38 (j := 0) rfl rfl)
     have a0 := hat 0 (by decide)
     exact ⟨⟨A', k', xs⟩, by simpa [Addr.add] using a0, r1, m1, m2⟩
   have hs : s = none := by
    obtain ⟨x, h1, _⟩ := one 0 hpos
    have a0 := World.cell?_spot h1
    simpa [Addr.add] using a0
   subst hs
   have each : ∀ i, i < l → ∃ x : Car, b < w.heap.size ∧ w.cell? ⟨b, off + i, none⟩ = some (.slice x.A x.os.length x.c) ∧ RdO w w.heap.size x.A x.os ∧ x.os.length ≤ reachBytes ∧ ∀ j, j < x.os.length → (oAt x.os j).ps.length ≤ maxLen := fun i hin => by
    obtain ⟨x, h1, h2⟩ := one i hin
    have lt := lt_of_cell h1
    rw [add_eq] at h1 lt
    exact ⟨x, lt, h1, h2⟩
   obtain ⟨ls, hlen, hP⟩ := list_of (default : Car) _ l each
   refine ⟨some ⟨b, off, none⟩, k, ls, by rw [hlen], ⟨fun h0 => ?_, by omega, fun i hi => (hP i (by omega)).2.2.2.1, fun i hi => (hP i (by omega)).2.2.2.2⟩⟩
   obtain ⟨lb, _⟩ := hP 0 (by omega)
   exact ⟨b, off, rfl, lb, fun i hi => ⟨(hP i (by omega)).2.1, (hP i (by omega)).2.2.1⟩⟩

/-- What is known of water that comes into a law. -/
structure WtIn (w : World) (s : Wt) : Prop where
 r0 : Rd w w.heap.size s.A0 s.ri
 r1 : Rd w w.heap.size s.A1 s.bo
 r2 : Rd w w.heap.size s.A2 s.lk
 r3 : Rd w w.heap.size s.A3 s.lo
 m0 : s.ri.length ≤ maxLen
 m1 : s.bo.length ≤ maxLen
 m2 : s.lk.length ≤ maxLen
 m3 : s.lo.length ≤ maxLen

theorem open_wet {fuel : Nat} {a b c d : Value} {y : DataW H × List MemPlace} (h : DataW.trod enc Try.prog w 0 sp held fuel 27 [a, b, c, d] = some y) : ∃ s : Wt, Value.agg #[a, b, c, d] = s.v ∧ WtIn w s := by
 obtain ⟨xs, n, _, _, hl, hx, hf⟩ := DataW.trod_struct Try.underlying27 h
 obtain ⟨y0, y1, y2, y3, rfl⟩ := list4 hx
 have k0 : DataW.trod enc Try.prog w 0 sp held n 25 [a] = some y0 := by simpa [cells_li] using hf 0 _ rfl
 have k1 : DataW.trod enc Try.prog w 0 sp held n 25 [b] = some y1 := by simpa [cells_li] using hf 1 _ rfl
 have k2 : DataW.trod enc Try.prog w 0 sp held n 25 [c] = some y2 := by simpa [cells_li] using hf 2 _ rfl
 have k3 : DataW.trod enc Try.prog w 0 sp held n 25 [d] = some y3 := by simpa [cells_li] using hf 3 _ rfl
 obtain ⟨A0, c0, x0, rfl, r0, m0⟩ := open_rd k0
 obtain ⟨A1, c1, x1, rfl, r1, m1⟩ := open_rd k1
 obtain ⟨A2, c2, x2, rfl, r2, m2⟩ := open_rd k2
 obtain ⟨A3, c3, x3, rfl, r3, m3⟩ := open_rd k3
 exact ⟨⟨A0, A1, A2, A3, c0, c1, c2, c3, x0, x1, x2, x3⟩, rfl, r0, r1, r2, r3, m0, m1, m2, m3⟩
set_option maxRecDepth 100000 in
theorem open_water {r : Reach} {b0 : Nat} {v : Value} {d : DataW H} {p : List MemPlace} (hv : Value.okWide Try.prog w r b0 27 v) (h : DataW.Trod enc Try.prog w 0 sp held 27 v d p) :
  ∃ s : Wt, v = s.v ∧ WtIn w s := by
 obtain ⟨cs, rfl, hsz⟩ := okWide_struct Try.underlying27 hv
 obtain ⟨l⟩ := cs
 obtain ⟨a, b, c, e, rfl⟩ := list4 (hsz.trans cells_wa)
 obtain ⟨fuel, hf⟩ := h
 exact open_wet hf
end
end Go.Proofs.Ytdadoelajhemjaa
namespace Go.Proofs.Ytdadoelajhemjaa
open Go.RowKit Go.Shelf

theorem ext_nth {xs ys : List Int} (hl : xs.length = ys.length) (h : ∀ j, j < xs.length → nth xs j = nth ys j) : xs = ys := by
 refine List.ext_getElem hl (fun i h1 h2 => ?_)
 have := h i h1
 unfold nth at this
 rw [List.getD_eq_getElem?_getD, List.getD_eq_getElem?_getD, List.getElem?_eq_getElem h1, List.getElem?_eq_getElem h2] at this
 exact this
/-- The two cells that a round of SameInts reads. -/
def sameS (b0 o0 b1 o1 : Nat) (v0 v1 : Value) (k : Nat) (X : World) : Prop := match k with
 | 0 => X.cell? ⟨b0, o0, none⟩ = some v0
 | _ => X.cell? ⟨b1, o1, none⟩ = some v1

set_option maxRecDepth 100000 in
set_option maxHeartbeats 800000 in
theorem same_any (A B : Option Addr) (c d : Nat) (xs ys : List Int) (w : World) (h1 : Rd w w.heap.size A xs) (h2 : Rd w w.heap.size B ys) (hm : xs.length ≤ 1000) :
  Calls Try.prog 29 #[.slice A xs.length c, .slice B ys.length d] w fun e w' => e = .returned (.bool (decide (xs = ys))) ∧ Below w.heap.size w w' := by
 by_cases hl : xs.length = ys.length
 rotate_left
 ·have hz : ((xs.length : Int) != (ys.length : Int)) = true := by simp; omega
  rw [decide_eq_false (fun e => hl (by rw [e]))]
  clear hl
  go_enter Try.func29, Try.ntmps29
  go_wp2
  go_ret
  exact ⟨rfl, Below.refl _ _⟩
 have hz : ((xs.length : Int) != (ys.length : Int)) = false := by simp; omega
 have hf : ∀ t, t < xs.length → nth xs t ≠ nth ys t → decide (xs = ys) = false := fun t _ h => decide_eq_false (fun e => h (by rw [e]))
 have ht : (∀ j, j < xs.length → nth xs j = nth ys j) → decide (xs = ys) = true := fun h => decide_eq_true (ext_nth hl h)
 have HR := hd3 hf ht hl
 clear hf ht
 generalize decide (xs = ys) = R at *
 go_enter Try.func29, Try.ntmps29
 have hyl : ys.length = xs.length := hl.symm
 clear hl
 go_upto_region 4 with fail
 go_loopg [5] xs.length (fun gg i wr => ∃ t : Nat, t ≤ xs.length ∧ xs.length - t ≤ gg ∧ i = .int .i64 t ∧ Aside (Below w.heap.size w wr ∧ ∀ j, j < t → nth xs j = nth ys j))
 case atStart => exact ⟨0, Nat.zero_le _, by omega, rfl, Below.refl _ _, fun j hj => absurd hj (Nat.not_lt_zero _)⟩
 case round =>
  obtain ⟨t, hlt0, hgg, rfl, hA⟩ := hrel
  have HA := Lib.hid hA.out
  clear hA
  by_cases hlt : t < xs.length
  ·have hltz : (t : Int) < (xs.length : Int) := by omega
   have hltz2 : (t : Int) < (ys.length : Int) := by omega
   obtain ⟨b0, o0, rfl, lb0, hc0⟩ := h1 (by omega)
   obtain ⟨b1, o1, rfl, lb1, hc1⟩ := h2 (by omega)
   have k0 : sameS b0 (o0 + t) b1 (o1 + t) (.int .i64 (nth xs t)) (.int .i64 (nth ys t)) 0 wr.drew := (HA.out.1.cell (p := ⟨b0, o0 + t, none⟩) lb0).trans (hc0 t hlt)
   have k1 : sameS b0 (o0 + t) b1 (o1 + t) (.int .i64 (nth xs t)) (.int .i64 (nth ys t)) 1 wr.drew := (HA.out.1.cell (p := ⟨b1, o1 + t, none⟩) lb1).trans (hc1 t (by omega))
   have HB := Lib.hid (HA.out.1.drew)
   have HE := Lib.hid (fun (e : nth xs t = nth ys t) (j : Nat) (hj : j < t + 1) => (show nth xs j = nth ys j from by
    by_cases e2 : j = t
    ·subst e2; exact e
    ·exact HA.out.2 j (by omega)))
   have HL := Lib.hid hyl
   clear hc0 hc1 hyl
   by_cases hq : nth xs t = nth ys t
   ·have HQ := Lib.hid hq
    have hqz : (nth xs t != nth ys t) = false := by rw [hq]; simp
    clear hq
    go_wp2
    refine wp_region_K (by kernel_rfl) (sameS b0 (o0 + t) b1 (o1 + t) (.int .i64 (nth xs t)) (.int .i64 (nth ys t))) (fun _ _ => true) ?_
    generalize wr.drew = X0 at *
    refine kT 0 0 rfl ?_
    refine kT 0 1 rfl ?_
    refine kT 0 2 rfl ?_
    refine kT 0 3 rfl ?_
    refine kT 0 4 rfl ?_
    refine kT 0 5 rfl ?_
    refine kT 0 6 rfl ?_
    refine kT 1 7 rfl ?_
    refine kT 0 8 rfl ?_
    refine kD ?_
    clear k0 k1
    go_wp2
    go_roundg (xs.length - (t + 1))
    case measure => omega
    case rel => exact ⟨t + 1, by omega, by omega, by go_num, (show _ ∧ _ from ⟨HB.out, HE.out HQ.out⟩)⟩
   ·obtain rfl := HR.out.1 t hlt hq
    have hqz : (nth xs t != nth ys t) = true := by simpa using hq
    clear hq
    go_wp2
    refine wp_region_K (by kernel_rfl) (sameS b0 (o0 + t) b1 (o1 + t) (.int .i64 (nth xs t)) (.int .i64 (nth ys t))) (fun _ _ => true) ?_
    generalize wr.drew = X0 at *
    refine kT 0 0 rfl ?_
    refine kT 0 1 rfl ?_
    refine kT 0 2 rfl ?_
    refine kT 0 3 rfl ?_
    refine kT 0 4 rfl ?_
    refine kT 0 5 rfl ?_
    refine kT 0 6 rfl ?_
    refine kT 1 7 rfl ?_
    refine kT 0 8 rfl ?_
    refine kD ?_
    clear k0 k1
    go_wp2
    go_ret
    exact ⟨rfl, HB.out⟩
  ·have hltz : ¬ (t : Int) < (xs.length : Int) := by omega
   obtain rfl : t = xs.length := by omega
   obtain rfl := HR.out.2.1 HA.out.2
   go_wp2
   go_ret
   exact ⟨rfl, HA.out.1⟩


set_option maxRecDepth 100000 in
set_option maxHeartbeats 1600000 in
theorem sameW_any (s t : Wt) (w : World) (hs : Wet w s) (ht : Wet w t) :
  Calls Try.prog 58 #[s.v, t.v] w fun e w' => e = .returned (.bool (decide (s.ri = t.ri) && decide (s.bo = t.bo) && decide (s.lk = t.lk) && decide (s.lo = t.lo))) ∧ Below w.heap.size w w' := by
 obtain ⟨A0, A1, A2, A3, c0, c1, c2, c3, r0, r1, r2, r3⟩ := s
 obtain ⟨B0, B1, B2, B3, d0, d1, d2, d3, s0, s1, s2, s3⟩ := t
 obtain ⟨h0, h1, h2, h3, m0, m1, m2, m3⟩ := hs
 obtain ⟨k0, k1, k2, k3, -, -, -, -⟩ := ht
 show Calls _ _ #[.agg #[.slice A0 r0.length c0, .slice A1 r1.length c1, .slice A2 r2.length c2, .slice A3 r3.length c3], .agg #[.slice B0 s0.length d0, .slice B1 s1.length d1, .slice B2 s2.length d2, .slice B3 s3.length d3]] _ fun e w' => e = .returned (.bool (decide (r0 = s0) && decide (r1 = s1) && decide (r2 = s2) && decide (r3 = s3))) ∧ _
 dsimp only at *
 have H0 := Lib.hid (fun W (hW : Below w.heap.size w W) => same_any A0 B0 c0 d0 r0 s0 W (h0.ext hW) (k0.ext hW) m0)
 have H1 := Lib.hid (fun W (hW : Below w.heap.size w W) => same_any A1 B1 c1 d1 r1 s1 W (h1.ext hW) (k1.ext hW) m1)
 have H2 := Lib.hid (fun W (hW : Below w.heap.size w W) => same_any A2 B2 c2 d2 r2 s2 W (h2.ext hW) (k2.ext hW) m2)
 have H3 := Lib.hid (fun W (hW : Below w.heap.size w W) => same_any A3 B3 c3 d3 r3 s3 W (h3.ext hW) (k3.ext hW) m3)
 clear h0 h1 h2 h3 k0 k1 k2 k3 m0 m1 m2 m3
 generalize decide (r0 = s0) = b0 at *
 generalize decide (r1 = s1) = b1 at *
 generalize decide (r2 = s2) = b2 at *
 generalize decide (r3 = s3) = b3 at *
 have K0 : Hid (Below w.heap.size w ((w.alloc (.cells #[.slice A0 r0.length c0, .slice A1 r1.length c1, .slice A2 r2.length c2, .slice A3 r3.length c3] 27)).alloc (.cells #[.slice B0 s0.length d0, .slice B1 s1.length d1, .slice B2 s2.length d2, .slice B3 s3.length d3] 27)) ∧ Blk ((w.alloc (.cells #[.slice A0 r0.length c0, .slice A1 r1.length c1, .slice A2 r2.length c2, .slice A3 r3.length c3] 27)).alloc (.cells #[.slice B0 s0.length d0, .slice B1 s1.length d1, .slice B2 s2.length d2, .slice B3 s3.length d3] 27)) w.heap.size #[.slice A0 r0.length c0, .slice A1 r1.length c1, .slice A2 r2.length c2, .slice A3 r3.length c3] 27 ∧ Blk ((w.alloc (.cells #[.slice A0 r0.length c0, .slice A1 r1.length c1, .slice A2 r2.length c2, .slice A3 r3.length c3] 27)).alloc (.cells #[.slice B0 s0.length d0, .slice B1 s1.length d1, .slice B2 s2.length d2, .slice B3 s3.length d3] 27)) (w.heap.size + 1) #[.slice B0 s0.length d0, .slice B1 s1.length d1, .slice B2 s2.length d2, .slice B3 s3.length d3] 27) :=
  Lib.hid ⟨((Below.refl _ w).alloc (Nat.le_refl _) _).alloc (by simp) _, blk_alloc (blk_new _ _ _ rfl) _, blk_new _ _ _ (by simp)⟩
 go_enter Try.func58, Try.ntmps58
 go_upto_region 1 with fail
 generalize (w.alloc (.cells #[.slice A0 r0.length c0, .slice A1 r1.length c1, .slice A2 r2.length c2, .slice A3 r3.length c3] 27)).alloc (.cells #[.slice B0 s0.length d0, .slice B1 s1.length d1, .slice B2 s2.length d2, .slice B3 s3.length d3] 27) = w2 at *
 have p0 := cr 0 K0.out.2.1
 have p1 := cr 0 K0.out.2.2
 go_upto_region 2 with (go_at_call 29; refine (H0.out _ K0.out.1).mono ?_; rintro e w3 ⟨rfl, hb⟩; have K1 := hd3 (K0.out.1.trans (hb.mono K0.out.1.size)) (blk_on K0.out.2.1 hb) (blk_on K0.out.2.2 hb); clear hb)
 clear p0 p1
 have p0 := cr 1 K1.out.2.1
 have p1 := cr 1 K1.out.2.2
 go_upto_region 3 with (go_at_call 29; refine (H1.out _ K1.out.1).mono ?_; rintro e w4 ⟨rfl, hb⟩; have K2 := hd3 (K1.out.1.trans (hb.mono K1.out.1.size)) (blk_on K1.out.2.1 hb) (blk_on K1.out.2.2 hb); clear hb)
 clear p0 p1
 have p0 := cr 2 K2.out.2.1
 have p1 := cr 2 K2.out.2.2
 go_upto_region 4 with (go_at_call 29; refine (H2.out _ K2.out.1).mono ?_; rintro e w5 ⟨rfl, hb⟩; have K3 := hd3 (K2.out.1.trans (hb.mono K2.out.1.size)) (blk_on K2.out.2.1 hb) (blk_on K2.out.2.2 hb); clear hb)
 clear p0 p1
 have p0 := cr 3 K3.out.2.1
 have p1 := cr 3 K3.out.2.2
 go_upto_region 5 with (go_at_call 29; refine (H3.out _ K3.out.1).mono ?_; rintro e w6 ⟨rfl, hb⟩; have K4 := hd3 (K3.out.1.trans (hb.mono K3.out.1.size)) (blk_on K3.out.2.1 hb) (blk_on K3.out.2.2 hb); clear hb)
 clear p0 p1
 cases b0 <;> cases b1 <;> cases b2 <;> cases b3 <;> (go_wp2; go_ret; exact ⟨rfl, K4.out.1⟩)
end Go.Proofs.Ytdadoelajhemjaa
namespace Go.Proofs.Ytdadoelajhemjaa
open Go.RowKit Go.Shelf

/-- Where the works of the examples lie. -/
structure MA where
 P1 : Option Addr
 P2 : Option Addr
 P3 : Option Addr
 P4 : Option Addr
 O1 : Option Addr
 O2 : Option Addr
 c1 : Nat
 c2 : Nat
 c3 : Nat
 c4 : Nat
 k1 : Nat
 k2 : Nat
def mo1 (m : MA) : Ot := ⟨1, 1, m.P1, m.c1, [0, 40, 80], 0, 5, 2, 4⟩
def mo2 (m : MA) : Ot := ⟨2, -1, m.P2, m.c2, [0, 30], 1, 1, 0, 10⟩
def mo3 (m : MA) : Ot := ⟨3, -1, m.P3, m.c3, [0, 10, 20, 50], 0, 0, 1, 3⟩
def mo4 (m : MA) : Ot := ⟨4, -1, m.P4, m.c4, [0, 20], 0, 2, 0, 0⟩
def mead (m : MA) : List Car := [⟨m.O1, m.k1, [mo1 m, mo2 m]⟩, ⟨m.O2, m.k2, [mo3 m, mo4 m]⟩]

theorem rd_of_blk {W : World} {g : Nat} {xs : List Int} {ty : TypeId} (h : Blk W g (xs.map (Value.int .i64)).toArray ty) : Rd W W.heap.size (some ⟨g, 0, none⟩) xs := fun _ =>
 ⟨g, 0, rfl, (Array.getElem?_eq_some_iff.1 h).1, fun i hi => by
  rw [Nat.zero_add, cell_of_row W g i _ _ _ h]
  simp [nth, hi]⟩
theorem rdO_of_blk {W : World} {g : Nat} {x y : Ot} {ty : TypeId} (h : Blk W g (x.cells ++ y.cells).toArray ty) (hx : Rd W W.heap.size x.P x.ps) (hy : Rd W W.heap.size y.P y.ps) : RdO W W.heap.size (some ⟨g, 0, none⟩) [x, y] := fun _ =>
 ⟨g, 0, rfl, (Array.getElem?_eq_some_iff.1 h).1, fun i hi => by
  have hi2 : i < 2 := hi
  rcases (show i = 0 ∨ i = 1 by omega) with rfl | rfl
  ·exact ⟨by rw [cell_of_row W g _ _ _ _ h]; rfl, by rw [cell_of_row W g _ _ _ _ h]; rfl, by rw [cell_of_row W g _ _ _ _ h]; rfl, by rw [cell_of_row W g _ _ _ _ h]; rfl, by rw [cell_of_row W g _ _ _ _ h]; rfl, by rw [cell_of_row W g _ _ _ _ h]; rfl, by rw [cell_of_row W g _ _ _ _ h]; rfl, hx⟩
  ·exact ⟨by rw [cell_of_row W g _ _ _ _ h]; rfl, by rw [cell_of_row W g _ _ _ _ h]; rfl, by rw [cell_of_row W g _ _ _ _ h]; rfl, by rw [cell_of_row W g _ _ _ _ h]; rfl, by rw [cell_of_row W g _ _ _ _ h]; rfl, by rw [cell_of_row W g _ _ _ _ h]; rfl, by rw [cell_of_row W g _ _ _ _ h]; rfl, hy⟩⟩
def carW (w0 : World) (x y : Ot) : World := (((w0.alloc (.cells (x.ps.map (Value.int .i64)).toArray 3)).alloc (.cells (y.ps.map (Value.int .i64)).toArray 3)).alloc (.cells (x.cells ++ y.cells).toArray 42)).alloc (.cells #[.slice (some ⟨w0.heap.size + 1 + 1, 0, none⟩) 2 2] 38)
/-- What is known behind one carrier of the meadow. -/
structure CarK (w0 W : World) (x y : Ot) : Prop where
 bl : Below w0.heap.size w0 W
 b1 : Blk W w0.heap.size (x.ps.map (Value.int .i64)).toArray 3
 b2 : Blk W (w0.heap.size + 1) (y.ps.map (Value.int .i64)).toArray 3
 b3 : Blk W (w0.heap.size + 1 + 1) (x.cells ++ y.cells).toArray 42
 bk : Blk W (w0.heap.size + 1 + 1 + 1) #[.slice (some ⟨w0.heap.size + 1 + 1, 0, none⟩) 2 2] 38
 sz : W.heap.size = w0.heap.size + 1 + 1 + 1 + 1
theorem car_known (w0 : World) (x y : Ot) : CarK w0 (carW w0 x y) x y :=
 ⟨((((Below.refl _ w0).alloc (Nat.le_refl _) _).alloc (by simp) _).alloc (by simp; omega) _).alloc (by simp; omega) _, blk_alloc (blk_alloc (blk_alloc (blk_new _ _ _ rfl) _) _) _, blk_alloc (blk_alloc (blk_new _ _ _ (by simp)) _) _, blk_alloc (blk_new _ _ _ (by simp)) _, blk_new _ _ _ (by simp), by simp [carW]⟩
theorem CarK.on {w0 W W' : World} {x y : Ot} (h : CarK w0 W x y) (hb : Below W.heap.size W W') : Blk W' w0.heap.size (x.ps.map (Value.int .i64)).toArray 3 ∧ Blk W' (w0.heap.size + 1) (y.ps.map (Value.int .i64)).toArray 3 ∧ Blk W' (w0.heap.size + 1 + 1) (x.cells ++ y.cells).toArray 42 ∧ Blk W' (w0.heap.size + 1 + 1 + 1) #[.slice (some ⟨w0.heap.size + 1 + 1, 0, none⟩) 2 2] 38 :=
 ⟨blk_on h.b1 hb, blk_on h.b2 hb, blk_on h.b3 hb, blk_on h.bk hb⟩
theorem blk_set {W : World} {g : Nat} {cs : Array Value} {ty : TypeId} (h : Blk W g cs ty) {p : Addr} (hp : g ≠ p.block) (v : Value) : Blk (W.setCell p v) g cs ty := (Below.heap_setCell _ _ _ _ hp).trans h
def exM (a b : Nat) : MA := ⟨some ⟨a, 0, none⟩, some ⟨a + 1, 0, none⟩, some ⟨b, 0, none⟩, some ⟨b + 1, 0, none⟩, some ⟨a + 1 + 1, 0, none⟩, some ⟨b + 1 + 1, 0, none⟩, 3, 2, 4, 2, 2, 2⟩
theorem mead_wk {W : World} {a b D : Nat} {ty1 ty2 ty3 ty4 ty5 ty6 ty7 : TypeId} (h1 : Blk W a ((mo1 (exM a b)).ps.map (Value.int .i64)).toArray ty1) (h2 : Blk W (a + 1) ((mo2 (exM a b)).ps.map (Value.int .i64)).toArray ty2)
  (h3 : Blk W (a + 1 + 1) ((mo1 (exM a b)).cells ++ (mo2 (exM a b)).cells).toArray ty3) (h4 : Blk W b ((mo3 (exM a b)).ps.map (Value.int .i64)).toArray ty4) (h5 : Blk W (b + 1) ((mo4 (exM a b)).ps.map (Value.int .i64)).toArray ty5)
  (h6 : Blk W (b + 1 + 1) ((mo3 (exM a b)).cells ++ (mo4 (exM a b)).cells).toArray ty6) (h7 : Blk W D #[.slice (some ⟨a + 1 + 1, 0, none⟩) 2 2, .slice (some ⟨b + 1 + 1, 0, none⟩) 2 2] ty7) : Wk W (some ⟨D, 0, none⟩) (mead (exM a b)) := by
 refine ⟨fun _ => ⟨D, 0, rfl, (Array.getElem?_eq_some_iff.1 h7).1, fun i hi => ?_⟩, by show (2 : Nat) ≤ 1000; omega, by show (4 : Nat) ≤ 1000; omega, fun i hi => ?_⟩
 ·have hi2 : i < 2 := hi
  rcases (show i = 0 ∨ i = 1 by omega) with rfl | rfl
  ·exact ⟨by rw [cell_of_row W D _ _ _ _ h7]; rfl, rdO_of_blk (x := mo1 (exM a b)) (y := mo2 (exM a b)) h3 (rd_of_blk h1) (rd_of_blk h2)⟩
  ·exact ⟨by rw [cell_of_row W D _ _ _ _ h7]; rfl, rdO_of_blk (x := mo3 (exM a b)) (y := mo4 (exM a b)) h6 (rd_of_blk h4) (rd_of_blk h5)⟩
 ·have hi4 : i < 4 := hi
  rcases (show i = 0 ∨ i = 1 ∨ i = 2 ∨ i = 3 by omega) with rfl | rfl | rfl | rfl
  ·show (3 : Nat) ≤ 1000; omega
  ·show (2 : Nat) ≤ 1000; omega
  ·show (4 : Nat) ≤ 1000; omega
  ·show (2 : Nat) ≤ 1000; omega

set_option maxRecDepth 100000 in
set_option maxHeartbeats 1600000 in
theorem Meadow_any (w : World) : Calls Try.prog 76 #[] w fun e w' => ∃ (m : MA) (A : Option Addr) (c : Nat), e = .returned (.agg #[.slice A (mead m).length c]) ∧ Wk w' A (mead m) ∧ Below w.heap.size w w' := by
 have hb0 : Below w.heap.size w (w.alloc (.cells #[.slice none 0 0] 24)) := (Below.refl _ w).alloc (Nat.le_refl _) _
 have q0 : Blk (w.alloc (.cells #[.slice none 0 0] 24)) w.heap.size #[.slice none 0 0] 24 := blk_new _ _ _ rfl
 have hs0 : (w.alloc (.cells #[.slice none 0 0] 24)).heap.size = w.heap.size + 1 := by simp
 have H0 := hd3 hb0 q0 hs0
 clear hb0 q0 hs0
 go_enter Try.func76, Try.ntmps76
 go_upto_region 1 with fail
 generalize w.alloc (.cells #[.slice none 0 0] 24) = w0 at *
 go_upto_region 2 with fail
 have H1 : Hid (CarK w0 ((((w0.alloc (.cells #[.int .i64 0, .int .i64 40, .int .i64 80] 3)).alloc (.cells #[.int .i64 0, .int .i64 30] 3)).alloc (.cells #[.int .i64 1, .int .i64 1, .slice (some ⟨w0.heap.size, 0, none⟩) 3 3, .int .i64 0, .int .i64 5, .int .i64 2, .int .i64 4, .int .i64 2, .int .i64 (-1), .slice (some ⟨w0.heap.size + 1, 0, none⟩) 2 2, .int .i64 1, .int .i64 1, .int .i64 0, .int .i64 10] 42)).alloc (.cells #[.slice (some ⟨w0.heap.size + 1 + 1, 0, none⟩) 2 2] 38)) (mo1 (exM w0.heap.size 0)) (mo2 (exM w0.heap.size 0))) := Lib.hid (car_known w0 (mo1 (exM w0.heap.size 0)) (mo2 (exM w0.heap.size 0)))
 generalize (((w0.alloc (.cells #[.int .i64 0, .int .i64 40, .int .i64 80] 3)).alloc (.cells #[.int .i64 0, .int .i64 30] 3)).alloc (.cells #[.int .i64 1, .int .i64 1, .slice (some ⟨w0.heap.size, 0, none⟩) 3 3, .int .i64 0, .int .i64 5, .int .i64 2, .int .i64 4, .int .i64 2, .int .i64 (-1), .slice (some ⟨w0.heap.size + 1, 0, none⟩) 2 2, .int .i64 1, .int .i64 1, .int .i64 0, .int .i64 10] 42)).alloc (.cells #[.slice (some ⟨w0.heap.size + 1 + 1, 0, none⟩) 2 2] 38) = w1 at *
 go_upto_region 3 with fail
 have H2 : Hid (CarK w1 ((((w1.alloc (.cells #[.int .i64 0, .int .i64 10, .int .i64 20, .int .i64 50] 3)).alloc (.cells #[.int .i64 0, .int .i64 20] 3)).alloc (.cells #[.int .i64 3, .int .i64 (-1), .slice (some ⟨w1.heap.size, 0, none⟩) 4 4, .int .i64 0, .int .i64 0, .int .i64 1, .int .i64 3, .int .i64 4, .int .i64 (-1), .slice (some ⟨w1.heap.size + 1, 0, none⟩) 2 2, .int .i64 0, .int .i64 2, .int .i64 0, .int .i64 0] 42)).alloc (.cells #[.slice (some ⟨w1.heap.size + 1 + 1, 0, none⟩) 2 2] 38)) (mo3 (exM 0 w1.heap.size)) (mo4 (exM 0 w1.heap.size))) := Lib.hid (car_known w1 (mo3 (exM 0 w1.heap.size)) (mo4 (exM 0 w1.heap.size)))
 generalize (((w1.alloc (.cells #[.int .i64 0, .int .i64 10, .int .i64 20, .int .i64 50] 3)).alloc (.cells #[.int .i64 0, .int .i64 20] 3)).alloc (.cells #[.int .i64 3, .int .i64 (-1), .slice (some ⟨w1.heap.size, 0, none⟩) 4 4, .int .i64 0, .int .i64 0, .int .i64 1, .int .i64 3, .int .i64 4, .int .i64 (-1), .slice (some ⟨w1.heap.size + 1, 0, none⟩) 2 2, .int .i64 0, .int .i64 2, .int .i64 0, .int .i64 0] 42)).alloc (.cells #[.slice (some ⟨w1.heap.size + 1 + 1, 0, none⟩) 2 2] 38) = w2 at *
 have r0 := blk_on (blk_on H0.out.2.1 (H1.out.bl)) H2.out.bl
 have rA := blk_alloc r0 (.cells #[.slice (some ⟨w0.heap.size + 1 + 1, 0, none⟩) 2 2, .slice (some ⟨w1.heap.size + 1 + 1, 0, none⟩) 2 2] 38)
 have p0 := cr 0 rA
 have f0 := bf 0 rA
 have p1 := cr 0 (H1.out.on H2.out.bl).2.2.2
 have p2 := cr 0 H2.out.bk
 have HF : Hid (((w2.alloc (.cells #[.slice (some ⟨w0.heap.size + 1 + 1, 0, none⟩) 2 2, .slice (some ⟨w1.heap.size + 1 + 1, 0, none⟩) 2 2] 38)).setCell ⟨w.heap.size, 0, none⟩ (.slice (some ⟨w2.heap.size, 0, none⟩) 2 2)).cell? ⟨w.heap.size, 0, none⟩ = some (.slice (some ⟨w2.heap.size, 0, none⟩) 2 2) ∧ Wk ((w2.alloc (.cells #[.slice (some ⟨w0.heap.size + 1 + 1, 0, none⟩) 2 2, .slice (some ⟨w1.heap.size + 1 + 1, 0, none⟩) 2 2] 38)).setCell ⟨w.heap.size, 0, none⟩ (.slice (some ⟨w2.heap.size, 0, none⟩) 2 2)) (some ⟨w2.heap.size, 0, none⟩) (mead (exM w0.heap.size w1.heap.size)) ∧ Below w.heap.size w ((w2.alloc (.cells #[.slice (some ⟨w0.heap.size + 1 + 1, 0, none⟩) 2 2, .slice (some ⟨w1.heap.size + 1 + 1, 0, none⟩) 2 2] 38)).setCell ⟨w.heap.size, 0, none⟩ (.slice (some ⟨w2.heap.size, 0, none⟩) 2 2))) := by
  have s0 := H0.out.2.2
  have s1 := H1.out.sz
  have s2 := H2.out.sz
  obtain ⟨a1, a2, a3, _⟩ := H1.out.on H2.out.bl
  have bA := blk_new w2 #[.slice (some ⟨w0.heap.size + 1 + 1, 0, none⟩) 2 2, .slice (some ⟨w1.heap.size + 1 + 1, 0, none⟩) 2 2] 38 rfl
  refine Lib.hid ⟨?_, mead_wk (blk_set (blk_alloc a1 _) (by show _ ≠ w.heap.size; omega) _) (blk_set (blk_alloc a2 _) (by show _ ≠ w.heap.size; omega) _) (blk_set (blk_alloc a3 _) (by show _ ≠ w.heap.size; omega) _) (blk_set (blk_alloc H2.out.b1 _) (by show _ ≠ w.heap.size; omega) _) (blk_set (blk_alloc H2.out.b2 _) (by show _ ≠ w.heap.size; omega) _) (blk_set (blk_alloc H2.out.b3 _) (by show _ ≠ w.heap.size; omega) _) (blk_set bA (by show _ ≠ w.heap.size; omega) _), ?_⟩
  ·exact World.cell?_setCell_same' _ _ _ (by rw [cr 0 (blk_alloc r0 _)]; rfl)
  ·exact ((((H0.out.1.trans (H1.out.bl.mono (by omega))).trans (H2.out.bl.mono (by omega)))).alloc (by omega) _).setCell (p := ⟨w.heap.size, 0, none⟩) (Nat.le_refl _) _
 clear H0 H1 H2 r0 rA
 go_wp2
 have q1 := HF.out.1
 exact bodyPost_ret (v := .agg #[.slice (some ⟨w2.heap.size, 0, none⟩) 2 2]) (by simp [results, Try.results76, go_sem, q1]) rfl ⟨exM w0.heap.size w1.heap.size, _, 2, rfl, HF.out.2.1, HF.out.2.2⟩
end Go.Proofs.Ytdadoelajhemjaa
namespace Go.Proofs.Ytdadoelajhemjaa
open Go.RowKit Go.Shelf

theorem blk_set4 {W : World} {g : Nat} {ty : TypeId} {z0 z1 z2 z3 : Value} (h : Blk W g #[z0, z1, z2, z3] ty) (v0 v1 v2 v3 : Value) : Blk ((((W.setCell ⟨g, 0, none⟩ v0).setCell ⟨g, 1, none⟩ v1).setCell ⟨g, 2, none⟩ v2).setCell ⟨g, 3, none⟩ v3) g #[v0, v1, v2, v3] ty := by
 have h1 : Blk (W.setCell ⟨g, 0, none⟩ v0) g #[v0, z1, z2, z3] ty := heap_setCell_same _ _ 0 _ _ _ h
 have h2 : Blk ((W.setCell ⟨g, 0, none⟩ v0).setCell ⟨g, 1, none⟩ v1) g #[v0, v1, z2, z3] ty := heap_setCell_same _ _ 1 _ _ _ h1
 have h3 : Blk (((W.setCell ⟨g, 0, none⟩ v0).setCell ⟨g, 1, none⟩ v1).setCell ⟨g, 2, none⟩ v2) g #[v0, v1, v2, z3] ty := heap_setCell_same _ _ 2 _ _ _ h2
 exact heap_setCell_same _ _ 3 _ _ _ h3
theorem blk_set2 {W : World} {g : Nat} {ty : TypeId} {z0 z1 : Value} (h : Blk W g #[z0, z1] ty) (v0 v1 : Value) : Blk ((W.setCell ⟨g, 0, none⟩ v0).setCell ⟨g, 1, none⟩ v1) g #[v0, v1] ty := by
 have h1 : Blk (W.setCell ⟨g, 0, none⟩ v0) g #[v0, z1] ty := heap_setCell_same _ _ 0 _ _ _ h
 exact heap_setCell_same _ _ 1 _ _ _ h1
theorem blk_other4 {W : World} {g b : Nat} {cs : Array Value} {ty : TypeId} (h : Blk W b cs ty) (hb : b ≠ g) (v0 v1 v2 v3 : Value) : Blk ((((W.setCell ⟨g, 0, none⟩ v0).setCell ⟨g, 1, none⟩ v1).setCell ⟨g, 2, none⟩ v2).setCell ⟨g, 3, none⟩ v3) b cs ty :=
 blk_set (p := ⟨g, 3, none⟩) (blk_set (p := ⟨g, 2, none⟩) (blk_set (p := ⟨g, 1, none⟩) (blk_set (p := ⟨g, 0, none⟩) h hb _) hb _) hb _) hb _
theorem blk_other2 {W : World} {g b : Nat} {cs : Array Value} {ty : TypeId} (h : Blk W b cs ty) (hb : b ≠ g) (v0 v1 : Value) : Blk ((W.setCell ⟨g, 0, none⟩ v0).setCell ⟨g, 1, none⟩ v1) b cs ty :=
 blk_set (p := ⟨g, 1, none⟩) (blk_set (p := ⟨g, 0, none⟩) h hb _) hb _

set_option maxRecDepth 100000 in
set_option maxHeartbeats 1600000 in
theorem Now_any (w : World) : Calls Try.prog 77 #[] w fun e w' => ∃ (s : Wt), e = .returned s.v ∧ (s.ri = [100] ∧ s.bo = [1, 1, 2, 1] ∧ s.lk = [5, 1, 0, 2] ∧ s.lo = [2, 10, 3, 0]) ∧ Wet w' s ∧ Below w.heap.size w w' := by
 have hb0 : Below w.heap.size w (w.alloc (.cells #[.slice none 0 0, .slice none 0 0, .slice none 0 0, .slice none 0 0] 27)) := (Below.refl _ w).alloc (Nat.le_refl _) _
 have q0 : Blk (w.alloc (.cells #[.slice none 0 0, .slice none 0 0, .slice none 0 0, .slice none 0 0] 27)) w.heap.size #[.slice none 0 0, .slice none 0 0, .slice none 0 0, .slice none 0 0] 27 := blk_new _ _ _ rfl
 have hs0 : (w.alloc (.cells #[.slice none 0 0, .slice none 0 0, .slice none 0 0, .slice none 0 0] 27)).heap.size = w.heap.size + 1 := by simp
 have H0 := hd3 hb0 q0 hs0
 clear hb0 q0 hs0
 go_enter Try.func77, Try.ntmps77
 go_upto_region 1 with fail
 generalize w.alloc (.cells #[.slice none 0 0, .slice none 0 0, .slice none 0 0, .slice none 0 0] 27) = w0 at *
 have H1 : Hid (Blk ((((w0.alloc (.cells #[.int .i64 100] 3)).alloc (.cells #[.int .i64 1, .int .i64 1, .int .i64 2, .int .i64 1] 3)).alloc (.cells #[.int .i64 5, .int .i64 1, .int .i64 0, .int .i64 2] 3)).alloc (.cells #[.int .i64 2, .int .i64 10, .int .i64 3, .int .i64 0] 3)) w.heap.size #[.slice none 0 0, .slice none 0 0, .slice none 0 0, .slice none 0 0] 27) := Lib.hid (blk_alloc (blk_alloc (blk_alloc (blk_alloc H0.out.2.1 _) _) _) _)
 have HF : Hid (Blk ((((((((w0.alloc (.cells #[.int .i64 100] 3)).alloc (.cells #[.int .i64 1, .int .i64 1, .int .i64 2, .int .i64 1] 3)).alloc (.cells #[.int .i64 5, .int .i64 1, .int .i64 0, .int .i64 2] 3)).alloc (.cells #[.int .i64 2, .int .i64 10, .int .i64 3, .int .i64 0] 3)).setCell ⟨w.heap.size, 0, none⟩ (.slice (some ⟨w0.heap.size, 0, none⟩) 1 1)).setCell ⟨w.heap.size, 1, none⟩ (.slice (some ⟨w0.heap.size + 1, 0, none⟩) 4 4)).setCell ⟨w.heap.size, 2, none⟩ (.slice (some ⟨w0.heap.size + 1 + 1, 0, none⟩) 4 4)).setCell ⟨w.heap.size, 3, none⟩ (.slice (some ⟨w0.heap.size + 1 + 1 + 1, 0, none⟩) 4 4)) w.heap.size #[.slice (some ⟨w0.heap.size, 0, none⟩) 1 1, .slice (some ⟨w0.heap.size + 1, 0, none⟩) 4 4, .slice (some ⟨w0.heap.size + 1 + 1, 0, none⟩) 4 4, .slice (some ⟨w0.heap.size + 1 + 1 + 1, 0, none⟩) 4 4] 27 ∧
   Wet ((((((((w0.alloc (.cells #[.int .i64 100] 3)).alloc (.cells #[.int .i64 1, .int .i64 1, .int .i64 2, .int .i64 1] 3)).alloc (.cells #[.int .i64 5, .int .i64 1, .int .i64 0, .int .i64 2] 3)).alloc (.cells #[.int .i64 2, .int .i64 10, .int .i64 3, .int .i64 0] 3)).setCell ⟨w.heap.size, 0, none⟩ (.slice (some ⟨w0.heap.size, 0, none⟩) 1 1)).setCell ⟨w.heap.size, 1, none⟩ (.slice (some ⟨w0.heap.size + 1, 0, none⟩) 4 4)).setCell ⟨w.heap.size, 2, none⟩ (.slice (some ⟨w0.heap.size + 1 + 1, 0, none⟩) 4 4)).setCell ⟨w.heap.size, 3, none⟩ (.slice (some ⟨w0.heap.size + 1 + 1 + 1, 0, none⟩) 4 4)) ⟨some ⟨w0.heap.size, 0, none⟩, some ⟨w0.heap.size + 1, 0, none⟩, some ⟨w0.heap.size + 1 + 1, 0, none⟩, some ⟨w0.heap.size + 1 + 1 + 1, 0, none⟩, 1, 4, 4, 4, [100], [1, 1, 2, 1], [5, 1, 0, 2], [2, 10, 3, 0]⟩ ∧ Below w.heap.size w ((((((((w0.alloc (.cells #[.int .i64 100] 3)).alloc (.cells #[.int .i64 1, .int .i64 1, .int .i64 2, .int .i64 1] 3)).alloc (.cells #[.int .i64 5, .int .i64 1, .int .i64 0, .int .i64 2] 3)).alloc (.cells #[.int .i64 2, .int .i64 10, .int .i64 3, .int .i64 0] 3)).setCell ⟨w.heap.size, 0, none⟩ (.slice (some ⟨w0.heap.size, 0, none⟩) 1 1)).setCell ⟨w.heap.size, 1, none⟩ (.slice (some ⟨w0.heap.size + 1, 0, none⟩) 4 4)).setCell ⟨w.heap.size, 2, none⟩ (.slice (some ⟨w0.heap.size + 1 + 1, 0, none⟩) 4 4)).setCell ⟨w.heap.size, 3, none⟩ (.slice (some ⟨w0.heap.size + 1 + 1 + 1, 0, none⟩) 4 4))) := by
  have s0 := H0.out.2.2
  have b0 : Blk ((((w0.alloc (.cells #[.int .i64 100] 3)).alloc (.cells #[.int .i64 1, .int .i64 1, .int .i64 2, .int .i64 1] 3)).alloc (.cells #[.int .i64 5, .int .i64 1, .int .i64 0, .int .i64 2] 3)).alloc (.cells #[.int .i64 2, .int .i64 10, .int .i64 3, .int .i64 0] 3)) w0.heap.size #[.int .i64 100] 3 := blk_alloc (blk_alloc (blk_alloc (blk_new _ _ _ rfl) _) _) _
  have b1 : Blk ((((w0.alloc (.cells #[.int .i64 100] 3)).alloc (.cells #[.int .i64 1, .int .i64 1, .int .i64 2, .int .i64 1] 3)).alloc (.cells #[.int .i64 5, .int .i64 1, .int .i64 0, .int .i64 2] 3)).alloc (.cells #[.int .i64 2, .int .i64 10, .int .i64 3, .int .i64 0] 3)) (w0.heap.size + 1) #[.int .i64 1, .int .i64 1, .int .i64 2, .int .i64 1] 3 := blk_alloc (blk_alloc (blk_new _ _ _ (by simp)) _) _
  have b2 : Blk ((((w0.alloc (.cells #[.int .i64 100] 3)).alloc (.cells #[.int .i64 1, .int .i64 1, .int .i64 2, .int .i64 1] 3)).alloc (.cells #[.int .i64 5, .int .i64 1, .int .i64 0, .int .i64 2] 3)).alloc (.cells #[.int .i64 2, .int .i64 10, .int .i64 3, .int .i64 0] 3)) (w0.heap.size + 1 + 1) #[.int .i64 5, .int .i64 1, .int .i64 0, .int .i64 2] 3 := blk_alloc (blk_new _ _ _ (by simp)) _
  have b3 : Blk ((((w0.alloc (.cells #[.int .i64 100] 3)).alloc (.cells #[.int .i64 1, .int .i64 1, .int .i64 2, .int .i64 1] 3)).alloc (.cells #[.int .i64 5, .int .i64 1, .int .i64 0, .int .i64 2] 3)).alloc (.cells #[.int .i64 2, .int .i64 10, .int .i64 3, .int .i64 0] 3)) (w0.heap.size + 1 + 1 + 1) #[.int .i64 2, .int .i64 10, .int .i64 3, .int .i64 0] 3 := blk_new _ _ _ (by simp)
  have hb : Below w.heap.size w ((((w0.alloc (.cells #[.int .i64 100] 3)).alloc (.cells #[.int .i64 1, .int .i64 1, .int .i64 2, .int .i64 1] 3)).alloc (.cells #[.int .i64 5, .int .i64 1, .int .i64 0, .int .i64 2] 3)).alloc (.cells #[.int .i64 2, .int .i64 10, .int .i64 3, .int .i64 0] 3)) := (((H0.out.1.alloc (by omega) _).alloc (by simp; omega) _).alloc (by simp; omega) _).alloc (by simp; omega) _
  exact Lib.hid ⟨blk_set4 H1.out _ _ _ _, ⟨rd_of_blk (xs := [100]) (blk_other4 b0 (by omega) _ _ _ _), rd_of_blk (xs := [1, 1, 2, 1]) (blk_other4 b1 (by omega) _ _ _ _), rd_of_blk (xs := [5, 1, 0, 2]) (blk_other4 b2 (by omega) _ _ _ _), rd_of_blk (xs := [2, 10, 3, 0]) (blk_other4 b3 (by omega) _ _ _ _), by show (1 : Nat) ≤ 1000; omega, by show (4 : Nat) ≤ 1000; omega, by show (4 : Nat) ≤ 1000; omega, by show (4 : Nat) ≤ 1000; omega⟩,
   (((hb.setCell (p := ⟨w.heap.size, 0, none⟩) (Nat.le_refl _) _).setCell (p := ⟨w.heap.size, 1, none⟩) (Nat.le_refl _) _).setCell (p := ⟨w.heap.size, 2, none⟩) (Nat.le_refl _) _).setCell (p := ⟨w.heap.size, 3, none⟩) (Nat.le_refl _) _⟩
 have p0 := cr 0 H1.out
 have p1 := cr 1 H1.out
 have p2 := cr 2 H1.out
 have p3 := cr 3 H1.out
 have f0 := bf 0 H1.out
 have f1 := bf 1 H1.out
 have f2 := bf 2 H1.out
 have f3 := bf 3 H1.out
 clear H0 H1
 go_wp2
 clear p0 p1 p2 p3 f0 f1 f2 f3
 have q0 := cr 0 HF.out.1
 have q1 := cr 1 HF.out.1
 have q2 := cr 2 HF.out.1
 have q3 := cr 3 HF.out.1
 generalize (((((((w0.alloc (.cells #[.int .i64 100] 3)).alloc (.cells #[.int .i64 1, .int .i64 1, .int .i64 2, .int .i64 1] 3)).alloc (.cells #[.int .i64 5, .int .i64 1, .int .i64 0, .int .i64 2] 3)).alloc (.cells #[.int .i64 2, .int .i64 10, .int .i64 3, .int .i64 0] 3)).setCell ⟨w.heap.size, 0, none⟩ (.slice (some ⟨w0.heap.size, 0, none⟩) 1 1)).setCell ⟨w.heap.size, 1, none⟩ (.slice (some ⟨w0.heap.size + 1, 0, none⟩) 4 4)).setCell ⟨w.heap.size, 2, none⟩ (.slice (some ⟨w0.heap.size + 1 + 1, 0, none⟩) 4 4)).setCell ⟨w.heap.size, 3, none⟩ (.slice (some ⟨w0.heap.size + 1 + 1 + 1, 0, none⟩) 4 4) = wz at *
 exact bodyPost_ret (v := .agg #[.slice (some ⟨w0.heap.size, 0, none⟩) 1 1, .slice (some ⟨w0.heap.size + 1, 0, none⟩) 4 4, .slice (some ⟨w0.heap.size + 1 + 1, 0, none⟩) 4 4, .slice (some ⟨w0.heap.size + 1 + 1 + 1, 0, none⟩) 4 4]) (by simp [results, Try.results77, go_sem, q0, q1, q2, q3]) rfl ⟨_, rfl, ⟨rfl, rfl, rfl, rfl⟩, HF.out.2.1, HF.out.2.2⟩

set_option maxRecDepth 100000 in
set_option maxHeartbeats 1600000 in
theorem Known_any (w : World) : Calls Try.prog 78 #[] w fun e w' => ∃ (s : Cs), e = .returned s.v ∧ (s.ri = [(60, 100)] ∧ s.bo = [(1, 2), (0, 1), (2, 2), (1, 1)]) ∧ Csd w' s ∧ Below w.heap.size w w' := by
 have hb0 : Below w.heap.size w (w.alloc (.cells #[.slice none 0 0, .slice none 0 0] 51)) := (Below.refl _ w).alloc (Nat.le_refl _) _
 have q0 : Blk (w.alloc (.cells #[.slice none 0 0, .slice none 0 0] 51)) w.heap.size #[.slice none 0 0, .slice none 0 0] 51 := blk_new _ _ _ rfl
 have hs0 : (w.alloc (.cells #[.slice none 0 0, .slice none 0 0] 51)).heap.size = w.heap.size + 1 := by simp
 have H0 := hd3 hb0 q0 hs0
 clear hb0 q0 hs0
 go_enter Try.func78, Try.ntmps78
 go_upto_region 1 with fail
 generalize w.alloc (.cells #[.slice none 0 0, .slice none 0 0] 51) = w0 at *
 have H1 : Hid (Blk ((w0.alloc (.cells #[.int .i64 60, .int .i64 100] 40)).alloc (.cells #[.int .i64 1, .int .i64 2, .int .i64 0, .int .i64 1, .int .i64 2, .int .i64 2, .int .i64 1, .int .i64 1] 40)) w.heap.size #[.slice none 0 0, .slice none 0 0] 51) := Lib.hid (blk_alloc (blk_alloc H0.out.2.1 _) _)
 have HF : Hid (Blk ((((w0.alloc (.cells #[.int .i64 60, .int .i64 100] 40)).alloc (.cells #[.int .i64 1, .int .i64 2, .int .i64 0, .int .i64 1, .int .i64 2, .int .i64 2, .int .i64 1, .int .i64 1] 40)).setCell ⟨w.heap.size, 0, none⟩ (.slice (some ⟨w0.heap.size, 0, none⟩) 1 1)).setCell ⟨w.heap.size, 1, none⟩ (.slice (some ⟨w0.heap.size + 1, 0, none⟩) 4 4)) w.heap.size #[.slice (some ⟨w0.heap.size, 0, none⟩) 1 1, .slice (some ⟨w0.heap.size + 1, 0, none⟩) 4 4] 51 ∧
   Csd ((((w0.alloc (.cells #[.int .i64 60, .int .i64 100] 40)).alloc (.cells #[.int .i64 1, .int .i64 2, .int .i64 0, .int .i64 1, .int .i64 2, .int .i64 2, .int .i64 1, .int .i64 1] 40)).setCell ⟨w.heap.size, 0, none⟩ (.slice (some ⟨w0.heap.size, 0, none⟩) 1 1)).setCell ⟨w.heap.size, 1, none⟩ (.slice (some ⟨w0.heap.size + 1, 0, none⟩) 4 4)) ⟨some ⟨w0.heap.size, 0, none⟩, some ⟨w0.heap.size + 1, 0, none⟩, 1, 4, [(60, 100)], [(1, 2), (0, 1), (2, 2), (1, 1)]⟩ ∧ Below w.heap.size w ((((w0.alloc (.cells #[.int .i64 60, .int .i64 100] 40)).alloc (.cells #[.int .i64 1, .int .i64 2, .int .i64 0, .int .i64 1, .int .i64 2, .int .i64 2, .int .i64 1, .int .i64 1] 40)).setCell ⟨w.heap.size, 0, none⟩ (.slice (some ⟨w0.heap.size, 0, none⟩) 1 1)).setCell ⟨w.heap.size, 1, none⟩ (.slice (some ⟨w0.heap.size + 1, 0, none⟩) 4 4))) := by
  have s0 := H0.out.2.2
  have b0 : Blk ((w0.alloc (.cells #[.int .i64 60, .int .i64 100] 40)).alloc (.cells #[.int .i64 1, .int .i64 2, .int .i64 0, .int .i64 1, .int .i64 2, .int .i64 2, .int .i64 1, .int .i64 1] 40)) w0.heap.size #[.int .i64 60, .int .i64 100] 40 := blk_alloc (blk_new _ _ _ rfl) _
  have b1 : Blk ((w0.alloc (.cells #[.int .i64 60, .int .i64 100] 40)).alloc (.cells #[.int .i64 1, .int .i64 2, .int .i64 0, .int .i64 1, .int .i64 2, .int .i64 2, .int .i64 1, .int .i64 1] 40)) (w0.heap.size + 1) #[.int .i64 1, .int .i64 2, .int .i64 0, .int .i64 1, .int .i64 2, .int .i64 2, .int .i64 1, .int .i64 1] 40 := blk_new _ _ _ (by simp)
  have hb : Below w.heap.size w ((w0.alloc (.cells #[.int .i64 60, .int .i64 100] 40)).alloc (.cells #[.int .i64 1, .int .i64 2, .int .i64 0, .int .i64 1, .int .i64 2, .int .i64 2, .int .i64 1, .int .i64 1] 40)) := (H0.out.1.alloc (by omega) _).alloc (by simp; omega) _
  have d0 := blk_other2 b0 (g := w.heap.size) (by omega) (.slice (some ⟨w0.heap.size, 0, none⟩) 1 1) (.slice (some ⟨w0.heap.size + 1, 0, none⟩) 4 4)
  have d1 := blk_other2 b1 (g := w.heap.size) (by omega) (.slice (some ⟨w0.heap.size, 0, none⟩) 1 1) (.slice (some ⟨w0.heap.size + 1, 0, none⟩) 4 4)
  refine Lib.hid ⟨blk_set2 H1.out _ _, ⟨fun _ => ⟨_, 0, rfl, (Array.getElem?_eq_some_iff.1 d0).1, fun i hi => ?_⟩, fun _ => ⟨_, 0, rfl, (Array.getElem?_eq_some_iff.1 d1).1, fun i hi => ?_⟩, by show (1 : Nat) ≤ 1000; omega, by show (4 : Nat) ≤ 1000; omega⟩,
   (hb.setCell (p := ⟨w.heap.size, 0, none⟩) (Nat.le_refl _) _).setCell (p := ⟨w.heap.size, 1, none⟩) (Nat.le_refl _) _⟩
  ·have hi2 : i < 1 := hi
   obtain rfl : i = 0 := by omega
   exact ⟨by rw [cell_of_row _ _ _ _ _ _ d0]; rfl, by rw [cell_of_row _ _ _ _ _ _ d0]; rfl⟩
  ·have hi2 : i < 4 := hi
   rcases (show i = 0 ∨ i = 1 ∨ i = 2 ∨ i = 3 by omega) with rfl | rfl | rfl | rfl
   ·exact ⟨by rw [cell_of_row _ _ _ _ _ _ d1]; rfl, by rw [cell_of_row _ _ _ _ _ _ d1]; rfl⟩
   ·exact ⟨by rw [cell_of_row _ _ _ _ _ _ d1]; rfl, by rw [cell_of_row _ _ _ _ _ _ d1]; rfl⟩
   ·exact ⟨by rw [cell_of_row _ _ _ _ _ _ d1]; rfl, by rw [cell_of_row _ _ _ _ _ _ d1]; rfl⟩
   ·exact ⟨by rw [cell_of_row _ _ _ _ _ _ d1]; rfl, by rw [cell_of_row _ _ _ _ _ _ d1]; rfl⟩
 have p0 := cr 0 H1.out
 have p1 := cr 1 H1.out
 have f0 := bf 0 H1.out
 have f1 := bf 1 H1.out
 clear H0 H1
 go_wp2
 clear p0 p1 f0 f1
 have q0 := cr 0 HF.out.1
 have q1 := cr 1 HF.out.1
 generalize (((w0.alloc (.cells #[.int .i64 60, .int .i64 100] 40)).alloc (.cells #[.int .i64 1, .int .i64 2, .int .i64 0, .int .i64 1, .int .i64 2, .int .i64 2, .int .i64 1, .int .i64 1] 40)).setCell ⟨w.heap.size, 0, none⟩ (.slice (some ⟨w0.heap.size, 0, none⟩) 1 1)).setCell ⟨w.heap.size, 1, none⟩ (.slice (some ⟨w0.heap.size + 1, 0, none⟩) 4 4) = wz at *
 exact bodyPost_ret (v := .agg #[.slice (some ⟨w0.heap.size, 0, none⟩) 1 1, .slice (some ⟨w0.heap.size + 1, 0, none⟩) 4 4]) (by simp [results, Try.results78, go_sem, q0, q1]) rfl ⟨_, rfl, ⟨rfl, rfl⟩, HF.out.2.1, HF.out.2.2⟩
end Go.Proofs.Ytdadoelajhemjaa
namespace Go.Proofs.Ytdadoelajhemjaa
open Go.RowKit Go.Shelf

def exN (s : Wt) : Prop := s.ri = [100] ∧ s.bo = [1, 1, 2, 1] ∧ s.lk = [5, 1, 0, 2] ∧ s.lo = [2, 10, 3, 0]
def exC (s : Cs) : Prop := s.ri = [(60, 100)] ∧ s.bo = [(1, 2), (0, 1), (2, 2), (1, 1)]
section
variable (m : MA)
set_option maxRecDepth 100000
theorem ex_check : checkE (mead m) = 0 := by kernel_rfl
theorem ex_cw {s : Wt} (h : exN s) : cwE (mead m) s = 0 := by
 obtain ⟨A0, A1, A2, A3, c0, c1, c2, c3, ri, bo, lk, lo⟩ := s
 obtain ⟨rfl, rfl, rfl, rfl⟩ := h
 kernel_rfl
theorem ex_flow {s : Wt} (h : exN s) : flowsO (mead m) s = [45, 31, 20, 22] := by
 obtain ⟨A0, A1, A2, A3, c0, c1, c2, c3, ri, bo, lk, lo⟩ := s
 obtain ⟨rfl, rfl, rfl, rfl⟩ := h
 kernel_rfl
theorem ex_tails {s : Wt} (h : exN s) : tailsO (mead m) s = [12, 0] := by
 obtain ⟨A0, A1, A2, A3, c0, c1, c2, c3, ri, bo, lk, lo⟩ := s
 obtain ⟨rfl, rfl, rfl, rfl⟩ := h
 kernel_rfl
theorem ex_lost {s : Wt} (h : exN s) : lostO (mead m) s = 15 := by
 obtain ⟨A0, A1, A2, A3, c0, c1, c2, c3, ri, bo, lk, lo⟩ := s
 obtain ⟨rfl, rfl, rfl, rfl⟩ := h
 kernel_rfl
theorem ex_idx4 : idxO (mead m) 4 = some 3 := by kernel_rfl
theorem ex_idx2 : idxO (mead m) 2 = some 1 := by kernel_rfl
theorem ex_ask4 {s : Cs} (h : exC s) : askE (mead m) s 4 = 0 := by
 obtain ⟨A0, A1, c0, c1, ri, bo⟩ := s
 obtain ⟨rfl, rfl⟩ := h
 kernel_rfl
theorem ex_ask2 {s : Cs} (h : exC s) : askE (mead m) s 2 = 0 := by
 obtain ⟨A0, A1, c0, c1, ri, bo⟩ := s
 obtain ⟨rfl, rfl⟩ := h
 kernel_rfl
theorem ex_ends4 {s : Cs} (h : exC s) : endsF (mead m) s 3 = (17, 22) := by
 obtain ⟨A0, A1, c0, c1, ri, bo⟩ := s
 obtain ⟨rfl, rfl⟩ := h
 kernel_rfl
theorem ex_ends2 {s : Cs} (h : exC s) : endsF (mead m) s 1 = (0, 31) := by
 obtain ⟨A0, A1, c0, c1, ri, bo⟩ := s
 obtain ⟨rfl, rfl⟩ := h
 kernel_rfl
theorem ex_least {s : Cs} (h : exC s) {t : Wt} (k : Corner (mead m) s 3 false t) : t.ri = [60] ∧ t.bo = [1, 0, 2, 1] ∧ t.lk = [0, 1, 0, 0] ∧ t.lo = [4, 0, 3, 0] := by
 obtain ⟨A0, A1, c0, c1, ri, bo⟩ := s
 obtain ⟨rfl, rfl⟩ := h
 exact ⟨k.ri.trans (by kernel_rfl), k.bo.trans (by kernel_rfl), k.lk.trans (by kernel_rfl), k.lo.trans (by kernel_rfl)⟩
theorem ex_rests {s : Cs} (h : exC s) : restE (mead m) s 4 = [1, 3, 4] := by
 obtain ⟨A0, A1, c0, c1, ri, bo⟩ := s
 obtain ⟨rfl, rfl⟩ := h
 kernel_rfl
theorem ex_open {s : Wt} (h : exN s) {e : Ending} (k : OpenR (mead m) s 4 21 e) : e = .returned (.tuple #[.int .i64 1, .int .i64 0]) := by
 obtain ⟨A0, A1, A2, A3, c0, c1, c2, c3, ri, bo, lk, lo⟩ := s
 obtain ⟨rfl, rfl, rfl, rfl⟩ := h
 rcases k with ⟨hw, _⟩ | ⟨_, x, hx, k⟩
 ·exact absurd (by kernel_rfl) hw
 ·rw [ex_idx4] at hx
  obtain rfl : 3 = x := by simpa using hx
  rcases k with ⟨hf, _⟩ | ⟨r, h0, h1, hp, _, he⟩
  ·have hz : openP (mead m) ⟨A0, A1, A2, A3, c0, c1, c2, c3, [100], [1, 1, 2, 1], [5, 1, 0, 2], [2, 10, 3, 0]⟩ 3 21 ((oAt (outs (mead m)) 3).ps.length - 1) = true := by kernel_rfl
   rw [hz] at hf; cases hf
  ·have h2 : r ≤ 1 := h1
   have hz : openP (mead m) ⟨A0, A1, A2, A3, c0, c1, c2, c3, [100], [1, 1, 2, 1], [5, 1, 0, 2], [2, 10, 3, 0]⟩ 3 21 0 = false := by kernel_rfl
   rcases (show r = 0 ∨ r = 1 by omega) with rfl | rfl
   ·rw [hz] at hp; cases hp
   ·exact he
theorem ex_send {s : Wt} (h : exN s) {e : Ending} (k : SendR (mead m) s 4 22 e) : e = .returned (.tuple #[.int .i64 47, .int .i64 0]) := by
 obtain ⟨A0, A1, A2, A3, c0, c1, c2, c3, ri, bo, lk, lo⟩ := s
 obtain ⟨rfl, rfl, rfl, rfl⟩ := h
 rcases k with ⟨hw, _⟩ | ⟨_, x, k, hx, hk, _, k'⟩
 ·exact absurd (by kernel_rfl) hw
 ·rw [ex_idx4] at hx
  obtain rfl : 3 = x := by simpa using hx
  have hk1 : k < 1 := hk
  obtain rfl : k = 0 := by omega
  have hall : ((List.range 47).all fun j => !sendP (mead m) ⟨A0, A1, A2, A3, c0, c1, c2, c3, [100], [1, 1, 2, 1], [5, 1, 0, 2], [2, 10, 3, 0]⟩ 3 0 22 (j : Int)) = true := by kernel_rfl
  have h47 : sendP (mead m) ⟨A0, A1, A2, A3, c0, c1, c2, c3, [100], [1, 1, 2, 1], [5, 1, 0, 2], [2, 10, 3, 0]⟩ 3 0 22 47 = true := by kernel_rfl
  rcases k' with ⟨hf, _⟩ | ⟨r, h0, h1, hp, hm, he⟩
  ·have hz : sendP (mead m) ⟨A0, A1, A2, A3, c0, c1, c2, c3, [100], [1, 1, 2, 1], [5, 1, 0, 2], [2, 10, 3, 0]⟩ 3 0 22 1048576 = true := by kernel_rfl
   rw [hz] at hf; cases hf
  ·rcases (show r < 47 ∨ r = 47 ∨ 47 < r by omega) with hr | rfl | hr
   ·have h3 := List.all_eq_true.1 hall r.toNat (List.mem_range.2 (by omega))
    rw [show ((r.toNat : Nat) : Int) = r by omega, hp] at h3
    cases h3
   ·exact he
   ·rw [hm 47 (by omega) hr] at h47; cases h47
end
end Go.Proofs.Ytdadoelajhemjaa
namespace Go.Proofs.Ytdadoelajhemjaa
open Go.RowKit Go.Shelf

/-- What holds of a world, and of all that go on from it. -/
def Stays (F : World → Prop) (W : World) : Prop := F W ∧ ∀ X Y : World, F X → Below X.heap.size X Y → F Y
theorem Stays.on {F : World → Prop} {W W' : World} (h : Stays F W) (hb : Below W.heap.size W W') : Stays F W' := ⟨h.2 _ _ h.1 hb, h.2⟩
theorem Stays.and {F G : World → Prop} {W : World} (h : Stays F W) (k : Stays G W) : Stays (fun X => F X ∧ G X) W := ⟨⟨h.1, k.1⟩, fun X Y a b => ⟨h.2 X Y a.1 b, k.2 X Y a.2 b⟩⟩
theorem stays_rd {W : World} {A : Option Addr} {xs : List Int} (h : Rd W W.heap.size A xs) : Stays (fun X => Rd X X.heap.size A xs) W := ⟨h, fun _ _ a b => a.ext b⟩
theorem stays_blk {W : World} {g : Nat} {cs : Array Value} {ty : TypeId} (h : Blk W g cs ty) : Stays (fun X => Blk X g cs ty) W := ⟨h, fun _ _ a b => blk_on a b⟩
theorem stays_wk {W : World} {A : Option Addr} {ws : List Car} (h : Wk W A ws) : Stays (fun X => Wk X A ws) W := ⟨h, fun _ _ a b => a.ext b⟩
theorem stays_wet {W : World} {s : Wt} (h : Wet W s) : Stays (fun X => Wet X s) W := ⟨h, fun _ _ a b => a.ext b⟩
theorem stays_csd {W : World} {s : Cs} (h : Csd W s) : Stays (fun X => Csd X s) W := ⟨h, fun _ _ a b => a.ext b⟩
theorem stays_bl {w W : World} (h : Below w.heap.size w W) : Stays (fun X => Below w.heap.size w X) W := ⟨h, fun _ _ a b => a.trans (b.mono a.size)⟩

section
variable (m : MA) (A : Option Addr) (c : Nat)
theorem Flow_ex (s : Wt) (w : World) (h : Wk w A (mead m)) (hs : Wet w s) (hn : exN s) :
  Calls Try.prog 21 #[.agg #[.slice A (mead m).length c], s.v] w fun e w' => ∃ A' c', e = .returned (.tuple #[.slice A' 4 c', .int .i64 0]) ∧ Rd w' w'.heap.size A' [45, 31, 20, 22] ∧ Below w.heap.size w w' := by
 have k := Flow_any A c (mead m) s w h hs
 rw [ex_flow m hn, ex_cw m hn] at k
 exact k.mono fun e w' ⟨A', c', he, hr, _, hb⟩ => ⟨A', c', he, hr, hb⟩
theorem Tails_ex (s : Wt) (w : World) (h : Wk w A (mead m)) (hs : Wet w s) (hn : exN s) :
  Calls Try.prog 22 #[.agg #[.slice A (mead m).length c], s.v] w fun e w' => ∃ A' c', e = .returned (.tuple #[.slice A' 2 c', .int .i64 0]) ∧ Rd w' w'.heap.size A' [12, 0] ∧ Below w.heap.size w w' := by
 have k := Tails_any A c (mead m) s w h hs
 rw [ex_tails m hn, ex_cw m hn] at k
 exact k.mono fun e w' ⟨A', c', he, hr, _, hb⟩ => ⟨A', c', he, hr, hb⟩
theorem Lost_ex (s : Wt) (w : World) (h : Wk w A (mead m)) (hs : Wet w s) (hn : exN s) :
  Calls Try.prog 23 #[.agg #[.slice A (mead m).length c], s.v] w fun e w' => e = .returned (.tuple #[.int .i64 15, .int .i64 0]) ∧ Below w.heap.size w w' := by
 have k := Lost_any A c (mead m) s w h hs
 rwa [ex_lost m hn, ex_cw m hn] at k
theorem Ends_ex (id : Int) (x : Nat) (f : Sp) (s : Cs) (w : World) (h : Wk w A (mead m)) (hs : Csd w s) (ha : askE (mead m) s id = 0) (hx : idxO (mead m) id = some x) (hf : endsF (mead m) s x = f) :
  Calls Try.prog 54 #[.agg #[.slice A (mead m).length c], s.v, .int .i64 id] w fun e w' => ∃ t u : Wt, e = .returned (.tuple #[supV f t u, .int .i64 0]) ∧ Wet w' t ∧ Corner (mead m) s x false t ∧ WFr w.heap.size t ∧ Below w.heap.size w w' :=
 (Ends_any A c (mead m) s id w h hs).mono fun e w' ⟨hb, k⟩ => by
  rcases k with ⟨hn, _⟩ | ⟨_, y, t, u, hy, he, ht, _, hct, _, hwt, _⟩
  ·exact absurd ha hn
  ·rw [hx] at hy
   obtain rfl : x = y := by simpa using hy
   rw [hf] at he
   exact ⟨t, u, he, ht, hct, hwt, hb⟩
theorem Rests_ex (s : Cs) (w : World) (h : Wk w A (mead m)) (hs : Csd w s) (hn : exC s) :
  Calls Try.prog 31 #[.agg #[.slice A (mead m).length c], s.v, .int .i64 4] w fun e w' => ∃ A' c', e = .returned (.tuple #[.slice A' 3 c', .int .i64 0]) ∧ Rd w' w'.heap.size A' [1, 3, 4] ∧ Below w.heap.size w w' := by
 have k := Rests_any A c (mead m) s 4 w h hs
 rw [ex_rests m hn, ex_ask4 m hn] at k
 exact k.mono fun e w' ⟨A', c', he, hr, _, hb⟩ => ⟨A', c', he, hr, hb⟩
theorem Open_ex (s : Wt) (w : World) (h : Wk w A (mead m)) (hs : Wet w s) (hn : exN s) :
  Calls Try.prog 33 #[.agg #[.slice A (mead m).length c], s.v, .int .i64 4, .int .i64 21] w fun e w' => e = .returned (.tuple #[.int .i64 1, .int .i64 0]) ∧ Below w.heap.size w w' :=
 (Open_any A c (mead m) s 4 21 w h hs).mono fun _ _ ⟨k, hb⟩ => ⟨ex_open m hn k, hb⟩
theorem Send_ex (s : Wt) (w : World) (h : Wk w A (mead m)) (hs : Wet w s) (hn : exN s) :
  Calls Try.prog 35 #[.agg #[.slice A (mead m).length c], s.v, .int .i64 4, .int .i64 22] w fun e w' => e = .returned (.tuple #[.int .i64 47, .int .i64 0]) ∧ Below w.heap.size w w' :=
 (Send_any A c (mead m) s 4 22 w h hs).mono fun _ _ ⟨k, hb⟩ => ⟨ex_send m hn k, hb⟩
end
end Go.Proofs.Ytdadoelajhemjaa
namespace Go.Proofs.Ytdadoelajhemjaa
open Go.RowKit Go.Shelf

theorem Stays.push {B E G : World → Prop} {W : World} (h : Stays (fun X => B X ∧ E X) W) (k : Stays G W) : Stays (fun X => B X ∧ (G X ∧ E X)) W := ⟨⟨h.1.1, k.1, h.1.2⟩, fun X Y a b => ⟨(h.2 X Y ⟨a.1, a.2.2⟩ b).1, k.2 X Y a.2.1 b, (h.2 X Y ⟨a.1, a.2.2⟩ b).2⟩⟩
def sanS (g : Nat) (v : Value) (k : Nat) (X : World) : Prop := match k with
 | 0 => X.cell? ⟨g, 0, none⟩ = some v
 | _ => True
theorem sanS_on {g : Nat} {v : Value} {k : Nat} {X Y : World} (hb : Below X.heap.size X Y) (h : sanS g v k X) : sanS g v k Y := by
 match k, h with
 | 0, h => exact (hb.cell (p := ⟨g, 0, none⟩) (lt_of_cell h)).trans h
 | _ + 1, _ => trivial
theorem sanS_oth {g b : Nat} {v : Value} {k : Nat} {X : World} {vs : List Value} (hb : g ≠ b) (h : sanS g v k X) : sanS g v k (X.setCells b 0 vs) := by
 match k, h with
 | 0, h => exact (cell_of_heap (setCells_oth hb vs 0 X)).trans h
 | _ + 1, _ => trivial
theorem same_yes (A B : Option Addr) (c d : Nat) (xs : List Int) (w : World) (h1 : Rd w w.heap.size A xs) (h2 : Rd w w.heap.size B xs) (hm : xs.length ≤ 1000) :
  Calls Try.prog 29 #[.slice A xs.length c, .slice B xs.length d] w fun e w' => e = .returned (.bool true) ∧ Below w.heap.size w w' := by
 have h := same_any A B c d xs xs w h1 h2 hm
 rwa [decide_eq_true rfl] at h
theorem sameW_yes (s t : Wt) (w : World) (hs : Wet w s) (ht : Wet w t) (h0 : s.ri = t.ri) (h1 : s.bo = t.bo) (h2 : s.lk = t.lk) (h3 : s.lo = t.lo) :
  Calls Try.prog 58 #[s.v, t.v] w fun e w' => e = .returned (.bool true) ∧ Below w.heap.size w w' := by
 have h := sameW_any s t w hs ht
 rwa [decide_eq_true h0, decide_eq_true h1, decide_eq_true h2, decide_eq_true h3] at h
set_option maxRecDepth 100000 in
set_option maxHeartbeats 16000000 in
theorem sanity_any (w : World) : Calls Try.prog 20 #[] w fun e w' => e = .returned (.bool true) ∧ Below w.heap.size w w' := by
 have HM := Lib.hid (Meadow_any w)
 go_enter Try.func20, Try.ntmps20
 go_upto_region 2 with (go_at_call 76; refine HM.out.mono ?_; rintro e w1 ⟨m, A, c, rfl, hw, hb⟩; have K0 := hd2 hw hb; clear hw hb)
 clear HM
 have K1 : Hid (Stays (fun X => ((Below w.heap.size w X ∧ Blk X w1.heap.size #[.slice A (mead m).length c] 24) ∧ Wk X A (mead m)) ∧ True) (w1.alloc (.cells #[.slice A (mead m).length c] 24))) :=
  Lib.hid ((((stays_bl (K0.out.2.alloc (by have := K0.out.2.size; omega) _)).and (stays_blk (blk_new _ _ _ rfl))).and (stays_wk (K0.out.1.ext ((Below.refl _ _).alloc (Nat.le_refl _) _)))).and ⟨trivial, fun _ _ _ _ => trivial⟩)
 generalize w1.alloc (.cells #[.slice A (mead m).length c] 24) = W1 at *
 generalize w1.heap.size = g at *
 clear K0
 -- region 2
 refine wp_region_K (by kernel_rfl) (sanS g (.slice A (mead m).length c)) (fun _ _ => true) ?_
 have K2 := Lib.hid (K1.out.on ((Below.refl _ W1).drew))
 clear K1
 generalize W1.drew = X0 at *
 have hS : sanS g (.slice A (mead m).length c) 0 X0 := cr 0 K2.out.1.1.1.2
 refine kT 0 0 rfl ?_
 clear hS
 refine kR 1 rfl fun K hK => ?_
 go_simp
 refine (Now_any X0).mono ?_
 rintro e X1 ⟨s1, rfl, hn, hs, hb⟩
 dsimp only
 refine hK.out _ _ (fun k _ h => sanS_on hb h) ?_
 have K3 := hd3 (K2.out.on hb) hs (show exN s1 from hn)
 clear hK hb hs hn K2
 refine kR 2 rfl fun K hK => ?_
 go_simp
 refine (Flow_ex m A c s1 X1 K3.out.1.1.1.2 K3.out.2.1 K3.out.2.2).mono ?_
 rintro e W2 ⟨A2, c2, rfl, hr, hb⟩
 dsimp only
 refine hK.out _ _ (fun k _ h => sanS_on hb h) ?_
 have K4 := Lib.hid ((K3.out.1.on hb).push (stays_rd hr))
 clear hK hb K3 hr
 refine kT 1 3 rfl ?_
 refine kT 1 4 rfl ?_
 refine kT 1 5 rfl ?_
 refine kT 1 6 rfl ?_
 refine kT 1 7 rfl ?_
 refine kD ?_
 go_upto_region 3 with fail
 -- region 3
 refine wp_region_K (by kernel_rfl) (sanS g (.slice A (mead m).length c)) (fun _ _ => true) ?_
 have K2 := Lib.hid (K4.out.on ((Below.refl _ W2).drew))
 clear K4
 generalize W2.drew = X0 at *
 have hS : sanS g (.slice A (mead m).length c) 0 X0 := cr 0 K2.out.1.1.1.2
 refine kT 0 0 rfl ?_
 clear hS
 refine kR 1 rfl fun K hK => ?_
 go_simp
 refine (Now_any X0).mono ?_
 rintro e X1 ⟨s2, rfl, hn, hs, hb⟩
 dsimp only
 refine hK.out _ _ (fun k _ h => sanS_on hb h) ?_
 have K3 := hd3 (K2.out.on hb) hs (show exN s2 from hn)
 clear hK hb hs hn K2
 refine kR 2 rfl fun K hK => ?_
 go_simp
 refine (Tails_ex m A c s2 X1 K3.out.1.1.1.2 K3.out.2.1 K3.out.2.2).mono ?_
 rintro e W3 ⟨A3, c3, rfl, hr, hb⟩
 dsimp only
 refine hK.out _ _ (fun k _ h => sanS_on hb h) ?_
 have K5 := Lib.hid ((K3.out.1.on hb).push (stays_rd hr))
 clear hK hb K3 hr
 refine kT 1 3 rfl ?_
 refine kT 1 4 rfl ?_
 refine kT 1 5 rfl ?_
 refine kT 1 6 rfl ?_
 refine kT 1 7 rfl ?_
 refine kD ?_
 go_upto_region 4 with fail
 -- region 4
 refine wp_region_K (by kernel_rfl) (sanS g (.slice A (mead m).length c)) (fun _ _ => true) ?_
 have K2 := Lib.hid (K5.out.on ((Below.refl _ W3).drew))
 clear K5
 generalize W3.drew = X0 at *
 have hS : sanS g (.slice A (mead m).length c) 0 X0 := cr 0 K2.out.1.1.1.2
 refine kT 0 0 rfl ?_
 clear hS
 refine kR 1 rfl fun K hK => ?_
 go_simp
 refine (Now_any X0).mono ?_
 rintro e X1 ⟨s3, rfl, hn, hs, hb⟩
 dsimp only
 refine hK.out _ _ (fun k _ h => sanS_on hb h) ?_
 have K3 := hd3 (K2.out.on hb) hs (show exN s3 from hn)
 clear hK hb hs hn K2
 refine kR 2 rfl fun K hK => ?_
 go_simp
 refine (Lost_ex m A c s3 X1 K3.out.1.1.1.2 K3.out.2.1 K3.out.2.2).mono ?_
 rintro e W4 ⟨rfl, hb⟩
 dsimp only
 refine hK.out _ _ (fun k _ h => sanS_on hb h) ?_
 have K6 := Lib.hid (K3.out.1.on hb)
 clear hK hb K3
 refine kT 1 3 rfl ?_
 refine kT 1 4 rfl ?_
 refine kT 1 5 rfl ?_
 refine kT 1 6 rfl ?_
 refine kT 1 7 rfl ?_
 refine kD ?_
 go_upto_region 5 with fail
 -- region 5
 refine wp_region_cut (fun a' w' => ∃ (s4 : Cs) (t5 u5 : Wt) (b5 : Nat), a' = { tmps := #[.bool false, .pointer (some ⟨g, 0, none⟩), .slice A2 4 c2, .int .i64 0, .slice A3 2 c3, .int .i64 0, .int .i64 15, .int .i64 0, .pointer (some ⟨b5, 0, none⟩), .int .i64 0, undef, undef, undef, undef, undef, undef, undef, undef, undef, undef, .agg #[(.slice A (mead m).length c)], .tuple #[.slice A2 4 c2, .int .i64 0], .agg #[(.slice A (mead m).length c)], s1.v, .tuple #[.slice A2 4 c2, .int .i64 0], .slice A2 4 c2, .int .i64 0, .tuple #[.slice A3 2 c3, .int .i64 0], .agg #[(.slice A (mead m).length c)], s2.v, .tuple #[.slice A3 2 c3, .int .i64 0], .slice A3 2 c3, .int .i64 0, .tuple #[.int .i64 15, .int .i64 0], .agg #[(.slice A (mead m).length c)], s3.v, .tuple #[.int .i64 15, .int .i64 0], .int .i64 15, .int .i64 0, .tuple #[supV (17, 22) t5 u5, .int .i64 0], .agg #[(.slice A (mead m).length c)], s4.v, .tuple #[supV (17, 22) t5 u5, .int .i64 0], supV (17, 22) t5 u5, .int .i64 0, undef, undef, undef, undef, undef, undef, undef, undef, undef, undef, undef, undef, undef, undef, undef, undef, undef, undef, undef, undef, undef, undef, undef, undef, undef, undef, undef, undef, undef, undef, undef, undef, undef, undef, undef, undef, undef, undef, undef, undef, undef, undef, undef, undef, undef, undef, undef, undef, undef, undef, undef, undef, undef, undef, undef, undef, undef, undef, undef, undef, undef, undef, undef, undef, undef, undef, undef, undef, undef, undef, undef, undef, undef, undef, undef, undef, undef, undef, undef, undef, undef, undef, undef, undef, undef, undef, undef, undef, undef, undef, undef, undef, undef, undef, undef, undef, undef, undef, undef, undef, undef, undef, undef], defers := [] } ∧ Aside (Below W4.heap.size W4 w' ∧ Blk w' b5 #[.int .i64 17, .int .i64 22, .slice t5.A0 t5.ri.length t5.c0, .slice t5.A1 t5.bo.length t5.c1, .slice t5.A2 t5.lk.length t5.c2, .slice t5.A3 t5.lo.length t5.c3, .slice u5.A0 u5.ri.length u5.c0, .slice u5.A1 u5.bo.length u5.c1, .slice u5.A2 u5.lk.length u5.c2, .slice u5.A3 u5.lo.length u5.c3] 91 ∧ Wet w' t5 ∧ Corner (mead m) s4 3 false t5 ∧ exC s4)) (by kernel_rfl) (sanS g (.slice A (mead m).length c)) (fun _ _ => true) ?_ ?_
 ·have hgl : g < W4.heap.size := (Array.getElem?_eq_some_iff.1 K6.out.1.1.1.2).1
  have hX : Below W4.heap.size W4 W4.drew := (Below.refl _ _).drew
  have hS : sanS g (.slice A (mead m).length c) 0 W4.drew := cr 0 (K6.out.on hX).1.1.1.2
  generalize W4.drew = X0 at *
  refine kT 0 0 rfl ?_
  clear hS
  refine wpAnyK_ready (rs := [1, 6]) (by kernel_rfl) (by simp) (AllK.consL rfl (by rfl) (fun K hK => ?_) (AllK.consL rfl (by rfl) (fun K hK => ?_) AllK.nil))
  ·go_simp
   refine (Known_any X0).mono ?_
   rintro e X1 ⟨s4, rfl, hn, hs, hb⟩
   dsimp only
   refine hK.out _ _ (fun k _ h => sanS_on hb h) ?_
   replace hX := hX.trans (hb.mono hX.size)
   clear hK
   refine wpAnyK_ready (rs := [2, 6]) (by kernel_rfl) (by simp) (AllK.consL rfl (by rfl) (fun K hK => ?_) (AllK.consL rfl (by rfl) (fun K hK => ?_) AllK.nil))
   ·go_simp
    refine (Ends_ex m A c 4 3 (17, 22) s4 X1 (K6.out.on hX).1.1.2 hs (ex_ask4 m hn) (ex_idx4 m) (ex_ends4 m hn)).mono ?_
    rintro e X2 ⟨t5, u5, rfl, ht, hct, hwt, hb'⟩
    dsimp only
    refine hK.out _ _ (fun k _ h => sanS_on hb' h) ?_
    have hXo := hX.size
    replace hX := hX.trans (hb'.mono hX.size)
    clear hK
    refine kT 1 3 rfl ?_
    refine kT 1 4 rfl ?_
    refine kT 1 5 rfl ?_
    refine kR 6 rfl fun K hK => ?_
    go_simp
    refine hK.out _ _ (fun k _ h => sanS_on ((Below.refl _ _).alloc (Nat.le_refl _) _) h) ?_
    have hbA := (Below.refl _ X2).alloc (Nat.le_refl _) (.cells #[.int .i64 0, .int .i64 0, .slice none 0 0, .slice none 0 0, .slice none 0 0, .slice none 0 0, .slice none 0 0, .slice none 0 0, .slice none 0 0, .slice none 0 0] 91)
    have hbk := blk_new X2 (g := X2.heap.size) #[.int .i64 0, .int .i64 0, .slice none 0 0, .slice none 0 0, .slice none 0 0, .slice none 0 0, .slice none 0 0, .slice none 0 0, .slice none 0 0, .slice none 0 0] 91 rfl
    have hbge : W4.heap.size ≤ X2.heap.size := hX.size
    replace hX := hX.trans (hbA.mono hX.size)
    clear hK
    have nbs := ht.nb (Nat.le_refl _)
    replace ht := ht.ext hbA
    refine kR 7 rfl fun K hK => ?_
    refine wp_store_mid 91 (.tmp 8) (.tmp 43) rfl X2.heap.size 0 #[.int .i64 17, .int .i64 22, .slice t5.A0 t5.ri.length t5.c0, .slice t5.A1 t5.bo.length t5.c1, .slice t5.A2 t5.lk.length t5.c2, .slice t5.A3 t5.lo.length t5.c3, .slice u5.A0 u5.ri.length u5.c0, .slice u5.A1 u5.bo.length u5.c1, .slice u5.A2 u5.lk.length u5.c2, .slice u5.A3 u5.lo.length u5.c3] rfl rfl (show World.there _ _ 0 10 from blk_there hbk) (by kernel_rfl) (by simp [Value.oneCell']) ?_
    refine hK.out _ _ (fun k _ h => sanS_oth (by omega) h) ?_
    clear hK
    refine kT 1 8 rfl ?_
    refine kD ?_
    exact ⟨s4, t5, u5, X2.heap.size, rfl, (show _ ∧ _ ∧ _ ∧ _ ∧ _ from ⟨setCells_below hbge _ _ _ hX, setCells_blk hbk _ rfl, ht.moved nbs (fun k hk => setCells_oth hk _ _ _) (by rw [setCells_size]; exact Nat.le_refl _), hct, hn⟩)⟩
   ·go_simp
    refine hK.out _ _ (fun k _ h => sanS_on ((Below.refl _ _).alloc (Nat.le_refl _) _) h) ?_
    have hbA := (Below.refl _ X1).alloc (Nat.le_refl _) (.cells #[.int .i64 0, .int .i64 0, .slice none 0 0, .slice none 0 0, .slice none 0 0, .slice none 0 0, .slice none 0 0, .slice none 0 0, .slice none 0 0, .slice none 0 0] 91)
    have hbk := blk_new X1 (g := X1.heap.size) #[.int .i64 0, .int .i64 0, .slice none 0 0, .slice none 0 0, .slice none 0 0, .slice none 0 0, .slice none 0 0, .slice none 0 0, .slice none 0 0, .slice none 0 0] 91 rfl
    have hbge : W4.heap.size ≤ X1.heap.size := hX.size
    replace hX := hX.trans (hbA.mono hX.size)
    clear hK
    replace hs := hs.ext hbA
    have hlt : X1.heap.size < (X1.alloc (.cells #[.int .i64 0, .int .i64 0, .slice none 0 0, .slice none 0 0, .slice none 0 0, .slice none 0 0, .slice none 0 0, .slice none 0 0, .slice none 0 0, .slice none 0 0] 91)).heap.size := by simp
    refine kR 2 rfl fun K hK => ?_
    go_simp
    refine (Ends_ex m A c 4 3 (17, 22) s4 (X1.alloc (.cells #[.int .i64 0, .int .i64 0, .slice none 0 0, .slice none 0 0, .slice none 0 0, .slice none 0 0, .slice none 0 0, .slice none 0 0, .slice none 0 0, .slice none 0 0] 91)) (K6.out.on hX).1.1.2 hs (ex_ask4 m hn) (ex_idx4 m) (ex_ends4 m hn)).mono ?_
    rintro e X2 ⟨t5, u5, rfl, ht, hct, hwt, hb'⟩
    dsimp only
    refine hK.out _ _ (fun k _ h => sanS_on hb' h) ?_
    have hXo := hX.size
    replace hX := hX.trans (hb'.mono hX.size)
    clear hK
    replace hbk := blk_on hbk hb'
    refine kT 1 3 rfl ?_
    refine kT 1 4 rfl ?_
    refine kT 1 5 rfl ?_
    refine kR 7 rfl fun K hK => ?_
    refine wp_store_mid 91 (.tmp 8) (.tmp 43) rfl X1.heap.size 0 #[.int .i64 17, .int .i64 22, .slice t5.A0 t5.ri.length t5.c0, .slice t5.A1 t5.bo.length t5.c1, .slice t5.A2 t5.lk.length t5.c2, .slice t5.A3 t5.lo.length t5.c3, .slice u5.A0 u5.ri.length u5.c0, .slice u5.A1 u5.bo.length u5.c1, .slice u5.A2 u5.lk.length u5.c2, .slice u5.A3 u5.lo.length u5.c3] rfl rfl (show World.there _ _ 0 10 from blk_there hbk) (by kernel_rfl) (by simp [Value.oneCell']) ?_
    refine hK.out _ _ (fun k _ h => sanS_oth (by omega) h) ?_
    clear hK
    refine kT 1 8 rfl ?_
    refine kD ?_
    exact ⟨s4, t5, u5, X1.heap.size, rfl, (show _ ∧ _ ∧ _ ∧ _ ∧ _ from ⟨setCells_below hbge _ _ _ hX, setCells_blk hbk _ rfl, ht.moved (hwt.nb hlt) (fun k hk => setCells_oth hk _ _ _) (by rw [setCells_size]; exact Nat.le_refl _), hct, hn⟩)⟩
  ·go_simp
   refine hK.out _ _ (fun k _ h => sanS_on ((Below.refl _ _).alloc (Nat.le_refl _) _) h) ?_
   have hbA := (Below.refl _ X0).alloc (Nat.le_refl _) (.cells #[.int .i64 0, .int .i64 0, .slice none 0 0, .slice none 0 0, .slice none 0 0, .slice none 0 0, .slice none 0 0, .slice none 0 0, .slice none 0 0, .slice none 0 0] 91)
   have hbk := blk_new X0 (g := X0.heap.size) #[.int .i64 0, .int .i64 0, .slice none 0 0, .slice none 0 0, .slice none 0 0, .slice none 0 0, .slice none 0 0, .slice none 0 0, .slice none 0 0, .slice none 0 0] 91 rfl
   have hbge : W4.heap.size ≤ X0.heap.size := hX.size
   replace hX := hX.trans (hbA.mono hX.size)
   clear hK
   have hlt0 : X0.heap.size < (X0.alloc (.cells #[.int .i64 0, .int .i64 0, .slice none 0 0, .slice none 0 0, .slice none 0 0, .slice none 0 0, .slice none 0 0, .slice none 0 0, .slice none 0 0, .slice none 0 0] 91)).heap.size := by simp
   refine kR 1 rfl fun K hK => ?_
   go_simp
   refine (Known_any (X0.alloc (.cells #[.int .i64 0, .int .i64 0, .slice none 0 0, .slice none 0 0, .slice none 0 0, .slice none 0 0, .slice none 0 0, .slice none 0 0, .slice none 0 0, .slice none 0 0] 91))).mono ?_
   rintro e X1 ⟨s4, rfl, hn, hs, hb⟩
   dsimp only
   refine hK.out _ _ (fun k _ h => sanS_on hb h) ?_
   replace hX := hX.trans (hb.mono hX.size)
   clear hK
   replace hbk := blk_on hbk hb
   have hlt : X0.heap.size < X1.heap.size := Nat.lt_of_lt_of_le hlt0 hb.size
   refine kR 2 rfl fun K hK => ?_
   go_simp
   refine (Ends_ex m A c 4 3 (17, 22) s4 X1 (K6.out.on hX).1.1.2 hs (ex_ask4 m hn) (ex_idx4 m) (ex_ends4 m hn)).mono ?_
   rintro e X2 ⟨t5, u5, rfl, ht, hct, hwt, hb'⟩
   dsimp only
   refine hK.out _ _ (fun k _ h => sanS_on hb' h) ?_
   have hXo := hX.size
   replace hX := hX.trans (hb'.mono hX.size)
   clear hK
   replace hbk := blk_on hbk hb'
   refine kT 1 3 rfl ?_
   refine kT 1 4 rfl ?_
   refine kT 1 5 rfl ?_
   refine kR 7 rfl fun K hK => ?_
   refine wp_store_mid 91 (.tmp 8) (.tmp 43) rfl X0.heap.size 0 #[.int .i64 17, .int .i64 22, .slice t5.A0 t5.ri.length t5.c0, .slice t5.A1 t5.bo.length t5.c1, .slice t5.A2 t5.lk.length t5.c2, .slice t5.A3 t5.lo.length t5.c3, .slice u5.A0 u5.ri.length u5.c0, .slice u5.A1 u5.bo.length u5.c1, .slice u5.A2 u5.lk.length u5.c2, .slice u5.A3 u5.lo.length u5.c3] rfl rfl (show World.there _ _ 0 10 from blk_there hbk) (by kernel_rfl) (by simp [Value.oneCell']) ?_
   refine hK.out _ _ (fun k _ h => sanS_oth (by omega) h) ?_
   clear hK
   refine kT 1 8 rfl ?_
   refine kD ?_
   exact ⟨s4, t5, u5, X0.heap.size, rfl, (show _ ∧ _ ∧ _ ∧ _ ∧ _ from ⟨setCells_below hbge _ _ _ hX, setCells_blk hbk _ rfl, ht.moved (hwt.nb hlt) (fun k hk => setCells_oth hk _ _ _) (by rw [setCells_size]; exact Nat.le_refl _), hct, hn⟩)⟩
 rintro a' W5 ⟨s4, t5, u5, b5, rfl, hF⟩
 dsimp only
 have K7 := Lib.hid (((K6.out.on hF.out.1).push (stays_blk hF.out.2.1)).push (stays_wet hF.out.2.2.1))
 have HL := Lib.hid (ex_least m hF.out.2.2.2.2 hF.out.2.2.2.1)
 clear hF K6
 go_upto_region 6 with fail
 -- region 6
 refine wp_region_cut (fun a' w' => ∃ (s5 : Cs) (t6 u6 : Wt) (b6 : Nat), a' = { tmps := #[.bool false, .pointer (some ⟨g, 0, none⟩), .slice A2 4 c2, .int .i64 0, .slice A3 2 c3, .int .i64 0, .int .i64 15, .int .i64 0, .pointer (some ⟨b5, 0, none⟩), .int .i64 0, .pointer (some ⟨b6, 0, none⟩), .int .i64 0, undef, undef, undef, undef, undef, undef, undef, undef, .agg #[(.slice A (mead m).length c)], .tuple #[.slice A2 4 c2, .int .i64 0], .agg #[(.slice A (mead m).length c)], s1.v, .tuple #[.slice A2 4 c2, .int .i64 0], .slice A2 4 c2, .int .i64 0, .tuple #[.slice A3 2 c3, .int .i64 0], .agg #[(.slice A (mead m).length c)], s2.v, .tuple #[.slice A3 2 c3, .int .i64 0], .slice A3 2 c3, .int .i64 0, .tuple #[.int .i64 15, .int .i64 0], .agg #[(.slice A (mead m).length c)], s3.v, .tuple #[.int .i64 15, .int .i64 0], .int .i64 15, .int .i64 0, .tuple #[supV (17, 22) t5 u5, .int .i64 0], .agg #[(.slice A (mead m).length c)], s4.v, .tuple #[supV (17, 22) t5 u5, .int .i64 0], supV (17, 22) t5 u5, .int .i64 0, .tuple #[supV (0, 31) t6 u6, .int .i64 0], .agg #[(.slice A (mead m).length c)], s5.v, .tuple #[supV (0, 31) t6 u6, .int .i64 0], supV (0, 31) t6 u6, .int .i64 0, undef, undef, undef, undef, undef, undef, undef, undef, undef, undef, undef, undef, undef, undef, undef, undef, undef, undef, undef, undef, undef, undef, undef, undef, undef, undef, undef, undef, undef, undef, undef, undef, undef, undef, undef, undef, undef, undef, undef, undef, undef, undef, undef, undef, undef, undef, undef, undef, undef, undef, undef, undef, undef, undef, undef, undef, undef, undef, undef, undef, undef, undef, undef, undef, undef, undef, undef, undef, undef, undef, undef, undef, undef, undef, undef, undef, undef, undef, undef, undef, undef, undef, undef, undef, undef, undef, undef, undef, undef, undef, undef, undef, undef, undef, undef, undef, undef], defers := [] } ∧ Aside (Below W5.heap.size W5 w' ∧ Blk w' b6 #[.int .i64 0, .int .i64 31, .slice t6.A0 t6.ri.length t6.c0, .slice t6.A1 t6.bo.length t6.c1, .slice t6.A2 t6.lk.length t6.c2, .slice t6.A3 t6.lo.length t6.c3, .slice u6.A0 u6.ri.length u6.c0, .slice u6.A1 u6.bo.length u6.c1, .slice u6.A2 u6.lk.length u6.c2, .slice u6.A3 u6.lo.length u6.c3] 91 ∧ Wet w' t6 ∧ Corner (mead m) s5 1 false t6 ∧ exC s5)) (by kernel_rfl) (sanS g (.slice A (mead m).length c)) (fun _ _ => true) ?_ ?_
 ·have hgl : g < W5.heap.size := (Array.getElem?_eq_some_iff.1 K7.out.1.1.1.2).1
  have hX : Below W5.heap.size W5 W5.drew := (Below.refl _ _).drew
  have hS : sanS g (.slice A (mead m).length c) 0 W5.drew := cr 0 (K7.out.on hX).1.1.1.2
  generalize W5.drew = X0 at *
  refine kT 0 0 rfl ?_
  clear hS
  refine wpAnyK_ready (rs := [1, 6]) (by kernel_rfl) (by simp) (AllK.consL rfl (by rfl) (fun K hK => ?_) (AllK.consL rfl (by rfl) (fun K hK => ?_) AllK.nil))
  ·go_simp
   refine (Known_any X0).mono ?_
   rintro e X1 ⟨s5, rfl, hn, hs, hb⟩
   dsimp only
   refine hK.out _ _ (fun k _ h => sanS_on hb h) ?_
   replace hX := hX.trans (hb.mono hX.size)
   clear hK
   refine wpAnyK_ready (rs := [2, 6]) (by kernel_rfl) (by simp) (AllK.consL rfl (by rfl) (fun K hK => ?_) (AllK.consL rfl (by rfl) (fun K hK => ?_) AllK.nil))
   ·go_simp
    refine (Ends_ex m A c 2 1 (0, 31) s5 X1 (K7.out.on hX).1.1.2 hs (ex_ask2 m hn) (ex_idx2 m) (ex_ends2 m hn)).mono ?_
    rintro e X2 ⟨t6, u6, rfl, ht, hct, hwt, hb'⟩
    dsimp only
    refine hK.out _ _ (fun k _ h => sanS_on hb' h) ?_
    have hXo := hX.size
    replace hX := hX.trans (hb'.mono hX.size)
    clear hK
    refine kT 1 3 rfl ?_
    refine kT 1 4 rfl ?_
    refine kT 1 5 rfl ?_
    refine kR 6 rfl fun K hK => ?_
    go_simp
    refine hK.out _ _ (fun k _ h => sanS_on ((Below.refl _ _).alloc (Nat.le_refl _) _) h) ?_
    have hbA := (Below.refl _ X2).alloc (Nat.le_refl _) (.cells #[.int .i64 0, .int .i64 0, .slice none 0 0, .slice none 0 0, .slice none 0 0, .slice none 0 0, .slice none 0 0, .slice none 0 0, .slice none 0 0, .slice none 0 0] 91)
    have hbk := blk_new X2 (g := X2.heap.size) #[.int .i64 0, .int .i64 0, .slice none 0 0, .slice none 0 0, .slice none 0 0, .slice none 0 0, .slice none 0 0, .slice none 0 0, .slice none 0 0, .slice none 0 0] 91 rfl
    have hbge : W5.heap.size ≤ X2.heap.size := hX.size
    replace hX := hX.trans (hbA.mono hX.size)
    clear hK
    have nbs := ht.nb (Nat.le_refl _)
    replace ht := ht.ext hbA
    refine kR 7 rfl fun K hK => ?_
    refine wp_store_mid 91 (.tmp 10) (.tmp 49) rfl X2.heap.size 0 #[.int .i64 0, .int .i64 31, .slice t6.A0 t6.ri.length t6.c0, .slice t6.A1 t6.bo.length t6.c1, .slice t6.A2 t6.lk.length t6.c2, .slice t6.A3 t6.lo.length t6.c3, .slice u6.A0 u6.ri.length u6.c0, .slice u6.A1 u6.bo.length u6.c1, .slice u6.A2 u6.lk.length u6.c2, .slice u6.A3 u6.lo.length u6.c3] rfl rfl (show World.there _ _ 0 10 from blk_there hbk) (by kernel_rfl) (by simp [Value.oneCell']) ?_
    refine hK.out _ _ (fun k _ h => sanS_oth (by omega) h) ?_
    clear hK
    refine kT 1 8 rfl ?_
    refine kD ?_
    exact ⟨s5, t6, u6, X2.heap.size, rfl, (show _ ∧ _ ∧ _ ∧ _ ∧ _ from ⟨setCells_below hbge _ _ _ hX, setCells_blk hbk _ rfl, ht.moved nbs (fun k hk => setCells_oth hk _ _ _) (by rw [setCells_size]; exact Nat.le_refl _), hct, hn⟩)⟩
   ·go_simp
    refine hK.out _ _ (fun k _ h => sanS_on ((Below.refl _ _).alloc (Nat.le_refl _) _) h) ?_
    have hbA := (Below.refl _ X1).alloc (Nat.le_refl _) (.cells #[.int .i64 0, .int .i64 0, .slice none 0 0, .slice none 0 0, .slice none 0 0, .slice none 0 0, .slice none 0 0, .slice none 0 0, .slice none 0 0, .slice none 0 0] 91)
    have hbk := blk_new X1 (g := X1.heap.size) #[.int .i64 0, .int .i64 0, .slice none 0 0, .slice none 0 0, .slice none 0 0, .slice none 0 0, .slice none 0 0, .slice none 0 0, .slice none 0 0, .slice none 0 0] 91 rfl
    have hbge : W5.heap.size ≤ X1.heap.size := hX.size
    replace hX := hX.trans (hbA.mono hX.size)
    clear hK
    replace hs := hs.ext hbA
    have hlt : X1.heap.size < (X1.alloc (.cells #[.int .i64 0, .int .i64 0, .slice none 0 0, .slice none 0 0, .slice none 0 0, .slice none 0 0, .slice none 0 0, .slice none 0 0, .slice none 0 0, .slice none 0 0] 91)).heap.size := by simp
    refine kR 2 rfl fun K hK => ?_
    go_simp
    refine (Ends_ex m A c 2 1 (0, 31) s5 (X1.alloc (.cells #[.int .i64 0, .int .i64 0, .slice none 0 0, .slice none 0 0, .slice none 0 0, .slice none 0 0, .slice none 0 0, .slice none 0 0, .slice none 0 0, .slice none 0 0] 91)) (K7.out.on hX).1.1.2 hs (ex_ask2 m hn) (ex_idx2 m) (ex_ends2 m hn)).mono ?_
    rintro e X2 ⟨t6, u6, rfl, ht, hct, hwt, hb'⟩
    dsimp only
    refine hK.out _ _ (fun k _ h => sanS_on hb' h) ?_
    have hXo := hX.size
    replace hX := hX.trans (hb'.mono hX.size)
    clear hK
    replace hbk := blk_on hbk hb'
    refine kT 1 3 rfl ?_
    refine kT 1 4 rfl ?_
    refine kT 1 5 rfl ?_
    refine kR 7 rfl fun K hK => ?_
    refine wp_store_mid 91 (.tmp 10) (.tmp 49) rfl X1.heap.size 0 #[.int .i64 0, .int .i64 31, .slice t6.A0 t6.ri.length t6.c0, .slice t6.A1 t6.bo.length t6.c1, .slice t6.A2 t6.lk.length t6.c2, .slice t6.A3 t6.lo.length t6.c3, .slice u6.A0 u6.ri.length u6.c0, .slice u6.A1 u6.bo.length u6.c1, .slice u6.A2 u6.lk.length u6.c2, .slice u6.A3 u6.lo.length u6.c3] rfl rfl (show World.there _ _ 0 10 from blk_there hbk) (by kernel_rfl) (by simp [Value.oneCell']) ?_
    refine hK.out _ _ (fun k _ h => sanS_oth (by omega) h) ?_
    clear hK
    refine kT 1 8 rfl ?_
    refine kD ?_
    exact ⟨s5, t6, u6, X1.heap.size, rfl, (show _ ∧ _ ∧ _ ∧ _ ∧ _ from ⟨setCells_below hbge _ _ _ hX, setCells_blk hbk _ rfl, ht.moved (hwt.nb hlt) (fun k hk => setCells_oth hk _ _ _) (by rw [setCells_size]; exact Nat.le_refl _), hct, hn⟩)⟩
  ·go_simp
   refine hK.out _ _ (fun k _ h => sanS_on ((Below.refl _ _).alloc (Nat.le_refl _) _) h) ?_
   have hbA := (Below.refl _ X0).alloc (Nat.le_refl _) (.cells #[.int .i64 0, .int .i64 0, .slice none 0 0, .slice none 0 0, .slice none 0 0, .slice none 0 0, .slice none 0 0, .slice none 0 0, .slice none 0 0, .slice none 0 0] 91)
   have hbk := blk_new X0 (g := X0.heap.size) #[.int .i64 0, .int .i64 0, .slice none 0 0, .slice none 0 0, .slice none 0 0, .slice none 0 0, .slice none 0 0, .slice none 0 0, .slice none 0 0, .slice none 0 0] 91 rfl
   have hbge : W5.heap.size ≤ X0.heap.size := hX.size
   replace hX := hX.trans (hbA.mono hX.size)
   clear hK
   have hlt0 : X0.heap.size < (X0.alloc (.cells #[.int .i64 0, .int .i64 0, .slice none 0 0, .slice none 0 0, .slice none 0 0, .slice none 0 0, .slice none 0 0, .slice none 0 0, .slice none 0 0, .slice none 0 0] 91)).heap.size := by simp
   refine kR 1 rfl fun K hK => ?_
   go_simp
   refine (Known_any (X0.alloc (.cells #[.int .i64 0, .int .i64 0, .slice none 0 0, .slice none 0 0, .slice none 0 0, .slice none 0 0, .slice none 0 0, .slice none 0 0, .slice none 0 0, .slice none 0 0] 91))).mono ?_
   rintro e X1 ⟨s5, rfl, hn, hs, hb⟩
   dsimp only
   refine hK.out _ _ (fun k _ h => sanS_on hb h) ?_
   replace hX := hX.trans (hb.mono hX.size)
   clear hK
   replace hbk := blk_on hbk hb
   have hlt : X0.heap.size < X1.heap.size := Nat.lt_of_lt_of_le hlt0 hb.size
   refine kR 2 rfl fun K hK => ?_
   go_simp
   refine (Ends_ex m A c 2 1 (0, 31) s5 X1 (K7.out.on hX).1.1.2 hs (ex_ask2 m hn) (ex_idx2 m) (ex_ends2 m hn)).mono ?_
   rintro e X2 ⟨t6, u6, rfl, ht, hct, hwt, hb'⟩
   dsimp only
   refine hK.out _ _ (fun k _ h => sanS_on hb' h) ?_
   have hXo := hX.size
   replace hX := hX.trans (hb'.mono hX.size)
   clear hK
   replace hbk := blk_on hbk hb'
   refine kT 1 3 rfl ?_
   refine kT 1 4 rfl ?_
   refine kT 1 5 rfl ?_
   refine kR 7 rfl fun K hK => ?_
   refine wp_store_mid 91 (.tmp 10) (.tmp 49) rfl X0.heap.size 0 #[.int .i64 0, .int .i64 31, .slice t6.A0 t6.ri.length t6.c0, .slice t6.A1 t6.bo.length t6.c1, .slice t6.A2 t6.lk.length t6.c2, .slice t6.A3 t6.lo.length t6.c3, .slice u6.A0 u6.ri.length u6.c0, .slice u6.A1 u6.bo.length u6.c1, .slice u6.A2 u6.lk.length u6.c2, .slice u6.A3 u6.lo.length u6.c3] rfl rfl (show World.there _ _ 0 10 from blk_there hbk) (by kernel_rfl) (by simp [Value.oneCell']) ?_
   refine hK.out _ _ (fun k _ h => sanS_oth (by omega) h) ?_
   clear hK
   refine kT 1 8 rfl ?_
   refine kD ?_
   exact ⟨s5, t6, u6, X0.heap.size, rfl, (show _ ∧ _ ∧ _ ∧ _ ∧ _ from ⟨setCells_below hbge _ _ _ hX, setCells_blk hbk _ rfl, ht.moved (hwt.nb hlt) (fun k hk => setCells_oth hk _ _ _) (by rw [setCells_size]; exact Nat.le_refl _), hct, hn⟩)⟩
 rintro a' W6 ⟨s5, t6, u6, b6, rfl, hF⟩
 dsimp only
 have K8 := Lib.hid (((K7.out.on hF.out.1).push (stays_blk hF.out.2.1)).push (stays_wet hF.out.2.2.1))
 clear hF K7
 go_upto_region 7 with fail
 -- region 7
 refine wp_region_K (by kernel_rfl) (sanS g (.slice A (mead m).length c)) (fun _ _ => true) ?_
 have K2 := Lib.hid (K8.out.on ((Below.refl _ W6).drew))
 clear K8
 generalize W6.drew = X0 at *
 have hS : sanS g (.slice A (mead m).length c) 0 X0 := cr 0 K2.out.1.1.1.2
 refine kT 0 0 rfl ?_
 clear hS
 refine kR 1 rfl fun K hK => ?_
 go_simp
 refine (Known_any X0).mono ?_
 rintro e X1 ⟨s6, rfl, hn, hs, hb⟩
 dsimp only
 refine hK.out _ _ (fun k _ h => sanS_on hb h) ?_
 have K3 := hd3 (K2.out.on hb) hs (show exC s6 from hn)
 clear hK hb hs hn K2
 refine kR 2 rfl fun K hK => ?_
 go_simp
 refine (Rests_ex m A c s6 X1 K3.out.1.1.1.2 K3.out.2.1 K3.out.2.2).mono ?_
 rintro e W7 ⟨A7, c7, rfl, hr, hb⟩
 dsimp only
 refine hK.out _ _ (fun k _ h => sanS_on hb h) ?_
 have K9 := Lib.hid ((K3.out.1.on hb).push (stays_rd hr))
 clear hK hb K3 hr
 refine kT 1 3 rfl ?_
 refine kT 1 4 rfl ?_
 refine kT 1 5 rfl ?_
 refine kT 1 6 rfl ?_
 refine kT 1 7 rfl ?_
 refine kD ?_
 go_upto_region 8 with fail
 -- region 8
 refine wp_region_K (by kernel_rfl) (sanS g (.slice A (mead m).length c)) (fun _ _ => true) ?_
 have K2 := Lib.hid (K9.out.on ((Below.refl _ W7).drew))
 clear K9
 generalize W7.drew = X0 at *
 have hS : sanS g (.slice A (mead m).length c) 0 X0 := cr 0 K2.out.1.1.1.2
 refine kT 0 0 rfl ?_
 clear hS
 refine kR 1 rfl fun K hK => ?_
 go_simp
 refine (Now_any X0).mono ?_
 rintro e X1 ⟨s7, rfl, hn, hs, hb⟩
 dsimp only
 refine hK.out _ _ (fun k _ h => sanS_on hb h) ?_
 have K3 := hd3 (K2.out.on hb) hs (show exN s7 from hn)
 clear hK hb hs hn K2
 refine kR 2 rfl fun K hK => ?_
 go_simp
 refine (Open_ex m A c s7 X1 K3.out.1.1.1.2 K3.out.2.1 K3.out.2.2).mono ?_
 rintro e W8 ⟨rfl, hb⟩
 dsimp only
 refine hK.out _ _ (fun k _ h => sanS_on hb h) ?_
 have K10 := Lib.hid (K3.out.1.on hb)
 clear hK hb K3
 refine kT 1 3 rfl ?_
 refine kT 1 4 rfl ?_
 refine kT 1 5 rfl ?_
 refine kT 1 6 rfl ?_
 refine kT 1 7 rfl ?_
 refine kD ?_
 go_upto_region 9 with fail
 -- region 9
 refine wp_region_K (by kernel_rfl) (sanS g (.slice A (mead m).length c)) (fun _ _ => true) ?_
 have K2 := Lib.hid (K10.out.on ((Below.refl _ W8).drew))
 clear K10
 generalize W8.drew = X0 at *
 have hS : sanS g (.slice A (mead m).length c) 0 X0 := cr 0 K2.out.1.1.1.2
 refine kT 0 0 rfl ?_
 clear hS
 refine kR 1 rfl fun K hK => ?_
 go_simp
 refine (Now_any X0).mono ?_
 rintro e X1 ⟨s8, rfl, hn, hs, hb⟩
 dsimp only
 refine hK.out _ _ (fun k _ h => sanS_on hb h) ?_
 have K3 := hd3 (K2.out.on hb) hs (show exN s8 from hn)
 clear hK hb hs hn K2
 refine kR 2 rfl fun K hK => ?_
 go_simp
 refine (Send_ex m A c s8 X1 K3.out.1.1.1.2 K3.out.2.1 K3.out.2.2).mono ?_
 rintro e W9 ⟨rfl, hb⟩
 dsimp only
 refine hK.out _ _ (fun k _ h => sanS_on hb h) ?_
 have K11 := Lib.hid (K3.out.1.on hb)
 clear hK hb K3
 refine kT 1 3 rfl ?_
 refine kT 1 4 rfl ?_
 refine kT 1 5 rfl ?_
 refine kT 1 6 rfl ?_
 refine kT 1 7 rfl ?_
 refine kD ?_
 go_upto_region 12 with fail
 -- region 12
 go_upto_region 13 with (first
  | (go_at_call 29; refine (same_yes A3 _ c3 2 [12, 0] _ (L1.out.on ((Below.refl _ y1).alloc (Nat.le_refl _) _)).1.2.2.2.2.2.2.1 (rd_of_blk (blk_new y1 _ 3 rfl)) (by decide)).mono ?_; rintro e y2 ⟨rfl, hb⟩; have L2 := Lib.hid (L1.out.on (((Below.refl _ y1).alloc (Nat.le_refl _) _).trans (hb.mono (by simp)))); have f0 := cr 0 L2.out.1.2.2.2.2.2.1; have f1 := cr 1 L2.out.1.2.2.2.2.2.1; have g0 := cr 0 L2.out.1.2.2.2.1; have g1 := cr 1 L2.out.1.2.2.2.1; clear hb)
  | (go_at_call 29; refine (same_yes A2 _ c2 4 [45, 31, 20, 22] _ (K11.out.on ((Below.refl _ W9).alloc (Nat.le_refl _) _)).1.2.2.2.2.2.2.2.1 (rd_of_blk (blk_new W9 _ 3 rfl)) (by decide)).mono ?_; rintro e y1 ⟨rfl, hb⟩; have L1 := Lib.hid (K11.out.on (((Below.refl _ W9).alloc (Nat.le_refl _) _).trans (hb.mono (by simp)))); clear hb))
 clear f0 f1 g0 g1 K11 L1
 have f0 := cr 2 L2.out.1.2.2.2.2.2.1
 have f1 := cr 3 L2.out.1.2.2.2.2.2.1
 have f2 := cr 4 L2.out.1.2.2.2.2.2.1
 have f3 := cr 5 L2.out.1.2.2.2.2.2.1
 have HW : Hid (Below y2.heap.size y2 ((((y2.alloc (.cells #[.int .i64 60] 3)).alloc (.cells #[.int .i64 1, .int .i64 0, .int .i64 2, .int .i64 1] 3)).alloc (.cells #[.int .i64 0, .int .i64 1, .int .i64 0, .int .i64 0] 3)).alloc (.cells #[.int .i64 4, .int .i64 0, .int .i64 3, .int .i64 0] 3)) ∧ Wet ((((y2.alloc (.cells #[.int .i64 60] 3)).alloc (.cells #[.int .i64 1, .int .i64 0, .int .i64 2, .int .i64 1] 3)).alloc (.cells #[.int .i64 0, .int .i64 1, .int .i64 0, .int .i64 0] 3)).alloc (.cells #[.int .i64 4, .int .i64 0, .int .i64 3, .int .i64 0] 3)) ⟨some ⟨y2.heap.size, 0, none⟩, some ⟨y2.heap.size + 1, 0, none⟩, some ⟨y2.heap.size + 1 + 1, 0, none⟩, some ⟨y2.heap.size + 1 + 1 + 1, 0, none⟩, 1, 4, 4, 4, [60], [1, 0, 2, 1], [0, 1, 0, 0], [4, 0, 3, 0]⟩) := by
  have b0 : Blk ((((y2.alloc (.cells #[.int .i64 60] 3)).alloc (.cells #[.int .i64 1, .int .i64 0, .int .i64 2, .int .i64 1] 3)).alloc (.cells #[.int .i64 0, .int .i64 1, .int .i64 0, .int .i64 0] 3)).alloc (.cells #[.int .i64 4, .int .i64 0, .int .i64 3, .int .i64 0] 3)) y2.heap.size #[.int .i64 60] 3 := blk_alloc (blk_alloc (blk_alloc (blk_new _ _ _ rfl) _) _) _
  have b1 : Blk ((((y2.alloc (.cells #[.int .i64 60] 3)).alloc (.cells #[.int .i64 1, .int .i64 0, .int .i64 2, .int .i64 1] 3)).alloc (.cells #[.int .i64 0, .int .i64 1, .int .i64 0, .int .i64 0] 3)).alloc (.cells #[.int .i64 4, .int .i64 0, .int .i64 3, .int .i64 0] 3)) (y2.heap.size + 1) #[.int .i64 1, .int .i64 0, .int .i64 2, .int .i64 1] 3 := blk_alloc (blk_alloc (blk_new _ _ _ (by simp)) _) _
  have b2 : Blk ((((y2.alloc (.cells #[.int .i64 60] 3)).alloc (.cells #[.int .i64 1, .int .i64 0, .int .i64 2, .int .i64 1] 3)).alloc (.cells #[.int .i64 0, .int .i64 1, .int .i64 0, .int .i64 0] 3)).alloc (.cells #[.int .i64 4, .int .i64 0, .int .i64 3, .int .i64 0] 3)) (y2.heap.size + 1 + 1) #[.int .i64 0, .int .i64 1, .int .i64 0, .int .i64 0] 3 := blk_alloc (blk_new _ _ _ (by simp)) _
  have b3 : Blk ((((y2.alloc (.cells #[.int .i64 60] 3)).alloc (.cells #[.int .i64 1, .int .i64 0, .int .i64 2, .int .i64 1] 3)).alloc (.cells #[.int .i64 0, .int .i64 1, .int .i64 0, .int .i64 0] 3)).alloc (.cells #[.int .i64 4, .int .i64 0, .int .i64 3, .int .i64 0] 3)) (y2.heap.size + 1 + 1 + 1) #[.int .i64 4, .int .i64 0, .int .i64 3, .int .i64 0] 3 := blk_new _ _ _ (by simp)
  exact Lib.hid ⟨((((Below.refl _ y2).alloc (Nat.le_refl _) _).alloc (by simp) _).alloc (by simp; omega) _).alloc (by simp; omega) _, rd_of_blk (xs := [60]) b0, rd_of_blk (xs := [1, 0, 2, 1]) b1, rd_of_blk (xs := [0, 1, 0, 0]) b2, rd_of_blk (xs := [4, 0, 3, 0]) b3, by show (1 : Nat) ≤ 1000; omega, by show (4 : Nat) ≤ 1000; omega, by show (4 : Nat) ≤ 1000; omega, by show (4 : Nat) ≤ 1000; omega⟩
 go_upto_region 14 with (go_at_call 58; refine (sameW_yes t5 ⟨some ⟨y2.heap.size, 0, none⟩, some ⟨y2.heap.size + 1, 0, none⟩, some ⟨y2.heap.size + 1 + 1, 0, none⟩, some ⟨y2.heap.size + 1 + 1 + 1, 0, none⟩, 1, 4, 4, 4, [60], [1, 0, 2, 1], [0, 1, 0, 0], [4, 0, 3, 0]⟩ _ (L2.out.on HW.out.1).1.2.2.2.2.1 HW.out.2 HL.out.1 HL.out.2.1 HL.out.2.2.1 HL.out.2.2.2).mono ?_; rintro e y3 ⟨rfl, hb⟩; have L3 := Lib.hid ((L2.out.on HW.out.1).on hb); clear hb)
 clear f0 f1 f2 f3 L2 HW HL
 go_wp2_with (go_at_call 29; refine (same_yes A7 _ c7 3 [1, 3, 4] _ (L3.out.on ((Below.refl _ y3).alloc (Nat.le_refl _) _)).1.2.1 (rd_of_blk (blk_new y3 _ 3 rfl)) (by decide)).mono ?_; rintro e y4 ⟨rfl, hb⟩; have L4 := Lib.hid (L3.out.on (((Below.refl _ y3).alloc (Nat.le_refl _) _).trans (hb.mono (by simp)))); clear hb)
 go_ret
 exact ⟨rfl, L4.out.1.1.1.1⟩
end Go.Proofs.Ytdadoelajhemjaa
