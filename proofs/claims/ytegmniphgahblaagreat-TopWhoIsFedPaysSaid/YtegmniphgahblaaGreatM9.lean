/- Opens what comes into a law: works, water, numbers. | Facts that go on with the world. | Plain: a region that draws its order, whose operations leave what is there as it is, but for those that 'kb' leaves out: each reads first. No program here. | Plain: text Q1's moves for a region inside a round of a loop over a function, calls included. No program here. | Walks: kept, with any function that chooses. | Walks: Outlets, Beds, and the closures they choose by. | Walks: Signs. | Walks: Path. -/
import Derived.Test.YtegmniphgahblaaGreatM3
import Derived.Test.YtegmniphgahblaaGreatRows
import Derived.ProofKit
import Derived.OpenShut
import Derived.ChangeOld
import Derived.Deep.Slices
import Derived.SizedLaws
import Derived.Test.YtegmniphgahblaaGreatM8
import Derived.Test.YtegmniphgahblaaGreatM6
import Derived.Shelf.AbstractIn
namespace Go.Proofs.YtegmniphgahblaaGreat
open Go.ChangeShapes Go.WideShapes Go.ChangeAt Go.RowKit Go.Shelf

theorem own_knob : ownKnob Tryz.prog.godebug = none := by kernel_rfl
theorem laid_out : laidOutB Tryz.prog = true := by kernel_rfl
theorem cells_li : Tryz.prog.cellsOf 28 = 1 := by kernel_rfl
theorem cells_lo : Tryz.prog.cellsOf 32 = 1 := by kernel_rfl
theorem cells_lc : Tryz.prog.cellsOf 22 = 1 := by kernel_rfl
theorem cells_ca : Tryz.prog.cellsOf 34 = 1 := by kernel_rfl
theorem cells_wo : Tryz.prog.cellsOf 24 = 1 := by kernel_rfl
theorem cells_wa : Tryz.prog.cellsOf 30 = 4 := by kernel_rfl
theorem cells_sp : Tryz.prog.cellsOf 67 = 2 := by kernel_rfl
theorem cells_ot : Tryz.prog.cellsOf 69 = 7 := by kernel_rfl
theorem cells_in : Tryz.prog.cellsOf 3 = 1 := by kernel_rfl
theorem bytes_ot : ∃ k, Tryz.prog.bytesOf 69 = k + 1 := ⟨71, by kernel_rfl⟩
theorem blk_on {W W' : World} {g : Nat} {cs : Array Value} {ty : TypeId} (h : Blk W g cs ty) (hb : Below W.heap.size W W') : Blk W' g cs ty := (hb.block g (Array.getElem?_eq_some_iff.1 h).1).trans h
theorem list2 {α : Type} {l : List α} (h : l.length = 2) : ∃ a b, l = [a, b] := by
 match l, h with
 | [a, b], _ => exact ⟨a, b, rfl⟩
theorem list4 {α : Type} {l : List α} (h : l.length = 4) : ∃ a b c d, l = [a, b, c, d] := by
 match l, h with
 | [a, b, c, d], _ => exact ⟨a, b, c, d, rfl⟩
theorem list5 {α : Type} {l : List α} (h : l.length = 5) : ∃ a b c d e, l = [a, b, c, d, e] := by
 match l, h with
 | [a, b, c, d, e], _ => exact ⟨a, b, c, d, e, rfl⟩
theorem list7 {α : Type} {l : List α} (h : l.length = 7) : ∃ a b c d e f g, l = [a, b, c, d, e, f, g] := by
 match l, h with
 | [a, b, c, d, e, f, g], _ => exact ⟨a, b, c, d, e, f, g, rfl⟩

theorem lt_of_cell {w : World} {a : Addr} {v : Value} (hc : w.cell? a = some v) : a.block < w.heap.size := by
 rcases Nat.lt_or_ge a.block w.heap.size with h | h
 ·exact h
 ·have : w.heap[a.block]? = none := by simp [h]
  simp [World.cell?, this] at hc

theorem list_of {α : Type} (d : α) (P : Nat → α → Prop) : ∀ (n : Nat), (∀ i, i < n → ∃ x, P i x) → ∃ l : List α, l.length = n ∧ ∀ i, i < n → P i (l.getD i d)
 | 0, _ => ⟨[], rfl, fun i hi => absurd hi (Nat.not_lt_zero i)⟩
 | n + 1, h => by
  obtain ⟨l, hl, hP⟩ := list_of d P n fun i hi => h i (by omega)
  obtain ⟨x, hx⟩ := h n (by omega)
  refine ⟨l ++ [x], by simp [hl], fun i hi => ?_⟩
  rcases Nat.lt_or_ge i n with e | e
  ·have : (l ++ [x]).getD i d = l.getD i d := by simp [List.getD, List.getElem?_append_left (show i < l.length by omega)]
   rw [this]
   exact hP i e
  ·obtain rfl : i = n := by omega
   have : (l ++ [x]).getD i d = x := by subst hl; simp [List.getD]
   rw [this]
   exact hx

section
variable {H : Type} {enc : TypeId × Value → H} {w : World} {sp : Nat → Bool} {held : Bool}

theorem weights_all {e : TypeId} : ∀ {ds : List (DataW H)} {d : DataW H}, d ∈ ds → ∀ n ∈ d.weights Tryz.prog e, n ∈ DataW.weightsAll Tryz.prog e ds
 | [], _, h, _, _ => absurd h (by simp)
 | x :: r, d, h, n, hn => by
  simp only [DataW.weightsAll, List.mem_append]
  rcases List.mem_cons.1 h with rfl | h
  ·exact .inl hn
  ·exact .inr (weights_all h n hn)
/-- All that a datum reads is within the reach. -/
def Small (t : TypeId) (d : DataW H) : Prop := ∀ m ∈ d.weights Tryz.prog t, m ≤ reachBytes
theorem Small.of {ts : List TypeId} {ds : List (DataW H)} (h : (DataW.weightsEach Tryz.prog ts ds).all (· ≤ reachBytes) = true) {j : Nat} {t : TypeId} {d : DataW H} (ht : ts[j]? = some t) (hd : ds[j]? = some d) : Small t d := fun m hm => by
 have := List.all_eq_true.1 h m (DataW.weights_mem_each ht hd m hm)
 simpa using this
theorem Small.agg {t : TypeId} {fs : Array Field} {ds : List (DataW H)} (hu : Tryz.prog.underlying t = some (.struct fs)) (h : Small t (.agg ds)) {j : Nat} {f : Field} {d : DataW H} (hf : fs[j]? = some f) (hd : ds[j]? = some d) : Small f.type d := fun m hm =>
 h m (by simp only [DataW.weights, hu]; exact DataW.weights_mem_each (j := j) (by simpa using ⟨f, hf, rfl⟩) hd m hm)
theorem Small.elem {t e : TypeId} {xs ys : List (DataW H)} (hu : Tryz.prog.underlying t = some (.slice e)) (h : Small t (.slice xs ys)) {d : DataW H} (hd : d ∈ xs) : Small e d := fun m hm =>
 h m (by simp only [DataW.weights, hu, List.mem_cons, List.mem_append]; exact .inr (.inl (weights_all hd m hm)))
theorem Small.len {t e : TypeId} {xs ys : List (DataW H)} (hu : Tryz.prog.underlying t = some (.slice e)) (h : Small t (.slice xs ys)) (hb : ∃ k, Tryz.prog.bytesOf e = k + 1) : xs.length ≤ reachBytes := by
 have := h ((xs.length + ys.length) * Tryz.prog.bytesOf e) (by simp only [DataW.weights, hu, List.mem_cons]; exact .inl trivial)
 obtain ⟨k, hk⟩ := hb
 rw [hk] at this
 exact Nat.le_trans (Nat.le_trans (Nat.le_add_right _ _) (Nat.le_mul_of_pos_right _ (by omega))) this

theorem open_rd {fuel : Nat} {c : Value} {y : DataW H × List MemPlace} (h : DataW.trod enc Tryz.prog w 0 sp held fuel 28 [c] = some y) :
  ∃ (A : Option Addr) (k : Nat) (xs : List Int), c = .slice A xs.length k ∧ Rd w w.heap.size A xs ∧ xs.length ≤ maxLen := by
 rcases open_ints Tryz.underlying28 Tryz.underlying3 cells_in h with ⟨hcs, _⟩ | ⟨a, l, k, zs, hcs, _, hl, hm, hz, _, hcell, _⟩
 ·obtain rfl : c = .slice none 0 0 := by simpa using hcs
  exact ⟨none, 0, [], rfl, Rd.nil, Nat.zero_le _⟩
 ·obtain rfl : c = .slice (some a) l k := by simpa using hcs
  have hzl : l ≤ zs.length := by rw [hz]; split <;> omega
  have hlen : (zs.take l).length = l := by rw [List.length_take]; omega
  refine ⟨some a, k, zs.take l, by rw [hlen], fun h0 => ?_, by omega⟩
  rw [hlen] at h0
  obtain ⟨b, off, s⟩ := a
  have hc0 := hcell 0 (by omega)
  have hs := World.cell?_spot hc0
  simp only [Addr.add] at hs
  obtain rfl : s = none := by simpa using hs
  refine ⟨b, off, rfl, by have := lt_of_cell hc0; simpa [Addr.add] using this, fun i hi => ?_⟩
  rw [hlen] at hi
  have := hcell i (by omega)
  rw [add_eq] at this
  rw [this]
  simp [nth, List.getD, hi]

theorem open_span {fuel : Nat} {a b : Value} {y : DataW H × List MemPlace} (h : DataW.trod enc Tryz.prog w 0 sp held fuel 67 [a, b] = some y) : ∃ lo hi : Int, a = .int .i64 lo ∧ b = .int .i64 hi := by
 obtain ⟨z0, z1, m, _, _, g0, g1⟩ := trod_struct2 Tryz.underlying67 h
 have k0 : DataW.trod enc Tryz.prog w 0 sp held m 3 [a] = some z0 := by simpa [cells_in] using g0
 have k1 : DataW.trod enc Tryz.prog w 0 sp held m 3 [b] = some z1 := by simpa [cells_in] using g1
 obtain ⟨a, e0, _, _⟩ := DataW.trod_int Tryz.underlying3 k0
 obtain ⟨b, e1, _, _⟩ := DataW.trod_int Tryz.underlying3 k1
 simp only [List.cons.injEq, and_true] at e0 e1
 exact ⟨a, b, e0, e1⟩

set_option maxRecDepth 100000 in
theorem open_ot {fuel : Nat} {cs : List Value} {y : DataW H × List MemPlace} (h : DataW.trod enc Tryz.prog w 0 sp held fuel 69 cs = some y) :
  ∃ o : Ot, cs = o.cells ∧ Rd w w.heap.size o.P o.ps ∧ o.ps.length ≤ maxLen := by
 obtain ⟨xs, n, _, _, hl, hx, hf⟩ := DataW.trod_struct Tryz.underlying69 h
 obtain ⟨a, b, c, d, e, f, g, rfl⟩ := list7 (hl.trans cells_ot)
 obtain ⟨y0, y1, y2, y3, y4, rfl⟩ := list5 hx
 have k0 : DataW.trod enc Tryz.prog w 0 sp held n 3 [a] = some y0 := by simpa [cells_in] using hf 0 _ rfl
 have k1 : DataW.trod enc Tryz.prog w 0 sp held n 3 [b] = some y1 := by simpa [cells_in] using hf 1 _ rfl
 have k2 : DataW.trod enc Tryz.prog w 0 sp held n 28 [c] = some y2 := by simpa [cells_li] using hf 2 _ rfl
 have k3 : DataW.trod enc Tryz.prog w 0 sp held n 67 [d, e] = some y3 := by simpa [cells_sp] using hf 3 _ rfl
 have k4 : DataW.trod enc Tryz.prog w 0 sp held n 67 [f, g] = some y4 := by simpa [cells_sp] using hf 4 _ rfl
 obtain ⟨a, e0, _, _⟩ := DataW.trod_int Tryz.underlying3 k0
 obtain ⟨b, e1, _, _⟩ := DataW.trod_int Tryz.underlying3 k1
 simp only [List.cons.injEq, and_true] at e0 e1
 subst e0 e1
 obtain ⟨A, k, xs, rfl, hr, hm⟩ := open_rd k2
 obtain ⟨l0, h0, rfl, rfl⟩ := open_span k3
 obtain ⟨l1, h1, rfl, rfl⟩ := open_span k4
 exact ⟨⟨a, b, A, k, xs, l0, h0, l1, h1⟩, rfl, hr, hm⟩

set_option maxRecDepth 100000 in
theorem open_outlets {fuel : Nat} {c : Value} {y : DataW H × List MemPlace} (h : DataW.trod enc Tryz.prog w 0 sp held fuel 32 [c] = some y) (hz : Small 32 y.1) :
  ∃ (A : Option Addr) (k : Nat) (l : List Ot), c = .slice A l.length k ∧ RdO w w.heap.size A l ∧ l.length ≤ reachBytes ∧ ∀ i, i < l.length → (oAt l i).ps.length ≤ maxLen := by
 rcases Go.Deep.open_slice Tryz.underlying32 h with ⟨hcs, _⟩ | ⟨a, l, k, m, n', D, Pl, hcs, _, hl, hm, hmm, hy, hi⟩
 ·obtain rfl : c = .slice none 0 0 := by simpa using hcs
  exact ⟨none, 0, [], rfl, RdO.nil, Nat.zero_le _, fun i hi => absurd hi (Nat.not_lt_zero i)⟩
 ·obtain rfl : c = .slice (some a) l k := by simpa using hcs
  have hnm : l ≤ m := by rw [hmm]; split <;> omega
  have hlr : l ≤ reachBytes := by
   rw [hy] at hz
   have := hz.len Tryz.underlying32 bytes_ot
   simpa using this
  obtain ⟨b, off, s⟩ := a
  rcases Nat.eq_zero_or_pos l with rfl | hpos
  ·exact ⟨_, k, [], rfl, RdO.nil, Nat.zero_le _, fun i hi => absurd hi (Nat.not_lt_zero i)⟩
  have hs : s = none := by
   obtain ⟨cs', hc, ht⟩ := hi 0 (by omega)
   obtain ⟨x, rfl, _⟩ := open_ot ht
   rw [cells_ot] at hc
   obtain ⟨_, _, hat⟩ := World.cells?_some hc
   have a0 := World.cell?_spot (hat 0 (by decide))
   simpa [Addr.add] using a0
  subst hs
  have each : ∀ i, i < l → ∃ x : Ot, b < w.heap.size ∧ OtAt w w.heap.size b (off + i * 7) x ∧ x.ps.length ≤ maxLen := fun i hin => by
   obtain ⟨cs', hc, ht⟩ := hi i (by omega)
   obtain ⟨x, rfl, hr, hx⟩ := open_ot ht
   rw [cells_ot] at hc
   obtain ⟨_, _, hat⟩ := World.cells?_some hc
   have a0 := hat 0 (by decide)
   have a1 := hat 1 (by decide)
   have a2 := hat 2 (by decide)
   have a3 := hat 3 (by decide)
   have a4 := hat 4 (by decide)
   have a5 := hat 5 (by decide)
   have a6 := hat 6 (by decide)
   have lt := lt_of_cell a1
   simp only [add_eq] at a0 a1 a2 a3 a4 a5 a6 lt
   exact ⟨x, lt, ⟨by simpa [Ot.cells] using a0, by simpa [Ot.cells] using a1, by simpa [Ot.cells] using a2, by simpa [Ot.cells] using a3, by simpa [Ot.cells] using a4, by simpa [Ot.cells] using a5, by simpa [Ot.cells] using a6, hr⟩, hx⟩
  obtain ⟨ls, hlen, hP⟩ := list_of (default : Ot) _ l each
  refine ⟨some ⟨b, off, none⟩, k, ls, by rw [hlen], fun h0 => ?_, by omega, fun i hi => (hP i (by omega)).2.2⟩
  obtain ⟨lb, _⟩ := hP 0 (by omega)
  exact ⟨b, off, rfl, lb, fun i hi => (hP i (by omega)).2.1⟩

/-- What is known of works that come into a law. -/
structure WkIn (w : World) (A : Option Addr) (ws : List Car) : Prop where
 rd : RdW w w.heap.size A ws
 n0 : ws.length ≤ maxLen
 n1 : ∀ i, i < ws.length → (cAt ws i).os.length ≤ reachBytes
 n2 : ∀ i, i < ws.length → ∀ j, j < (cAt ws i).os.length → (oAt (cAt ws i).os j).ps.length ≤ maxLen

set_option maxRecDepth 100000 in
theorem open_works {r : Reach} {b0 : Nat} {v : Value} {d : DataW H} {p : List MemPlace} (hv : Value.okWide Tryz.prog w r b0 24 v) (h : DataW.Trod enc Tryz.prog w 0 sp held 24 v d p) (hz : Small 24 d) :
  ∃ (A : Option Addr) (k : Nat) (ws : List Car), v = .agg #[.slice A ws.length k] ∧ WkIn w A ws := by
 obtain ⟨cs, rfl, hsz⟩ := okWide_struct Tryz.underlying24 hv
 obtain ⟨l⟩ := cs
 match l, hsz.trans cells_wo with
 | [c0], _ =>
  obtain ⟨fuel, hf⟩ := h
  obtain ⟨y0, n, hd, _, h0⟩ := trod_struct1 Tryz.underlying24 hf
  have h1 : DataW.trod enc Tryz.prog w 0 sp held n 22 [c0] = some y0 := h0
  obtain ⟨rfl, _⟩ := Prod.mk.inj hd
  have hz1 : Small 22 y0.1 := hz.agg Tryz.underlying24 (j := 0) rfl rfl
  rcases Go.Deep.open_slice Tryz.underlying22 h1 with ⟨hcs, _⟩ | ⟨a, l, k, m, n', D, Pl, hcs, _, hl, hm, hmm, hy, hi⟩
  ·obtain rfl : c0 = .slice none 0 0 := by simpa using hcs
   exact ⟨none, 0, [], rfl, ⟨fun h0 => absurd h0 (by simp), Nat.zero_le _, fun i hi => absurd hi (Nat.not_lt_zero i), fun i hi => absurd hi (Nat.not_lt_zero i)⟩⟩
  ·obtain rfl : c0 = .slice (some a) l k := by simpa using hcs
   have hnm : l ≤ m := by rw [hmm]; split <;> omega
   rw [hy] at hz1
   obtain ⟨b, off, s⟩ := a
   rcases Nat.eq_zero_or_pos l with rfl | hpos
   ·exact ⟨_, k, [], rfl, ⟨fun h0 => absurd h0 (by simp), Nat.zero_le _, fun i hi => absurd hi (Nat.not_lt_zero i), fun i hi => absurd hi (Nat.not_lt_zero i)⟩⟩
   have one : ∀ i, i < l → ∃ x : Car, w.cell? (Addr.add ⟨b, off, s⟩ i) = some (.slice x.A x.os.length x.c) ∧ RdO w w.heap.size x.A x.os ∧ x.os.length ≤ reachBytes ∧ ∀ j, j < x.os.length → (oAt x.os j).ps.length ≤ maxLen := fun i hin => by
    obtain ⟨cs', hc, ht⟩ := hi i (by omega)
    rw [cells_ca] at hc
    obtain ⟨hlen, _, hat⟩ := World.cells?_some hc
    match cs', hlen with
    | [c], _ =>
     obtain ⟨z0, n2, hd2, _, k0⟩ := trod_struct1 Tryz.underlying34 ht
     have k1 : DataW.trod enc Tryz.prog w 0 sp held n2 32 [c] = some z0 := k0
     have hz2 : Small 34 (D i) := hz1.elem Tryz.underlying22 (List.mem_map.2 ⟨i, List.mem_range.2 hin, rfl⟩)
     obtain ⟨e2, _⟩ := Prod.mk.inj hd2
     rw [e2] at hz2
     obtain ⟨A', k', xs, rfl, r1, m1, m2⟩ := open_outlets k1 (hz2.agg Tryz.underlying34 (j := 0) rfl rfl)
     have a0 := hat 0 (by decide)
     exact ⟨⟨A', k', xs⟩, by simpa [Addr.add] using a0, r1, m1, m2⟩
   have hs : s = none := by
    obtain ⟨x, h1, _⟩ := one 0 hpos
    have a0 := World.cell?_spot h1
    simpa [Addr.add] using a0
   subst hs
   have each : ∀ i, i < l → ∃ x : Car, b < w.heap.size ∧ w.cell? ⟨b, off + i, none⟩ = some (.slice x.A x.os.length x.c) ∧ RdO w w.heap.size x.A x.os ∧ x.os.length ≤ reachBytes ∧ ∀ j, j < x.os.length → (oAt x.os j).ps.length ≤ maxLen := fun i hin => by
    obtain ⟨x, h1, h2⟩ := one i hin
    have lt := lt_of_cell h1
    rw [add_eq] at h1 lt
    exact ⟨x, lt, h1, h2⟩
   obtain ⟨ls, hlen, hP⟩ := list_of (default : Car) _ l each
   refine ⟨some ⟨b, off, none⟩, k, ls, by rw [hlen], ⟨fun h0 => ?_, by omega, fun i hi => (hP i (by omega)).2.2.2.1, fun i hi => (hP i (by omega)).2.2.2.2⟩⟩
   obtain ⟨lb, _⟩ := hP 0 (by omega)
   exact ⟨b, off, rfl, lb, fun i hi => ⟨(hP i (by omega)).2.1, (hP i (by omega)).2.2.1⟩⟩

/-- What is known of water that comes into a law. -/
structure WtIn (w : World) (s : Wt) : Prop where
 r0 : Rd w w.heap.size s.A0 s.ri
 r1 : Rd w w.heap.size s.A1 s.bo
 r2 : Rd w w.heap.size s.A2 s.lk
 r3 : Rd w w.heap.size s.A3 s.lo
 m0 : s.ri.length ≤ maxLen
 m1 : s.bo.length ≤ maxLen
 m2 : s.lk.length ≤ maxLen
 m3 : s.lo.length ≤ maxLen

theorem open_wet {fuel : Nat} {a b c d : Value} {y : DataW H × List MemPlace} (h : DataW.trod enc Tryz.prog w 0 sp held fuel 30 [a, b, c, d] = some y) : ∃ s : Wt, Value.agg #[a, b, c, d] = s.v ∧ WtIn w s := by
 obtain ⟨xs, n, _, _, hl, hx, hf⟩ := DataW.trod_struct Tryz.underlying30 h
 obtain ⟨y0, y1, y2, y3, rfl⟩ := list4 hx
 have k0 : DataW.trod enc Tryz.prog w 0 sp held n 28 [a] = some y0 := by simpa [cells_li] using hf 0 _ rfl
 have k1 : DataW.trod enc Tryz.prog w 0 sp held n 28 [b] = some y1 := by simpa [cells_li] using hf 1 _ rfl
 have k2 : DataW.trod enc Tryz.prog w 0 sp held n 28 [c] = some y2 := by simpa [cells_li] using hf 2 _ rfl
 have k3 : DataW.trod enc Tryz.prog w 0 sp held n 28 [d] = some y3 := by simpa [cells_li] using hf 3 _ rfl
 obtain ⟨A0, c0, x0, rfl, r0, m0⟩ := open_rd k0
 obtain ⟨A1, c1, x1, rfl, r1, m1⟩ := open_rd k1
 obtain ⟨A2, c2, x2, rfl, r2, m2⟩ := open_rd k2
 obtain ⟨A3, c3, x3, rfl, r3, m3⟩ := open_rd k3
 exact ⟨⟨A0, A1, A2, A3, c0, c1, c2, c3, x0, x1, x2, x3⟩, rfl, r0, r1, r2, r3, m0, m1, m2, m3⟩
set_option maxRecDepth 100000 in
theorem open_water {r : Reach} {b0 : Nat} {v : Value} {d : DataW H} {p : List MemPlace} (hv : Value.okWide Tryz.prog w r b0 30 v) (h : DataW.Trod enc Tryz.prog w 0 sp held 30 v d p) :
  ∃ s : Wt, v = s.v ∧ WtIn w s := by
 obtain ⟨cs, rfl, hsz⟩ := okWide_struct Tryz.underlying30 hv
 obtain ⟨l⟩ := cs
 obtain ⟨a, b, c, e, rfl⟩ := list4 (hsz.trans cells_wa)
 obtain ⟨fuel, hf⟩ := h
 exact open_wet hf
end
end Go.Proofs.YtegmniphgahblaaGreat
namespace Go.Proofs.YtegmniphgahblaaGreat
open Go.RowKit Go.Shelf

/-- What holds of a world, and of all that go on from it. -/
def Stays (F : World → Prop) (W : World) : Prop := F W ∧ ∀ X Y : World, F X → Below X.heap.size X Y → F Y
theorem Stays.on {F : World → Prop} {W W' : World} (h : Stays F W) (hb : Below W.heap.size W W') : Stays F W' := ⟨h.2 _ _ h.1 hb, h.2⟩
theorem Stays.and {F G : World → Prop} {W : World} (h : Stays F W) (k : Stays G W) : Stays (fun X => F X ∧ G X) W := ⟨⟨h.1, k.1⟩, fun X Y a b => ⟨h.2 X Y a.1 b, k.2 X Y a.2 b⟩⟩
theorem stays_rd {W : World} {A : Option Addr} {xs : List Int} (h : Rd W W.heap.size A xs) : Stays (fun X => Rd X X.heap.size A xs) W := ⟨h, fun _ _ a b => a.ext b⟩
theorem stays_blk {W : World} {g : Nat} {cs : Array Value} {ty : TypeId} (h : Blk W g cs ty) : Stays (fun X => Blk X g cs ty) W := ⟨h, fun _ _ a b => blk_on a b⟩
theorem stays_wk {W : World} {A : Option Addr} {ws : List Car} (h : Wk W A ws) : Stays (fun X => Wk X A ws) W := ⟨h, fun _ _ a b => a.ext b⟩
theorem stays_wet {W : World} {s : Wt} (h : Wet W s) : Stays (fun X => Wet X s) W := ⟨h, fun _ _ a b => a.ext b⟩
theorem stays_csd {W : World} {s : Cs} (h : Csd W s) : Stays (fun X => Csd X s) W := ⟨h, fun _ _ a b => a.ext b⟩
theorem stays_bl {w W : World} (h : Below w.heap.size w W) : Stays (fun X => Below w.heap.size w X) W := ⟨h, fun _ _ a b => a.trans (b.mono a.size)⟩

end Go.Proofs.YtegmniphgahblaaGreat
namespace Go.Proofs.YtegmniphgahblaaGreat
open Go.RowKit

section
variable {P : Program} {ops : Array Oper} {Q : Exit → Act → World → Prop} {md : Region.Mode} {kb : Nat → Bool}

/-- Whatever order is picked: operation i, if kb i says so, leaves all that is there as it is. -/
def wpAnyR (P : Program) (md : Region.Mode) (ops : Array Oper) (Q : Exit → Act → World → Prop) (kb : Nat → Bool) : Nat → Array Bool → Act → World → Prop
 | 0, listed, a, w => Region.ready md ops listed = [] ∧ Q .normal a w
 | fuel + 1, listed, a, w =>
  (Region.ready md ops listed = [] → Q .normal a w) ∧
  ∀ i ∈ Region.ready md ops listed, wpOp P ops Q i (fun a' w' => (kb i = true → Below w.heap.size w w') ∧ wpAnyR P md ops Q kb fuel (listed.setIfInBounds i true) a' w') a w

theorem wpAny_of_R : ∀ (fuel : Nat) (listed : Array Bool) (a : Act) (w : World), wpAnyR P md ops Q kb fuel listed a w → wpAny P md ops Q fuel listed a w
 | 0, _, _, _, h => h
 | fuel + 1, _, _, _, h => ⟨h.1, fun i hi => wpOp_mono (fun a' w' h' => wpAny_of_R fuel _ a' w' h'.2) (h.2 i hi)⟩

theorem wpAnyR_first {F : World → Prop} {i : Nat} {oi : Oper} {v : Value} (s d : Nat → Bool) (hst : ∀ X X', Below X.heap.size X X' → F X → F X') (hi : ops[i]? = some oi) (hsel : ∀ (j : Nat) (o : Oper) cs b, ops[j]? = some o → o.op ≠ .select cs b)
  (hQ : ∀ c a w, Q (.panic c) (a.put oi.dst v) w → Q (.panic c) a w)
  (hcl : ∀ j oj, ops[j]? = some oj → j ≠ i → (∀ e ∈ oj.after, Region.binds md e = true → s e.on = true) → s j = true ∧ (d j = true ∨ kb j = true)) :
  ∀ (fuel : Nat) (listed : Array Bool) (a : Act) (w : World), (∀ j, listed.getD j false = true → s j = true) → (∀ j, d j = true → listed.getD j true = true) →
   (∀ j oj, ops[j]? = some oj → j ≠ i → listed.getD j true = false → (∀ e ∈ oj.after, Region.binds md e = true → e.on ≠ i) → oi.apart ops oj = true) →
   i ∈ Region.ready md ops listed → YieldsIf P ops F oi v a → F w →
   wpAnyR P md ops Q kb fuel (listed.setIfInBounds i true) (a.put oi.dst v) w → wpAnyR P md ops Q kb (fuel + 1) listed a w := by
 intro fuel
 induction fuel with
 | zero =>
  intro listed a w _ _ _ hr hy hS H
  refine ⟨fun h => (by rw [h] at hr; cases hr), fun j hj => ?_⟩
  by_cases hji : j = i
  ·subst hji; exact hy.wpOp hi hS ⟨fun _ => Below.refl _ _, H⟩
  ·have := ready_mono hj hji
   rw [H.1] at this
   cases this
 | succ fuel ih =>
  intro listed a w hls hd hfree hr hy hS H
  refine ⟨fun h => (by rw [h] at hr; cases hr), fun j hj => ?_⟩
  by_cases hji : j = i
  ·subst hji; exact hy.wpOp hi hS ⟨fun _ => Below.refl _ _, H⟩
  ·have h2 := H.2 j (ready_mono hj hji)
   obtain ⟨hjun, oj, hoj, hall⟩ := mem_ready.1 hj
   have hnot : ∀ e ∈ oj.after, Region.binds md e = true → e.on ≠ i := fun e he hb heq => by
    have h1 := hall e he hb
    have h0 := (mem_ready.1 hr).1
    rw [heq] at h1
    rcases Nat.lt_or_ge i listed.size with h' | h'
    ·simp [h'] at h0 h1; rw [h0] at h1; cases h1
    ·simp [Array.getElem?_eq_none h'] at h1
   obtain ⟨hsj, hkj⟩ := hcl j oj hoj hji (fun e he hb => hls _ (hall e he hb))
   have hkb : kb j = true := hkj.resolve_left (fun e => by have := hd j e; rw [hjun] at this; cases this)
   have hset : ∀ m, m ≠ j → (listed.setIfInBounds j true).getD m false = listed.getD m false := fun m hm => getD_set_ne false (Ne.symm hm)
   have h2 := wpOp_putIf hoj (hfree j oj hoj hji hjun hnot) (fun cs b => hsel i oi cs b hi) (fun cs b => hsel j oj cs b hoj) hQ hy h2
   have hfree' : ∀ m om, ops[m]? = some om → m ≠ i → (listed.setIfInBounds j true).getD m true = false →
     (∀ e ∈ om.after, Region.binds md e = true → e.on ≠ i) → oi.apart ops om = true := fun m om hm hmi hun hno => by
    refine hfree m om hm hmi ?_ hno
    by_cases hjm : j = m
    ·subst hjm; exact hjun
    ·rw [getD_set_ne true hjm] at hun; exact hun
   refine wpOp_mono (fun a' w' h3 => ⟨h3.2.1, ih (listed.setIfInBounds j true) a' w' (fun m hm => ?_) (fun m hm => ?_) hfree' (ready_mono hr (Ne.symm hji)) h3.1 (hst _ _ (h3.2.1 hkb) hS) ?_⟩) h2
   ·by_cases e : m = j
    ·subst e; exact hsj
    ·rw [hset m e] at hm; exact hls m hm
   ·by_cases e : j = m
    ·subst e
     rcases Nat.lt_or_ge j listed.size with h' | h'
     ·simp [h']
     ·simp [h']
    ·rw [getD_set_ne true e]; exact hd m hm
   ·rw [Array.setIfInBounds_comm _ _ hji]
    exact h3.2.2
/-- What may come ahead of operation i, from a state on: a set that is closed. -/
def aheadS (md : Region.Mode) (ops : Array Oper) (listed : Array Bool) (i : Nat) : Array Bool :=
 (List.range ops.size).foldl (fun s j => match ops[j]? with
  | none => s
  | some oj => if j != i && oj.after.all (fun e => !Region.binds md e || s.getD e.on false) then s.setIfInBounds j true else s) listed
/-- All that may come ahead of operation i leaves what is there as it is. -/
def keepsR (md : Region.Mode) (ops : Array Oper) (kb : Nat → Bool) (listed : Array Bool) (i : Nat) : Bool :=
 let s := aheadS md ops listed i
 ((List.range listed.size).all fun j => !listed.getD j false || s.getD j false) && (List.range ops.size).all fun j => match ops[j]? with
  | none => true
  | some oj => decide (j = i) || (s.getD j false && (listed.getD j false || kb j)) || oj.after.any (fun e => Region.binds md e && !s.getD e.on false)
theorem keepsR_spec {listed : Array Bool} {i : Nat} (h : keepsR md ops kb listed i = true) : ∃ s : Nat → Bool, (∀ j, listed.getD j false = true → s j = true) ∧
  ∀ j oj, ops[j]? = some oj → j ≠ i → (∀ e ∈ oj.after, Region.binds md e = true → s e.on = true) → s j = true ∧ (listed.getD j false = true ∨ kb j = true) := by
 unfold keepsR at h
 dsimp only at h
 generalize aheadS md ops listed i = s at h
 rw [Bool.and_eq_true] at h
 refine ⟨fun j => s.getD j false, fun j hj => ?_, fun j oj hj hji hall => ?_⟩
 ·have hl : j < listed.size := by
   rcases Nat.lt_or_ge j listed.size with h' | h'
   ·exact h'
   ·simp [Array.getElem?_eq_none h'] at hj
  have h1 := List.all_eq_true.1 h.1 j (List.mem_range.2 hl)
  rw [hj] at h1
  exact h1
 ·have h1 := List.all_eq_true.1 h.2 j (List.mem_range.2 (Array.getElem?_eq_some_iff.1 hj).1)
  simp only [hj] at h1
  rcases Bool.or_eq_true_iff.1 h1 with h1 | h1
  ·rcases Bool.or_eq_true_iff.1 h1 with h1 | h1
   ·exact absurd (of_decide_eq_true h1) hji
   ·rw [Bool.and_eq_true] at h1
    exact ⟨h1.1, Bool.or_eq_true_iff.1 h1.2⟩
  ·obtain ⟨e, he⟩ := Array.any_eq_true'.1 h1
   obtain ⟨h2, h3⟩ := he
   rw [Bool.and_eq_true] at h3
   have h4 : s.getD e.on false = true := hall e h2 h3.1
   rw [h4] at h3
   cases h3.2
def AllR (P : Program) (md : Region.Mode) (ops : Array Oper) (Q : Exit → Act → World → Prop) (kb : Nat → Bool) (fuel : Nat) (listed : Array Bool) (a : Act) (w : World) (rs : List Nat) : Prop :=
 ∀ i ∈ rs, wpOp P ops Q i (fun a' w' => (kb i = true → Below w.heap.size w w') ∧ wpAnyR P md ops Q kb fuel (listed.setIfInBounds i true) a' w') a w
theorem AllR.nil {fuel : Nat} {listed : Array Bool} {a : Act} {w : World} : AllR P md ops Q kb fuel listed a w [] := fun _ h => by cases h
theorem wp_region_R {id : Nat} {a : Act} {w : World} (kb : Nat → Bool) (h : wpAnyR P .any ops Q kb ops.size (Array.replicate ops.size false) a w.drew) (hm : P.follows .mixedOrders = true := by kernel_rfl) : (Code.region id ops true).wp P Q a w := wp_region_any hm (wpAny_of_R _ _ _ _ h)
theorem wp_region_cutR {id : Nat} {a : Act} {w : World} (kb : Nat → Bool) (R : Act → World → Prop)
  (h : wpAnyR P .any ops (CutQ R) kb ops.size (Array.replicate ops.size false) a w.drew) (hR : ∀ a w, R a w → Q .normal a w) (hm : P.follows .mixedOrders = true := by kernel_rfl) : (Code.region id ops true).wp P Q a w :=
 Code.wp_mono (fun e a w h => by
  cases e with
  | normal => exact hR _ _ h
  | _ => exact h.elim) (wp_region_R kb h hm)
end

section
variable {P : Program} {l : List Oper} {Q : Exit → Act → World → Prop} {md : Region.Mode} {kb : Nat → Bool} {oi : Oper} {v : Value} {fuel : Nat} {listed : Array Bool} {a a' : Act} {w : World}
theorem bG {F : World → Prop} (hst : ∀ X X', Below X.heap.size X X' → F X → F X') (hS : F w) (i : Nat) (hi : l[i]? = some oi)
  (h : wpAnyR P md l.toArray Q kb fuel (listed.setIfInBounds i true) (a.put oi.dst v) w) (hy : YieldsIf P l.toArray F oi v a)
  (hb : (Region.noSelect l.toArray && Region.free md l.toArray listed i && (Region.ready md l.toArray listed).contains i && keepsR md l.toArray kb listed i) = true)
  (hQ : ∀ c a w, Q (.panic c) (a.put oi.dst v) w → Q (.panic c) a w) : wpAnyR P md l.toArray Q kb (fuel + 1) listed a w := by
 simp only [Bool.and_eq_true] at hb
 obtain ⟨s, hls, hcl⟩ := keepsR_spec hb.2
 exact wpAnyR_first s (fun j => listed.getD j false) hst (by rw [List.getElem?_toArray]; exact hi) (Region.noSelect_spec hb.1.1.1) hQ hcl fuel listed a w hls (fun j hj => by
  rcases Nat.lt_or_ge j listed.size with h' | h'
  ·simp [h'] at hj ⊢; exact hj
  ·simp [Array.getElem?_eq_none h']) (Region.free_spec (by rw [List.getElem?_toArray]; exact hi) hb.1.1.2) (by simpa using hb.1.2) hy hS h
/-- An operation that reads no memory. -/
theorem bF (i : Nat) (hi : l[i]? = some oi) (h : wpAnyR P md l.toArray Q kb fuel (listed.setIfInBounds i true) a' w)
  (hrun : ∀ w, (execOp a.eval oi).run P w = .ok (.value v) w := by (intro w; go_simp; (try with_reducible rfl))) (ha : a.put oi.dst v = a' := by first | (go_frame; rfl) | rfl) (hw : Region.wanted oi (yielded l.toArray a.tmps) = true := by first | rfl | kernel_rfl)
  (hb : (Region.noSelect l.toArray && Region.free md l.toArray listed i && (Region.ready md l.toArray listed).contains i && keepsR md l.toArray kb listed i) = true := by kernel_rfl)
  (hQ : ∀ c a w, Q (.panic c) (a.put oi.dst v) w → Q (.panic c) a w := by exact fun _ _ _ h => h) : wpAnyR P md l.toArray Q kb (fuel + 1) listed a w :=
 bG (F := fun _ => True) (fun _ _ _ h => h) trivial i hi (ha ▸ h) (.inl ⟨hw, fun w _ => hrun w⟩) hb hQ
/-- One that is guarded off. -/
theorem bS (i : Nat) (hi : l[i]? = some oi) (h : wpAnyR P md l.toArray Q kb fuel (listed.setIfInBounds i true) a' w) (ha : a.put oi.dst undef = a' := by first | (go_frame; rfl) | rfl) (hw : Region.wanted oi (yielded l.toArray a.tmps) = false := by kernel_rfl)
  (hb : (Region.noSelect l.toArray && Region.free md l.toArray listed i && (Region.ready md l.toArray listed).contains i && keepsR md l.toArray kb listed i) = true := by kernel_rfl)
  (hQ : ∀ c a w, Q (.panic c) (a.put oi.dst undef) w → Q (.panic c) a w := by exact fun _ _ _ h => h) : wpAnyR P md l.toArray Q kb (fuel + 1) listed a w :=
 bG (F := fun _ => True) (fun _ _ _ h => h) trivial i hi (ha ▸ h) (.inr ⟨hw, rfl⟩) hb hQ
/-- One that reads one cell, two, four. -/
theorem bT {g j : Nat} {u : Value} (hc : w.cell? ⟨g, j, none⟩ = some u) (i : Nat) (hi : l[i]? = some oi) (h : wpAnyR P md l.toArray Q kb fuel (listed.setIfInBounds i true) a' w)
  (hrun : ∀ w : World, w.cell? ⟨g, j, none⟩ = some u → (execOp a.eval oi).run P w = .ok (.value v) w := by (intro w _; go_simp; (try with_reducible rfl))) (ha : a.put oi.dst v = a' := by first | (go_frame; rfl) | rfl) (hw : Region.wanted oi (yielded l.toArray a.tmps) = true := by first | rfl | kernel_rfl)
  (hb : (Region.noSelect l.toArray && Region.free md l.toArray listed i && (Region.ready md l.toArray listed).contains i && keepsR md l.toArray kb listed i) = true := by kernel_rfl)
  (hQ : ∀ c a w, Q (.panic c) (a.put oi.dst v) w → Q (.panic c) a w := by exact fun _ _ _ h => h) : wpAnyR P md l.toArray Q kb (fuel + 1) listed a w :=
 bG (F := fun X => X.cell? ⟨g, j, none⟩ = some u) (fun _ _ hb h => cell_below hb h) hc i hi (ha ▸ h) (.inl ⟨hw, hrun⟩) hb hQ
theorem bP {g j g' j' : Nat} {u u' : Value} (hc : w.cell? ⟨g, j, none⟩ = some u) (hc' : w.cell? ⟨g', j', none⟩ = some u') (i : Nat) (hi : l[i]? = some oi) (h : wpAnyR P md l.toArray Q kb fuel (listed.setIfInBounds i true) a' w)
  (hrun : ∀ w : World, w.cell? ⟨g, j, none⟩ = some u → w.cell? ⟨g', j', none⟩ = some u' → (execOp a.eval oi).run P w = .ok (.value v) w := by (intro w _ _; go_simp; (try with_reducible rfl))) (ha : a.put oi.dst v = a' := by first | (go_frame; rfl) | rfl) (hw : Region.wanted oi (yielded l.toArray a.tmps) = true := by first | rfl | kernel_rfl)
  (hb : (Region.noSelect l.toArray && Region.free md l.toArray listed i && (Region.ready md l.toArray listed).contains i && keepsR md l.toArray kb listed i) = true := by kernel_rfl)
  (hQ : ∀ c a w, Q (.panic c) (a.put oi.dst v) w → Q (.panic c) a w := by exact fun _ _ _ h => h) : wpAnyR P md l.toArray Q kb (fuel + 1) listed a w :=
 bG (F := fun X => X.cell? ⟨g, j, none⟩ = some u ∧ X.cell? ⟨g', j', none⟩ = some u') (fun _ _ hb h => ⟨cell_below hb h.1, cell_below hb h.2⟩) ⟨hc, hc'⟩ i hi (ha ▸ h) (.inl ⟨hw, fun w h => hrun w h.1 h.2⟩) hb hQ
theorem bW {g j g1 j1 g2 j2 g3 j3 : Nat} {u u1 u2 u3 : Value} (hc : w.cell? ⟨g, j, none⟩ = some u) (hc1 : w.cell? ⟨g1, j1, none⟩ = some u1) (hc2 : w.cell? ⟨g2, j2, none⟩ = some u2) (hc3 : w.cell? ⟨g3, j3, none⟩ = some u3) (i : Nat) (hi : l[i]? = some oi) (h : wpAnyR P md l.toArray Q kb fuel (listed.setIfInBounds i true) a' w)
  (hrun : ∀ w : World, w.cell? ⟨g, j, none⟩ = some u → w.cell? ⟨g1, j1, none⟩ = some u1 → w.cell? ⟨g2, j2, none⟩ = some u2 → w.cell? ⟨g3, j3, none⟩ = some u3 → (execOp a.eval oi).run P w = .ok (.value v) w := by (intro w _ _ _ _; go_simp; (try with_reducible rfl))) (ha : a.put oi.dst v = a' := by first | (go_frame; rfl) | rfl) (hw : Region.wanted oi (yielded l.toArray a.tmps) = true := by first | rfl | kernel_rfl)
  (hb : (Region.noSelect l.toArray && Region.free md l.toArray listed i && (Region.ready md l.toArray listed).contains i && keepsR md l.toArray kb listed i) = true := by kernel_rfl)
  (hQ : ∀ c a w, Q (.panic c) (a.put oi.dst v) w → Q (.panic c) a w := by exact fun _ _ _ h => h) : wpAnyR P md l.toArray Q kb (fuel + 1) listed a w :=
 bG (F := fun X => X.cell? ⟨g, j, none⟩ = some u ∧ X.cell? ⟨g1, j1, none⟩ = some u1 ∧ X.cell? ⟨g2, j2, none⟩ = some u2 ∧ X.cell? ⟨g3, j3, none⟩ = some u3) (fun _ _ hb h => ⟨cell_below hb h.1, cell_below hb h.2.1, cell_below hb h.2.2.1, cell_below hb h.2.2.2⟩) ⟨hc, hc1, hc2, hc3⟩ i hi (ha ▸ h) (.inl ⟨hw, fun w h => hrun w h.1 h.2.1 h.2.2.1 h.2.2.2⟩) hb hQ
/-- Only operation i is ready; several are; none is. -/
theorem AllR.cons {i : Nat} {o : Oper} {rs : List Nat} (ho : l[i]? = some o)
  (h : ∀ K' : Act → World → Prop, Shut (∀ a' w', (kb i = true → Below w.heap.size w w') → wpAnyR P md l.toArray Q kb fuel (listed.setIfInBounds i true) a' w' → K' a' w') → Oper.wp P o a w K' Q)
  (hs : AllR P md l.toArray Q kb fuel listed a w rs) (hw : Region.wanted o (yielded l.toArray a.tmps) = true := by first | rfl | kernel_rfl) : AllR P md l.toArray Q kb fuel listed a w (i :: rs) := fun j hj => by
 rcases List.mem_cons.1 hj with rfl | hj
 ·refine wpOp_step (by rw [List.getElem?_toArray]; exact ho) (fun K' hK => ?_)
  rw [if_pos hw]
  exact h K' (fun a' w' h1 h2 => hK a' w' ⟨h1, h2⟩)
 ·exact hs j hj
theorem bA {rs : List Nat} (h : AllR P md l.toArray Q kb fuel listed a w rs) (hr : Region.ready md l.toArray listed = rs := by kernel_rfl) (hne : rs ≠ [] := by simp) : wpAnyR P md l.toArray Q kb (fuel + 1) listed a w :=
 ⟨fun h0 => absurd (hr ▸ h0) hne, by rw [hr]; exact h⟩
theorem bR (i : Nat) {o : Oper} (ho : l[i]? = some o)
  (h : ∀ K' : Act → World → Prop, Shut (∀ a' w', (kb i = true → Below w.heap.size w w') → wpAnyR P md l.toArray Q kb fuel (listed.setIfInBounds i true) a' w' → K' a' w') → Oper.wp P o a w K' Q)
  (hr : Region.ready md l.toArray listed = [i] := by kernel_rfl) (hw : Region.wanted o (yielded l.toArray a.tmps) = true := by first | rfl | kernel_rfl) : wpAnyR P md l.toArray Q kb (fuel + 1) listed a w :=
 bA (AllR.cons ho h AllR.nil hw) hr
theorem wpAnyR_done (hr : Region.ready md l.toArray listed = []) (h : Q .normal a w) : ∀ fuel, wpAnyR P md l.toArray Q kb fuel listed a w
 | 0 => ⟨hr, h⟩
 | _ + 1 => ⟨fun _ => h, by rw [hr]; simp⟩
theorem bD (h : Q .normal a w) (hr : Region.ready md l.toArray listed = [] := by kernel_rfl) : wpAnyR P md l.toArray Q kb fuel listed a w := wpAnyR_done hr h _
end
end Go.Proofs.YtegmniphgahblaaGreat
namespace Go.Proofs.YtegmniphgahblaaGreat
open Go.RowKit

section
variable {P : Program} {ops : Array Oper} {md : Region.Mode} {Q : Exit → Act → World → Prop} {r m : Nat}
theorem rowsIn_round {row : String} {args : Array Value} {w : World} {R : Value → World → Prop} (h : Rows P row args w R) : RowsIn (Fence.wide.inRound r) m P row args w R := fun c cs _ =>
 let ⟨v, w', h1, h2⟩ := h c cs; ⟨v, w', h1, stepsIn_wide.2 h2⟩
theorem wpIn_of_wpR {o : Oper} {a : Act} {w : World} {K : Act → World → Prop} (hnd : ∀ c, o.op ≠ .defer c) (h : o.wp P a w K (EndsOnly Q)) : o.wpIn (Fence.wide.inRound r) m P a w K Q := by
 unfold Oper.wpIn
 refine ⟨fun _ _ => trivial, ?_⟩
 rw [Oper.semAt_eq _ _ _ hnd]
 unfold Oper.wp at h
 generalize (execOp a.eval o).run P w = z at *
 cases z with
 | ok x w' =>
  cases x <;> simp only [Oper.upon] at h <;> simp only [Oper.uponIn]
  case value v => exact h
  case skip => exact h
  case defer d => exact h
  case enter f args =>
   refine ⟨fun e => (by cases e), CallsIn.inRound r (callsIn_wide.2 (Calls.mono h ?_))⟩
   intro e w'' h2
   cases e with
   | returned v => exact h2
   | panicked c => exact h2.elim
   | outgrown => obtain ⟨_, _, h3⟩ := h2; exact h3.elim
  case row row args => exact ⟨fun e => (by cases e), rowsIn_round h⟩
 | halt x w' => cases x <;> simp only [Oper.upon] at h <;> exact h.elim
theorem wpOpIn_of_wpR (hnd : ∀ (i : Nat) (o : Oper) c, ops[i]? = some o → o.op ≠ .defer c) {i : Nat} {K K' : Act → World → Prop} {a : Act} {w : World} (hK : ∀ a w, K a w → K' a w) (h : wpOp P ops (EndsOnly Q) i K a w) : wpOpIn (Fence.wide.inRound r) m P ops Q i K' a w := by
 unfold wpOp at h
 unfold wpOpIn
 split
 ·rename_i ho; simp only [ho] at h; exact hK _ _ h
 ·rename_i o ho
  simp only [ho] at h
  split
  ·rename_i hw
   simp only [hw, if_true] at h
   rcases h with h | ⟨_, a', w', hq⟩
   ·have h1 := wpIn_of_wpR (r := r) (m := m) (hnd i o · ho) h
    exact Oper.wpIn_mono hK h1
   ·exact hq.elim
  ·rename_i hw
   simp only [hw] at h
   exact ⟨fun _ _ => trivial, hK _ _ h⟩
theorem wpAnyIn_of_wpR (hnd : ∀ (i : Nat) (o : Oper) c, ops[i]? = some o → o.op ≠ .defer c) : ∀ (fuel : Nat) (listed : Array Bool) (a : Act) (w : World), wpAny P md ops (EndsOnly Q) fuel listed a w → wpAnyIn (Fence.wide.inRound r) m P md ops Q fuel listed a w
 | 0, _, _, _, h => ⟨h.1, h.2⟩
 | fuel + 1, _, _, _, h => ⟨fun h0 => h.1 h0, fun i hi => wpOpIn_of_wpR hnd (fun a' w' h' => wpAnyIn_of_wpR hnd fuel _ a' w' h') (h.2 i hi)⟩
theorem wpIn_region_R {id : Nat} {a : Act} {w : World} {l : List Oper} (kb : Nat → Bool) (h : wpAnyR P .any l.toArray (EndsOnly Q) kb l.toArray.size (Array.replicate l.toArray.size false) a w.drew)
  (hm : P.follows .mixedOrders = true := by kernel_rfl) (hd : noDeferB l = true := by kernel_rfl) : (Code.region id l.toArray true).wpIn (Fence.wide.inRound r) m P Q a w :=
 wpIn_region_any hm (wpAnyIn_of_wpR (noDeferB_spec hd) _ _ _ _ (wpAny_of_R _ _ _ _ h))
end
section
variable {P : Program} {l : List Oper} {Q : Exit → Act → World → Prop} {md : Region.Mode} {kb : Nat → Bool} {oi : Oper} {v : Value} {fuel : Nat} {listed : Array Bool} {a a' : Act} {w : World}
/-- An operation that reads three cells. -/
theorem bV {g j g1 j1 g2 j2 : Nat} {u u1 u2 : Value} (hc : w.cell? ⟨g, j, none⟩ = some u) (hc1 : w.cell? ⟨g1, j1, none⟩ = some u1) (hc2 : w.cell? ⟨g2, j2, none⟩ = some u2) (i : Nat) (hi : l[i]? = some oi) (h : wpAnyR P md l.toArray Q kb fuel (listed.setIfInBounds i true) a' w)
  (hrun : ∀ w : World, w.cell? ⟨g, j, none⟩ = some u → w.cell? ⟨g1, j1, none⟩ = some u1 → w.cell? ⟨g2, j2, none⟩ = some u2 → (execOp a.eval oi).run P w = .ok (.value v) w := by (intro w _ _ _; go_simp; (try with_reducible rfl))) (ha : a.put oi.dst v = a' := by first | (go_frame; rfl) | rfl) (hw : Region.wanted oi (yielded l.toArray a.tmps) = true := by first | rfl | kernel_rfl)
  (hb : (Region.noSelect l.toArray && Region.free md l.toArray listed i && (Region.ready md l.toArray listed).contains i && keepsR md l.toArray kb listed i) = true := by kernel_rfl)
  (hQ : ∀ c a w, Q (.panic c) (a.put oi.dst v) w → Q (.panic c) a w := by exact fun _ _ _ h => h) : wpAnyR P md l.toArray Q kb (fuel + 1) listed a w :=
 bG (F := fun X => X.cell? ⟨g, j, none⟩ = some u ∧ X.cell? ⟨g1, j1, none⟩ = some u1 ∧ X.cell? ⟨g2, j2, none⟩ = some u2) (fun _ _ hb h => ⟨cell_below hb h.1, cell_below hb h.2.1, cell_below hb h.2.2⟩) ⟨hc, hc1, hc2⟩ i hi (ha ▸ h) (.inl ⟨hw, fun w h => hrun w h.1 h.2.1 h.2.2⟩) hb hQ
end
end Go.Proofs.YtegmniphgahblaaGreat
namespace Go.Proofs.YtegmniphgahblaaGreat
open Go.RowKit Go.Shelf
attribute [local go_sem] Oper.semAt_some

/-- The IDs of the outlets that are chosen. -/
def kpL (ws : List Car) (p : Nat → Bool) : List Int := ((List.range (outs ws).length).filter p).map fun i => (oAt (outs ws) i).id

/-- The IDs of the outlets chosen so far. -/
def kpP (ws : List Car) (p : Nat → Bool) (l : List (Fin (outs ws).length)) : List Int := (l.filter fun i => p i.1).map fun i => (oAt (outs ws) i.1).id
theorem kpP_all (ws : List Car) (p : Nat → Bool) : kpP ws p (List.finRange (outs ws).length) = kpL ws p := by
 unfold kpP kpL
 have h : ((List.finRange (outs ws).length).filter fun i => p i.1).map (fun i => i.1) = (List.range (outs ws).length).filter p := by
  rw [show (fun i : Fin (outs ws).length => p i.1) = p ∘ (fun i => i.1) from rfl, ← List.filter_map, show (List.finRange (outs ws).length).map (fun i => i.1) = List.range (outs ws).length by rw [finRange_map (fun i => i)]; simp]
 rw [← h, List.map_map]
 rfl
theorem kpP_length (ws : List Car) (p : Nat → Bool) (l : List (Fin (outs ws).length)) : (kpP ws p l).length ≤ l.length := by
 unfold kpP
 rw [List.length_map]
 exact List.length_filter_le _ _
theorem kpP_no {ws : List Car} {p : Nat → Bool} {l : List (Fin (outs ws).length)} {y : Fin (outs ws).length} (h : p y.1 = false) : kpP ws p (l ++ [y]) = kpP ws p l := by
 unfold kpP
 rw [List.filter_append]
 simp [h]
theorem kpP_yes {ws : List Car} {p : Nat → Bool} {l : List (Fin (outs ws).length)} {y : Fin (outs ws).length} (h : p y.1 = true) : kpP ws p (l ++ [y]) = kpP ws p l ++ [(oAt (outs ws) y.1).id] := by
 unfold kpP
 rw [List.filter_append, List.map_append]
 simp [h]
/-- What the loop of kept keeps. -/
structure KpI (w W2 : World) (go : Nat) (ws : List Car) (p : Nat → Bool) (pre : List (Fin (outs ws).length)) (W : World) : Prop where
 a : ∃ A2 c2, Blk W go #[.slice A2 (kpP ws p pre).length c2] 28 ∧ Own W W2.heap.size (.slice A2 (kpP ws p pre).length c2) (kpP ws p pre)
 md : ∀ k, k < W2.heap.size → k ≠ go → W.heap[k]? = W2.heap[k]?
 bl : Below w.heap.size w W
 lt : W2.heap.size ≤ W.heap.size
 l4 : w.heap.size ≤ go ∧ go < W2.heap.size
theorem KpI.kept {w W2 : World} {go : Nat} {ws : List Car} {p : Nat → Bool} {pre : List (Fin (outs ws).length)} {W W' : World} {row : Option Nat} (h : KpI w W2 go ws p pre W) (hg : W.grownBy W' row) (hr : ∀ r, row = some r → W2.heap.size ≤ r ∧ ∃ o : Obj, W.heap[r]? = some o ∧ o.isCells = false) : KpI w W2 go ws p pre W' := by
 obtain ⟨A2, c2, h1, h2⟩ := h.a
 have hr2 := fun r e => (hr r e).2
 have l4 := h.l4
 have hlt := h.lt
 exact ⟨⟨A2, c2, h1.kept hg hr2, h2.kept hg hr2⟩, fun k hk hk2 => (hg.block k (by omega) (fun e => by have := (hr k e.symm).1; omega)).trans (h.md k hk hk2),
  h.bl.grown hg h.bl.size (fun k e => by have := (hr k e).1; omega), Nat.le_trans h.lt hg.size, h.l4⟩
theorem KpI.later {w W2 : World} {go : Nat} {ws : List Car} {p : Nat → Bool} {pre : List (Fin (outs ws).length)} {W W' : World} (h : KpI w W2 go ws p pre W) (hb : Below W.heap.size W W') : KpI w W2 go ws p pre W' := by
 obtain ⟨A2, c2, h1, h2⟩ := h.a
 have hlt := h.lt
 exact ⟨⟨A2, c2, blk_on h1 hb, h2.later hb⟩, fun k hk hk2 => (hb.block k (by omega)).trans (h.md k hk hk2), h.bl.trans (hb.mono h.bl.size), Nat.le_trans h.lt hb.size, h.l4⟩
theorem KpI.cell {w W2 : World} {go : Nat} {ws : List Car} {p : Nat → Bool} {pre : List (Fin (outs ws).length)} {W : World} (h : KpI w W2 go ws p pre W) {g i : Nat} {u : Value} (hc : W2.cell? ⟨g, i, none⟩ = some u) (hn : g ≠ go) : W.cell? ⟨g, i, none⟩ = some u := (cell_of_heap (h.md g (lt_of_cell' hc) hn)).trans hc
section
variable {P : Program} {l : List Oper} {Q : Exit → Act → World → Prop} {md : Region.Mode} {kb : Nat → Bool} {oi : Oper} {v : Value} {fuel : Nat} {listed : Array Bool} {a a' : Act} {w : World}
/-- An operation that reads a whole block. -/
theorem bUk {g : Nat} {cs : Array Value} {ty : TypeId} (hk : Blk w g cs ty) (i : Nat) (hi : l[i]? = some oi) (h : wpAnyR P md l.toArray Q kb fuel (listed.setIfInBounds i true) a' w)
  (hrun : ∀ w : World, Blk w g cs ty → (execOp a.eval oi).run P w = .ok (.value v) w) (ha : a.put oi.dst v = a' := by first | (go_frame; rfl) | rfl) (hw : Region.wanted oi (yielded l.toArray a.tmps) = true := by first | rfl | kernel_rfl)
  (hb : (Region.noSelect l.toArray && Region.free md l.toArray listed i && (Region.ready md l.toArray listed).contains i && keepsR md l.toArray kb listed i) = true := by kernel_rfl)
  (hQ : ∀ c a w, Q (.panic c) (a.put oi.dst v) w → Q (.panic c) a w := by exact fun _ _ _ h => h) : wpAnyR P md l.toArray Q kb (fuel + 1) listed a w :=
 bG (F := fun X => Blk X g cs ty) (fun _ _ hb h => blk_on h hb) hk i hi (ha ▸ h) (.inl ⟨hw, hrun⟩) hb hQ
end

theorem id_any (o : Ot) (w : World) : Calls Tryz.prog 49 #[o.v] w fun e w' => e = .returned (.int .i64 o.id) ∧ Below w.heap.size w w' := by
 have hb : Below w.heap.size w (w.alloc (.cells o.cells.toArray 69)) := (Below.refl _ w).alloc (Nat.le_refl _) _
 have HB := Lib.hid hb
 clear hb
 obtain ⟨oi, ot, P, c, ps, kl, kh, sl, sh⟩ := o
 dsimp only [Ot.v, Ot.cells] at *
 go_enter Tryz.func49, Tryz.ntmps49
 go_wp2
 go_ret
 exact ⟨rfl, HB.out⟩

set_option maxRecDepth 100000 in
set_option maxHeartbeats 2000000 in
theorem kept_in (gf : Nat) (lb : Array Value) (eg : ∀ args w, (callFunc gf args).run Tryz.prog w = .ok (.enter gf args) w) (p : Nat → Bool) (A : Option Addr) (c gw : Nat) (ws : List Car) (w : World) (hW : Wk w A ws) (c8 : w.cell? ⟨gw, 0, none⟩ = some (.slice A ws.length c))
  (hp : ∀ i W, i < (outs ws).length → Below w.heap.size w W → Calls Tryz.prog gf (#[.agg #[.int .i64 (i : Int), .int .i64 (caAt ws i : Int), .int .i64 (atAt ws i : Int)], (oAt (outs ws) i).v] ++ lb) W fun e w' => e = .returned (.bool (p i)) ∧ Below W.heap.size W w') :
  CallsIn Fence.wide 3 Tryz.prog 46 #[.func (.func 68) #[] #[.pointer (some ⟨gw, 0, none⟩)], .func (.func gf) #[] lb, .func (.func 49) #[] #[]] w fun e w' => ∃ A' c', e = .returned (.slice A' (kpL ws p).length c') ∧ Rd w' w'.heap.size A' (kpL ws p) ∧ Below w.heap.size w w' := by
 have h := hW.rd
 have hm : ws.length ≤ maxLen := by have := hW.n1; unfold maxLen; omega
 have hN : (outs ws).length ≤ 1000000000 := by have := hW.n2; omega
 refine callsIn_of_wp_marks Tryz.func46 rfl trivial ?_ rfl
 simp only [Tryz.ntmps46, List.size_toArray, List.length_cons, List.length_nil, Nat.reduceAdd, Nat.reduceSub, Array.replicate_succ, Array.replicate_zero, List.push_toArray, List.append_toArray, List.nil_append, List.cons_append]
 gi_wp2
 have HI0 : Hid (KpI w (((w.alloc (.cells #[.func (.func gf) #[] lb] 107)).alloc (.cells #[.func (.func 49) #[] #[]] 108)).alloc (.cells #[.slice none 0 0] 28)) (w.heap.size + 1 + 1) ws p [] (((w.alloc (.cells #[.func (.func gf) #[] lb] 107)).alloc (.cells #[.func (.func 49) #[] #[]] 108)).alloc (.cells #[.slice none 0 0] 28))) := Lib.hid ⟨⟨none, 0, blk_new _ _ _ (by simp), Own.nil _ _⟩, fun _ _ _ => rfl, (((Below.refl _ w).alloc (Nat.le_refl _) _).alloc (by simp) _).alloc (by simp; omega) _, Nat.le_refl _, by omega, by simp⟩
 have b4 := blk_alloc (blk_alloc (blk_new w #[.func (.func gf) #[] lb] 107 rfl) (.cells #[.func (.func 49) #[] #[]] 108)) (.cells #[.slice none 0 0] 28)
 have b5 := blk_alloc (blk_new (w.alloc (.cells #[.func (.func gf) #[] lb] 107)) (g := w.heap.size + 1) #[.func (.func 49) #[] #[]] 108 (by simp)) (.cells #[.slice none 0 0] 28)
 have hsz3 : (((w.alloc (.cells #[.func (.func gf) #[] lb] 107)).alloc (.cells #[.func (.func 49) #[] #[]] 108)).alloc (.cells #[.slice none 0 0] 28)).heap.size = w.heap.size + 3 := by simp
 generalize hgW : (((w.alloc (.cells #[.func (.func gf) #[] lb] 107)).alloc (.cells #[.func (.func 49) #[] #[]] 108)).alloc (.cells #[.slice none 0 0] 28)) = W3 at *
 clear hgW
 have hgl : gw < w.heap.size := lt_of_cell' c8
 have c8' : W3.cell? ⟨gw, 0, none⟩ = some (.slice A ws.length c) := cell_below HI0.out.bl c8
 have hseq := outlets_stops 2 (by omega) w.heap.size gw A c ws W3 HI0.out.bl.size c8' (by omega) (h.below HI0.out.bl (Nat.le_refl _)) hm hN
 have hO : OwnFrom W3.heap.size (fun pre W => KpI w W3 (w.heap.size + 1 + 1) ws p pre W) := fun pre W W' row hi hgr hrow => hi.kept hgr (fun r e => ⟨(hrow r e).1, (hrow r e).2⟩)
 have HB := hd2 b4 b5
 clear b4 b5 c8'
 refine wpIn_rangeFunc_ownH rfl (by omega) (gf := 68) (lb := #[.pointer (some ⟨gw, 0, none⟩)]) rfl trivial eg_outlets hseq belowK_t (belowK_b HI0.out.bl.size) (Below.refl _ W3) (fun _ => rfl)
  (fun pre W => KpI w W3 (w.heap.size + 1 + 1) ws p pre W) (fun _ _ _ => False) hO (fun _ _ _ _ _ hs _ _ => hs) HI0.out
  (fun y a' W => ∃ g8 g9, a' = { tmps := #[.func (.func 68) #[] #[.pointer (some ⟨gw, 0, none⟩)], .func (.func gf) #[] lb, .func (.func 49) #[] #[], undef, .pointer (some ⟨w.heap.size, 0, none⟩), .pointer (some ⟨w.heap.size + 1, 0, none⟩), .slice none 0 0, .pointer (some ⟨(w.heap.size + 1 + 1), 0, none⟩), .pointer (some ⟨g8, 0, none⟩), .pointer (some ⟨g9, 0, none⟩), .func (.func 68) #[] #[.pointer (some ⟨gw, 0, none⟩)], .agg #[.int .i64 (y.1 : Int), .int .i64 (caAt ws y.1 : Int), .int .i64 (atAt ws y.1 : Int)], (oAt (outs ws) y.1).v, undef, undef, undef, undef, undef, undef, undef, undef, undef, undef, undef], defers := [] } ∧ Blk W g8 #[.int .i64 (y.1 : Int), .int .i64 (caAt ws y.1 : Int), .int .i64 (atAt ws y.1 : Int)] 103 ∧ Blk W g9 #[.int .i64 (oAt (outs ws) y.1).id, .int .i64 (oAt (outs ws) y.1).into, .slice (oAt (outs ws) y.1).P (oAt (outs ws) y.1).ps.length (oAt (outs ws) y.1).c, .int .i64 (oAt (outs ws) y.1).kl, .int .i64 (oAt (outs ws) y.1).kh, .int .i64 (oAt (outs ws) y.1).sl, .int .i64 (oAt (outs ws) y.1).sh] 69)
  ?ownA ?assign ?body ?done (fun _ _ _ _ _ _ h _ => h.elim)
 case ownA =>
  rintro y a' _ W W' row ⟨g8, g9, e, hx, hx2⟩ hgr hrow
  exact ⟨g8, g9, e, hx.kept hgr (fun r e => (hrow r e).2), hx2.kept hgr (fun r e => (hrow r e).2)⟩
 case assign =>
  intro l pre y W K hi hK
  have hbl := hi.bl.size
  dsimp only [encI, Ot.v]
  gi_wp2
  exact hK _ _ ((one_keeps _ _ _).trans (one_keeps _ _ _)) ((one_below hbl _).alloc (by simp; omega) _) (hO.alloc _ (hO.alloc _ hi)) ⟨_, _, rfl, blk_alloc (blk_new W _ _ rfl) _, blk_new (g := W.heap.size + 1) _ _ _ (by simp)⟩
 case body =>
  rintro l pre y a' W hl hrec hi ⟨g8, g9, rfl, hx8, hx9⟩ hpre
  have s4 := hi.cell (cr 0 HB.out.1) (by omega)
  have t0 := cr 0 hx8
  have t1 := cr 1 hx8
  have t2 := cr 2 hx8
  have o0 := cr 0 hx9
  have o1 := cr 1 hx9
  have o2 := cr 2 hx9
  have o3 := cr 3 hx9
  have o4 := cr 4 hx9
  have o5 := cr 5 hx9
  have o6 := cr 6 hx9
  have hcall := hp y.1 W y.2 hi.bl
  have hpl : (kpP ws p pre).length ≤ 1000000 := by have := kpP_length ws p pre; have := hW.n2; omega
  cases hq : p y.1
  ·rw [hq] at hcall
   have HC := Lib.hid hcall
   have HY := hd4 hi hx8 hx9 hq
   clear hcall hi hx8 hx9 hq hp hO hseq hrec HI0
   dsimp only [Ot.v] at HC
   gi_wp2
   refine ⟨trivial, ?_⟩
   refine (CallsIn.inRound _ (callsIn_wide.2 HC.out)).mono ?_
   rintro e W1 ⟨rfl, hb⟩
   have HB1 := Lib.hid hb
   clear hb
   gi_wp2
   obtain ⟨hi, -, -, hq⟩ := HY.out
   obtain ⟨h1, h2, h3, h4, h5⟩ := hi.later HB1.out
   have e1 := kpP_no (l := pre) hq
   exact (show KeepsFrom W3.heap.size W _ ∧ Below w.heap.size W _ ∧ KpI w W3 (w.heap.size + 1 + 1) ws p (pre ++ [y]) _ from ⟨keepsFrom_below HB1.out, HB1.out.mono hi.bl.size, by rw [e1]; exact h1, h2, h3, h4, h5⟩)
  ·rw [hq] at hcall
   have HC := Lib.hid hcall
   obtain ⟨A2, c2, hk2, ho2⟩ := hi.a
   have HY := hd6 hi hx8 hx9 hq hk2 ho2
   clear hcall hi hx8 hx9 hq hp hO hseq hrec HI0 hk2 ho2
   dsimp only [Ot.v] at HC
   gi_wp2
   refine ⟨trivial, ?_⟩
   refine (CallsIn.inRound _ (callsIn_wide.2 HC.out)).mono ?_
   rintro e W1 ⟨rfl, hb⟩
   have HD := Lib.hid (show Below W.heap.size W W1.drew from hb.drew)
   clear hb HC s4 t0 t1 t2 o0 o1 o2 o3 o4 o5 o6
   gi_wp2
   refine wpIn_region_R (fun j => j != 5 && j != 6) ?_
   have s5 := cell_below HD.out (HY.out.1.cell (cr 0 HB.out.2) (by omega))
   have s7 := cr 0 (blk_on HY.out.2.2.2.2.1 HD.out)
   have hx9 := blk_on HY.out.2.2.1 HD.out
   generalize W1.drew = X0 at *
   have HU := Lib.hid (id_any (oAt (outs ws) y.1) X0)
   dsimp only [Ot.v] at HU
   refine bT s7 0 rfl ?_
   refine bT s5 1 rfl ?_
   refine bUk (v := .agg #[.int .i64 (oAt (outs ws) y.1).id, .int .i64 (oAt (outs ws) y.1).into, .slice (oAt (outs ws) y.1).P (oAt (outs ws) y.1).ps.length (oAt (outs ws) y.1).c, .int .i64 (oAt (outs ws) y.1).kl, .int .i64 (oAt (outs ws) y.1).kh, .int .i64 (oAt (outs ws) y.1).sl, .int .i64 (oAt (outs ws) y.1).sh]) hx9 2 rfl ?_ (by intro w hB; have a0 := cr 0 hB; have a1 := cr 1 hB; have a2 := cr 2 hB; have a3 := cr 3 hB; have a4 := cr 4 hB; have a5 := cr 5 hB; have a6 := cr 6 hB; go_simp)
   clear s5 s7 hx9
   refine bR 3 rfl fun K hK => ?_
   go_simp
   refine HU.out.mono ?_
   rintro e X1 ⟨rfl, hb⟩
   dsimp only
   refine hK.out _ _ (fun _ => hb) ?_
   have hb1 := HD.out.trans (hb.mono HD.out.size)
   clear hK hb
   refine bR 4 rfl fun K hK => ?_
   go_simp
   refine hK.out _ _ (fun _ => (Below.refl _ _).alloc (Nat.le_refl _) _) ?_
   have hb2 := hb1.trans (((Below.refl _ X1).alloc (Nat.le_refl _) (.cells #[.int .i64 (oAt (outs ws) y.1).id] 3)).mono hb1.size)
   have cn := blk_new X1 (g := X1.heap.size) #[.int .i64 (oAt (outs ws) y.1).id] 3 rfl
   clear hK
   refine bR 5 rfl fun K hK => ?_
   refine wp_append_int (.tmp 17) (.tmp 21) rfl W3.heap.size (.slice A2 (kpP ws p pre).length c2) (kpP ws p pre) (oAt (outs ws) y.1).id rfl (HY.out.2.2.2.2.2.later hb2) hpl X1.heap.size rfl (cr 0 cn) (Nat.le_trans HY.out.1.lt hb2.size) ?_
   intro v' X3 ho hg _
   obtain ⟨A', c', rfl⟩ := ho.slice (n := (kpP ws p pre).length + 1) (by rw [List.length_append]; rfl)
   refine hK.out _ _ (fun h => by cases h) ?_
   clear hK
   have hgo : (w.heap.size + 1 + 1) < W.heap.size ∧ ∀ k, (Value.slice A2 (kpP ws p pre).length c2).ownBlock = some k → k ≠ (w.heap.size + 1 + 1) := ⟨by have := HY.out.1.l4; have := HY.out.1.lt; omega, fun k e => by have := (HY.out.2.2.2.2.2.blkIs e).1; have := HY.out.1.l4; omega⟩
   have hk3 : Blk X3 (w.heap.size + 1 + 1) #[.slice A2 (kpP ws p pre).length c2] 28 := (hg.block _ (Nat.lt_of_lt_of_le hgo.1 hb2.size) (fun e => hgo.2 _ e.symm rfl)).trans ((hb2.block _ hgo.1).trans HY.out.2.2.2.2.1)
   have eb := cr 0 hk3
   have fb := bf 0 hk3
   go_frame
   refine bR 6 rfl fun K hK => ?_
   go_simp
   refine hK.out _ _ (fun h => by cases h) ?_
   clear hK eb fb
   refine bD ?_
   obtain ⟨hi, -, -, hq, hk2, ho2⟩ := HY.out
   have l4 := hi.l4
   have hlt := hi.lt
   have hbl := hi.bl.size
   have hsz := hb2.size
   have e1 := kpP_yes (l := pre) hq
   have e2 : (kpP ws p (pre ++ [y])).length = (kpP ws p pre).length + 1 := by rw [e1, List.length_append]; rfl
   exact (show KeepsFrom W3.heap.size W _ ∧ Below w.heap.size W _ ∧ KpI w W3 (w.heap.size + 1 + 1) ws p (pre ++ [y]) _ from
    ⟨(keepsFrom_below hb2).trans (((KeepsOthers.of_grownBy hg (fun j o e ho' => by
     obtain ⟨_, _, o2, h2, h3⟩ := (ho2.later hb2).blkIs e
     rw [h2] at ho'; cases ho'; exact h3)).trans (KeepsOthers.setCell _ _ _)).from _),
    ((hb2.mono hbl).grown hg (by omega) (fun k e => by have := (ho2.blkIs e).1; omega)).setCell (p := ⟨(w.heap.size + 1 + 1), 0, none⟩) l4.1 _,
    ⟨A', c', by rw [e2]; exact heap_setCell_same _ _ 0 _ _ _ hk3, by rw [e2, e1]; exact ho.blk (fun k e => Below.heap_setCell _ _ _ _ (by have := (ho.blkIs e).1; show k ≠ (w.heap.size + 1 + 1); omega))⟩,
    fun k h1 h2 => (Below.heap_setCell _ _ _ _ (by exact h2)).trans ((hg.block k (by omega) (fun e => by have := (ho2.blkIs e.symm).1; omega)).trans ((hb2.block k (by omega)).trans (hi.md k h1 h2))),
    ((hi.bl.trans (hb2.mono hbl)).grown hg (by omega) (fun k e => by have := (ho2.blkIs e).1; omega)).setCell (p := ⟨(w.heap.size + 1 + 1), 0, none⟩) l4.1 _,
    by rw [World.size_setCell]; exact Nat.le_trans hlt (Nat.le_trans hsz hg.size), l4⟩)
 case done =>
  rintro D ys W hD rfl hi hK
  obtain ⟨A2, c2, hk2, ho2⟩ := hi.a
  rw [kpP_all] at hk2 ho2
  have s0 := cr 0 hk2
  have hbD := belowK_b HI0.out.bl.size W D (.deferred (some [])) (.deferred none) hD hK rfl rfl
  have ho3 : Own (W.putObj D (.deferred none)) W3.heap.size (.slice A2 (kpL ws p).length c2) (kpL ws p) := ho2.blk fun k e => by
   obtain ⟨_, _, o, h1, h2⟩ := ho2.blkIs e
   exact World.putObj_heap_other (fun e' => by rw [e', hK] at h1; cases h1; cases h2)
  obtain ⟨B2, d2, e2, rd2, fr2⟩ := ho3.rd
  simp only [Value.slice.injEq, true_and] at e2
  obtain ⟨rfl, rfl⟩ := e2
  have HE := hd4 rd2 hi.bl hbD hK
  clear hi hk2 ho2 hbD ho3 rd2 fr2
  gi_wp2
  refine ⟨by simp, .inl ⟨_, _, rfl, run_takeDeferred HE.out.2.2.2, ?_⟩⟩
  exact ⟨_, results_tmp rfl _ _ _, A2, c2, rfl, HE.out.1, HE.out.2.1.trans HE.out.2.2.1⟩
theorem kept_any (gf : Nat) (lb : Array Value) (eg : ∀ args w, (callFunc gf args).run Tryz.prog w = .ok (.enter gf args) w) (p : Nat → Bool) (A : Option Addr) (c gw : Nat) (ws : List Car) (w : World) (hW : Wk w A ws) (c8 : w.cell? ⟨gw, 0, none⟩ = some (.slice A ws.length c))
  (hp : ∀ i W, i < (outs ws).length → Below w.heap.size w W → Calls Tryz.prog gf (#[.agg #[.int .i64 (i : Int), .int .i64 (caAt ws i : Int), .int .i64 (atAt ws i : Int)], (oAt (outs ws) i).v] ++ lb) W fun e w' => e = .returned (.bool (p i)) ∧ Below W.heap.size W w') :
  Calls Tryz.prog 46 #[.func (.func 68) #[] #[.pointer (some ⟨gw, 0, none⟩)], .func (.func gf) #[] lb, .func (.func 49) #[] #[]] w fun e w' => ∃ A' c', e = .returned (.slice A' (kpL ws p).length c') ∧ Rd w' w'.heap.size A' (kpL ws p) ∧ Below w.heap.size w w' := callsIn_wide.1 (kept_in gf lb eg p A c gw ws w hW c8 hp)
end Go.Proofs.YtegmniphgahblaaGreat
namespace Go.Proofs.YtegmniphgahblaaGreat
open Go.RowKit Go.Shelf

set_option maxRecDepth 100000 in
theorem eg_ch2 : ∀ args w, (callFunc 48 args).run Tryz.prog w = .ok (.enter 48 args) w := fun _ _ => by rfl
theorem ch2_any (x y z : Int) (o : Ot) (w : World) : Calls Tryz.prog 48 #[.agg #[.int .i64 x, .int .i64 y, .int .i64 z], o.v] w fun e w' => e = .returned (.bool (decide (o.into < 0))) ∧ Below w.heap.size w w' := by
 have hb : Below w.heap.size w ((w.alloc (.cells #[.int .i64 x, .int .i64 y, .int .i64 z] 103)).alloc (.cells o.cells.toArray 69)) := ((Below.refl _ w).alloc (Nat.le_refl _) _).alloc (by simp) _
 have HB := Lib.hid hb
 clear hb
 obtain ⟨oi, ot, P, c, ps, kl, kh, sl, sh⟩ := o
 dsimp only [Ot.v, Ot.cells] at *
 go_enter Tryz.func48, Tryz.ntmps48
 go_wp2
 go_ret
 exact ⟨rfl, HB.out⟩
def bdL (ws : List Car) : List Int := if checkE ws = 0 then kpL ws (fun i => decide ((oAt (outs ws) i).into < 0)) else []
set_option maxRecDepth 100000 in
set_option maxHeartbeats 1600000 in
theorem Beds_any (A : Option Addr) (c : Nat) (ws : List Car) (w : World) (h : Wk w A ws) :
  Calls Tryz.prog 19 #[.agg #[.slice A ws.length c]] w fun e w' => ∃ A' c', e = .returned (.tuple #[.slice A' (bdL ws).length c', .int .i64 (checkE ws)]) ∧ Rd w' w'.heap.size A' (bdL ws) ∧ Below w.heap.size w w' := by
 have hb : Below w.heap.size w (w.alloc (.cells #[.slice A ws.length c] 24)) := (Below.refl _ w).alloc (Nat.le_refl _) _
 have K := Lib.hid (((stays_bl hb).and (stays_blk (blk_new w #[.slice A ws.length c] 24 rfl))).and (stays_wk (h.ext hb)))
 have hck := fun W hW => Check_any A c ws W hW
 by_cases h0 : checkE ws = 0
 ·have hL : bdL ws = kpL ws (fun i => decide ((oAt (outs ws) i).into < 0)) := if_pos h0
  have hh := fun gw W hW c8 => kept_any 48 #[] eg_ch2 (fun i => decide ((oAt (outs ws) i).into < 0)) A c gw ws W hW c8 (fun i W2 hi hb => ch2_any _ _ _ _ W2)
  have ho := fun W => outlets_any A c ws.length W
  rw [h0] at hck ⊢
  rw [hL]
  have HC := hd3 hck hh ho
  clear hb h hck hh h0 hL ho
  go_enter Tryz.func19, Tryz.ntmps19
  go_upto_region 1 with fail
  generalize (w.alloc (.cells #[.slice A ws.length c] 24)) = W1 at *
  have p0 := cr 0 K.out.1.1.2
  go_upto_region 4 with (go_at_call 30; refine (HC.out.1 _ K.out.1.2).mono ?_; rintro e w2 ⟨rfl, hb⟩; have K1 := Lib.hid (K.out.on hb); clear hb)
  clear p0 K
  have p0 := cr 0 K1.out.1.1.2
  go_wp2_with (first
       | (go_at_call 47; refine (HC.out.2.2 _).mono ?_; rintro e w3 ⟨rfl, rfl⟩)
       | (go_at_call 46; refine (HC.out.2.1 _ _ ((K1.out.on ((Below.refl _ w2).alloc (Nat.le_refl _) (.cells #[.slice A ws.length c] 24))).1.2) (cr 0 (blk_new w2 _ _ rfl))).mono ?_; rintro e w4 ⟨A', c', rfl, hr, hb⟩; have K2 := Lib.hid (((K1.out.on ((Below.refl _ w2).alloc (Nat.le_refl _) (.cells #[.slice A ws.length c] 24))).on hb).and (stays_rd hr)); clear hb hr))
  go_ret2
  exact ⟨A', c', rfl, K2.out.1.2, K2.out.1.1.1.1⟩
 ·have hL : bdL ws = [] := if_neg h0
  rw [hL]
  generalize checkE ws = E at *
  have HC := Lib.hid hck
  have hz : (E != 0) = true := by simpa using h0
  clear hb h hck h0 hL
  go_enter Tryz.func19, Tryz.ntmps19
  go_upto_region 1 with fail
  generalize (w.alloc (.cells #[.slice A ws.length c] 24)) = W1 at *
  have p0 := cr 0 K.out.1.1.2
  go_wp2_with (go_at_call 30; refine (HC.out _ K.out.1.2).mono ?_; rintro e w2 ⟨rfl, hb⟩; have K1 := Lib.hid (K.out.on hb); clear hb)
  go_ret2
  exact ⟨none, 0, rfl, Rd.nil, K1.out.1.1.1⟩
end Go.Proofs.YtegmniphgahblaaGreat
namespace Go.Proofs.YtegmniphgahblaaGreat
open Go.RowKit Go.Shelf

def sigE (ws : List Car) (id : Int) : Int := if checkE ws = 0 then (if (idxO ws id).isSome = true then 0 else 5) else checkE ws
def sgL (ws : List Car) (id : Int) (f : List Car → Nat → List Int) : List Int := if sigE ws id = 0 then (match idxO ws id with | some x => f ws x | none => []) else []
/-- Three lists and a number are returned. -/
def SigR (l1 l2 l3 : List Int) (E : Int) (w' : World) (e : Ending) : Prop := ∃ A1 c1 A2 c2 A3 c3, e = .returned (.tuple #[.slice A1 l1.length c1, .slice A2 l2.length c2, .slice A3 l3.length c3, .int .i64 E]) ∧ Rd w' w'.heap.size A1 l1 ∧ Rd w' w'.heap.size A2 l2 ∧ Rd w' w'.heap.size A3 l3
theorem sig_zero {ws : List Car} {id : Int} (h : sigE ws id = 0) : Good ws ∧ ∃ x, idxO ws id = some x ∧ x < (outs ws).length ∧ ∀ f, sgL ws id f = f ws x := by
 have h0 := h
 unfold sigE at h
 by_cases hc : checkE ws = 0
 ·rw [if_pos hc] at h
  cases hx : idxO ws id with
  | none => rw [hx] at h; cases h
  | some x => exact ⟨good_of_check hc, x, rfl, (idxO_some hx).1, fun f => by unfold sgL; rw [if_pos h0, hx]⟩
 ·rw [if_neg hc] at h; exact absurd h hc
theorem sgL_no {ws : List Car} {id : Int} (h : sigE ws id ≠ 0) (f : List Car → Nat → List Int) : sgL ws id f = [] := if_neg h
end Go.Proofs.YtegmniphgahblaaGreat
namespace Go.Proofs.YtegmniphgahblaaGreat
open Go.RowKit Go.Shelf

/-- The IDs of the outlets of a path. -/
def ptX (ws : List Car) (x : Nat) : List Int := (pathN ws x).map fun i => (oAt (outs ws) i).id
def ptTo (ws : List Car) (x t : Nat) : List Int := ((pathN ws x).take t).map fun i => (oAt (outs ws) i).id
theorem ptTo_length {ws : List Car} {x t : Nat} (h : t ≤ (pathN ws x).length) : (ptTo ws x t).length = t := by unfold ptTo; rw [List.length_map, List.length_take]; omega
theorem ptTo_all (ws : List Car) (x : Nat) : ptTo ws x (pathN ws x).length = ptX ws x := by unfold ptTo ptX; rw [List.take_length]
theorem ptTo_succ {ws : List Car} {x t : Nat} (h : t < (pathN ws x).length) : ptTo ws x (t + 1) = ptTo ws x t ++ [(oAt (outs ws) ((pathN ws x).getD t 0)).id] := by
 unfold ptTo
 rw [List.take_add_one, List.map_append, List.getElem?_eq_getElem h, List.getD_eq_getElem?_getD, List.getElem?_eq_getElem h]
 rfl
theorem path_lt {ws : List Car} (g : Good ws) {x t : Nat} (hx : x < (outs ws).length) (h : t < (pathN ws x).length) : (pathN ws x).getD t 0 < (outs ws).length := by
 rw [List.getD_eq_getElem?_getD, List.getElem?_eq_getElem h]
 exact upList_mem g _ x rfl hx _ (List.mem_reverse.1 (List.getElem_mem h))
theorem field_id (o : Ot) (w : World) : (Instr.field 69 (.agg #[.int .i64 o.id, .int .i64 o.into, .slice o.P o.ps.length o.c, .int .i64 o.kl, .int .i64 o.kh, .int .i64 o.sl, .int .i64 o.sh]) 0).run Tryz.prog w = .ok (.int .i64 o.id) w := by kernel_rfl
set_option maxRecDepth 100000 in
set_option maxHeartbeats 1600000 in
theorem Path_any (A : Option Addr) (c : Nat) (ws : List Car) (id : Int) (w : World) (h : Wk w A ws) :
  Calls Tryz.prog 21 #[.agg #[.slice A ws.length c], .int .i64 id] w fun e w' => ∃ A' c', e = .returned (.tuple #[.slice A' (sgL ws id ptX).length c', .int .i64 (sigE ws id)]) ∧ Rd w' w'.heap.size A' (sgL ws id ptX) ∧ Below w.heap.size w w' := by
 obtain ⟨i0, hi0, hz0, hz1, hz2⟩ := info_parts info3
 have hb : Below w.heap.size w (w.alloc (.cells #[.slice A ws.length c] 24)) := (Below.refl _ w).alloc (Nat.le_refl _) _
 have K := Lib.hid (((stays_bl hb).and (stays_blk (blk_new w #[.slice A ws.length c] 24 rfl))).and (stays_wk (h.ext hb)))
 clear hb h
 have HC := Lib.hid (fun W hW => Check_any A c ws W hW)
 have HF := Lib.hid (fun W hW => find_any A c ws id W hW)
 by_cases h0 : sigE ws id = 0
 rotate_left
 ·rw [sgL_no h0]
  by_cases hc : checkE ws = 0
  ·have hx : idxO ws id = none := by
    cases e : idxO ws id with
    | none => rfl
    | some x => exact absurd (by unfold sigE; rw [if_pos hc, e]; rfl) h0
   have h5 : sigE ws id = 5 := by unfold sigE; rw [if_pos hc, hx]; rfl
   rw [h5]
   clear h0 h5
   have HX := hd2 hc hx
   clear hc hx
   go_enter Tryz.func21, Tryz.ntmps21
   go_upto_region 1 with fail
   generalize w.alloc (.cells #[.slice A ws.length c] 24) = W0 at *
   have p0 := cr 0 K.out.1.1.2
   go_upto_region 4 with (go_at_call 30; refine (HC.out _ K.out.1.2).mono ?_; rw [HX.out.1]; rintro e w1 ⟨rfl, hb⟩; have K1 := Lib.hid (K.out.on hb); clear hb)
   clear p0
   have p0 := cr 0 K1.out.1.1.2
   go_upto_region 5 with (go_at_call 52; refine (HF.out _ K1.out.1.2).mono ?_; rw [HX.out.2]; rintro e w2 ⟨rfl, hb⟩; dsimp only [plO, plV, Option.isSome]; have K2 := Lib.hid (K1.out.on hb); clear hb)
   have K3 := Lib.hid (K2.out.on ((Below.refl _ w2).alloc (Nat.le_refl _) (.cells #[.int .i64 0, .int .i64 0, .int .i64 0] 103)))
   generalize w2.alloc (.cells #[.int .i64 0, .int .i64 0, .int .i64 0] 103) = w3 at *
   go_wp2
   go_ret2
   exact ⟨none, 0, rfl, Rd.nil, K3.out.1.1.1⟩
  ·have hE : sigE ws id = checkE ws := if_neg hc
   rw [hE]
   clear h0 hE
   generalize checkE ws = E at *
   have hz : (E != 0) = true := by simpa using hc
   clear hc
   go_enter Tryz.func21, Tryz.ntmps21
   go_upto_region 1 with fail
   generalize w.alloc (.cells #[.slice A ws.length c] 24) = W0 at *
   have p0 := cr 0 K.out.1.1.2
   go_wp2_with (go_at_call 30; refine (HC.out _ K.out.1.2).mono ?_; rintro e w1 ⟨rfl, hb⟩; have K1 := Lib.hid (K.out.on hb); clear hb)
   go_ret2
   exact ⟨none, 0, rfl, Rd.nil, K1.out.1.1.1⟩
 obtain ⟨g, x, hx, hxl, hl⟩ := sig_zero h0
 rw [hl, h0]
 have hc : checkE ws = 0 := by
  by_cases hc : checkE ws = 0
  ·exact hc
  ·unfold sigE at h0; rw [if_neg hc] at h0; exact h0
 have HP := Lib.hid (fun W hW => path_any A c ws x hxl W hW g)
 have HO := Lib.hid (fun y hy W hW => outlet_any A c ws y hy W hW)
 have HX := hd4 hc hx g hxl
 clear hl h0 hc hx g hxl
 dsimp only [pl, plV] at HP
 go_enter Tryz.func21, Tryz.ntmps21
 go_upto_region 1 with fail
 generalize w.alloc (.cells #[.slice A ws.length c] 24) = W0 at *
 have p0 := cr 0 K.out.1.1.2
 go_upto_region 4 with (go_at_call 30; refine (HC.out _ K.out.1.2).mono ?_; rw [HX.out.1]; rintro e w1 ⟨rfl, hb⟩; have K1 := Lib.hid (K.out.on hb); clear hb)
 clear p0
 have p0 := cr 0 K1.out.1.1.2
 go_upto_region 5 with (go_at_call 52; refine (HF.out _ K1.out.1.2).mono ?_; rw [HX.out.2.1]; rintro e w2 ⟨rfl, hb⟩; dsimp only [plO, plV, pl, Option.isSome]; have K2 := Lib.hid (K1.out.on hb); clear hb)
 clear p0
 have K3 := Lib.hid ((K2.out.on ((Below.refl _ w2).alloc (Nat.le_refl _) (.cells #[.int .i64 (x : Int), .int .i64 (caAt ws x : Int), .int .i64 (atAt ws x : Int)] 103))).and (stays_blk (blk_new w2 #[.int .i64 (x : Int), .int .i64 (caAt ws x : Int), .int .i64 (atAt ws x : Int)] 103 rfl)))
 generalize w2.alloc (.cells #[.int .i64 (x : Int), .int .i64 (caAt ws x : Int), .int .i64 (atAt ws x : Int)] 103) = w3 at *
 generalize w2.heap.size = g9 at *
 have p0 := cr 0 K3.out.1.1.1.2
 have z0 := cr 0 K3.out.1.2
 have z1 := cr 1 K3.out.1.2
 have z2 := cr 2 K3.out.1.2
 go_wp2_with (go_at_call 53; refine (HP.out _ K3.out.1.1.2).mono ?_; rintro e w4 ⟨A1, c1, rfl, r1, -, hb⟩; have K4 := Lib.hid (K3.out.on hb); have HR1 := Lib.hid r1; clear hb r1)
 clear p0 z0 z1 z2 HC HF HP
 have hlp : (pathN ws x).length ≤ 1000 := by
  have h1 := upList_len HX.out.2.2.1 _ x rfl
  have h2 := caAt_lt HX.out.2.2.2
  have h3 := K4.out.1.1.2.n1
  unfold pathN
  rw [List.length_reverse]
  omega
 go_loopg [9, 29] (pathN ws x).length (fun gg s i wr => ∃ t : Nat, t ≤ (pathN ws x).length ∧ (pathN ws x).length - t ≤ gg ∧ i = .int .i64 t ∧ ∃ A2 c2, s = .slice A2 t c2 ∧ Aside (Below w4.heap.size w4 wr ∧ Own wr w4.heap.size (.slice A2 t c2) (ptTo ws x t)))
 case atStart => exact ⟨0, Nat.zero_le _, by omega, rfl, none, 0, rfl, Below.refl _ _, Own.nil _ _⟩
 case round =>
  obtain ⟨t, ht, hgg, rfl, A2, c2, rfl, hA⟩ := hrel
  have HA := Lib.hid hA.out
  clear hA
  have K5 := Lib.hid (K4.out.on HA.out.1)
  by_cases hlt : t < (pathN ws x).length
  ·have hltz : (t : Int) < ((pathN ws x).length : Int) := by omega
   have hy := path_lt HX.out.2.2.1 HX.out.2.2.2 hlt
   have hs := ptTo_succ (ws := ws) hlt
   have hln := ptTo_length (ws := ws) (x := x) ht
   obtain ⟨b, off, e1, hbl, hc⟩ := (HR1.out.ext HA.out.1) (by rw [List.length_map]; omega)
   have hp := hc t (by rw [List.length_map]; exact hlt)
   rw [show pAt ((pathN ws x).map (pl ws)) t = pl ws ((pathN ws x).getD t 0) by unfold pAt; simp [List.getD_eq_getElem?_getD, List.getElem?_eq_getElem hlt]] at hp
   subst e1
   generalize hyy : (pathN ws x).getD t 0 = y at *
   have q0 := hp.c0
   have q1 := hp.c1
   have q2 := hp.c2
   dsimp only [pl] at q0 q1 q2
   have hb6 := (Below.refl _ wr).alloc (Nat.le_refl _) (.cells #[.int .i64 (y : Int), .int .i64 (caAt ws y : Int), .int .i64 (atAt ws y : Int)] 103)
   have HOY := Lib.hid (HO.out y hy _ (K5.out.on hb6).1.1.2)
   have HB6 := Lib.hid hb6
   have HS := hd2 hs hln
   have p0 := cr 0 (K5.out.on HB6.out).1.1.1.2
   clear hp hc hy hs hln hb6 hyy
   dsimp only [pl, plV] at HOY
   have hfi := fun w => field_id (oAt (outs ws) y) w
   go_wp2_with first
    | (go_at_call 54; go_loud (refine HOY.out.mono ?_; rintro e w5 ⟨rfl, hb⟩; dsimp only [Ot.v]; have hbA := (Below.refl _ w5).alloc (Nat.le_refl _) (.cells #[.int .i64 (oAt (outs ws) y).id] 3); have hown : Own (w5.alloc (.cells #[.int .i64 (oAt (outs ws) y).id] 3)) w4.heap.size (.slice A2 t c2) (ptTo ws x t) := (HA.out.2.later (HB6.out.trans (hb.mono HB6.out.size))).later hbA; have HN := hd4 (hown.row HS.out.2) (World.news_of_block (cs := #[.int .i64 (oAt (outs ws) y).id]) (t := 3) (fr := (0, 0)) (World.alloc_heap_new w5 (.cells #[.int .i64 (oAt (outs ws) y).id] 3))) (Nat.le_trans HA.out.1.size (Nat.le_trans HB6.out.size (Nat.le_trans hb.size hbA.size))) (HB6.out.trans ((hb.trans (hbA.mono hb.size)).mono HB6.out.size)); clear hbA hown hb))
    | (at_builtin; go_loud (refine wpList_append_own_at _ rfl _ _ 28 rfl w4.heap.size 3 i0 (.int .i64 0) 1 8 Tryz.underlying28 hi0 hz0 hz1 hz2 rfl (by decide) (.slice A2 t c2) t _ rfl HN.out.1 ⟨w5.heap.size, 0, none⟩ 1 1 [.int .i64 (oAt (outs ws) y).id] rfl (by simp) HN.out.2.1 (by simp [Value.oneCell']) (by unfold maxLen; omega) (by omega) HN.out.2.2.1 ?_; intro v' w9 hown1 hgrow _ _; have hO9 := Own.of_row hown1 HS.out.2; have HP9 := hd2 hO9 hgrow; clear hO9 hown1 hgrow))
   obtain ⟨A', c', rfl⟩ := HP9.out.1.slice (n := t + 1) (by rw [List.length_append, HS.out.2]; rfl)
   go_wp2
   go_roundg ((pathN ws x).length - (t + 1))
   case measure => omega
   case rel => exact ⟨t + 1, by omega, by omega, by go_num, A', c', rfl, by rw [HS.out.1]; exact (show _ ∧ _ from ⟨(HA.out.1.trans (HN.out.2.2.2.mono HA.out.1.size)).grown HP9.out.2 (Nat.le_trans HA.out.1.size HN.out.2.2.2.size) (fun k e => (HA.out.2.blkIs e).1), HP9.out.1⟩)⟩
  ·have hltz : ¬ (t : Int) < ((pathN ws x).length : Int) := by omega
   obtain rfl : t = (pathN ws x).length := by omega
   obtain ⟨B2, d2, e2, rd2, fr2⟩ := HA.out.2.rd
   rw [ptTo_all] at e2 rd2
   have hle : (ptX ws x).length = (pathN ws x).length := by unfold ptX; rw [List.length_map]
   rw [hle] at e2
   simp only [Value.slice.injEq, true_and] at e2
   obtain ⟨rfl, rfl⟩ := e2
   have HE := hd3 rd2 hle K5.out.1.1.1.1
   clear rd2 fr2 hle
   go_wp2
   exact bodyPost_ret (v := .tuple #[.slice A2 (pathN ws x).length c2, .int .i64 0]) (by simp [results, Tryz.results21, go_sem]) rfl ⟨A2, ⟨c2, by rw [HE.out.2.1]⟩, HE.out.1, HE.out.2.2⟩
end Go.Proofs.YtegmniphgahblaaGreat
