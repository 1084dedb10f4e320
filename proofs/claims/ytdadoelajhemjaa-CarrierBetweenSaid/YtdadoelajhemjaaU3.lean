/- A slice of uint16 that comes in, opened. -/
import Derived.Test.YtdadoelajhemjaaU1
import Derived.Test.YtdadoelajhemjaaM12
namespace Go.Proofs.Ytdadoelajhemjaa
open Go.ChangeShapes Go.WideShapes Go.ChangeAt Go.RowKit Go.Shelf

/-- What is known of a slice of uint16 that comes into a law. -/
structure UsIn (w : World) (A : Option Addr) (xs : List Int) : Prop where
 rd : RdU w A xs
 m : xs.length ≤ maxLen
 b : ∀ x ∈ xs, 0 ≤ x ∧ x ≤ 65535
theorem UsIn.ext {w w' : World} {A : Option Addr} {xs : List Int} (h : UsIn w A xs) (hb : Below w.heap.size w w') : UsIn w' A xs := ⟨h.rd.ext hb, h.m, h.b⟩
theorem stays_usIn {W : World} {A : Option Addr} {xs : List Int} (h : UsIn W A xs) : Stays (fun X => UsIn X A xs) W := ⟨h, fun _ _ a b => a.ext b⟩
theorem us_nth {xs : List Int} (h : ∀ x ∈ xs, 0 ≤ x ∧ x ≤ 65535) (i : Nat) : 0 ≤ nth xs i ∧ nth xs i ≤ 65535 := by
 unfold nth
 rw [List.getD_eq_getElem?_getD]
 by_cases hi : i < xs.length
 ·rw [List.getElem?_eq_getElem hi]
  exact h _ (List.getElem_mem hi)
 ·rw [List.getElem?_eq_none (by omega)]
  exact ⟨by decide, by decide⟩
theorem prA_in {xs : List Int} (h : ∀ x ∈ xs, 0 ≤ x ∧ x ≤ 65535) (i : Nat) : 0 ≤ prA xs i ∧ prA xs i ≤ 65535 := by
 unfold prA
 by_cases hi : 2 * i + 1 < xs.length
 ·rw [if_pos hi]; exact us_nth h _
 ·rw [if_neg hi]; exact ⟨by decide, by decide⟩
theorem prB_in {xs : List Int} (h : ∀ x ∈ xs, 0 ≤ x ∧ x ≤ 65535) (i : Nat) : 0 ≤ prB xs i ∧ prB xs i ≤ 65535 := by
 unfold prB
 by_cases hi : 2 * i + 1 < xs.length
 ·rw [if_pos hi]; exact us_nth h _
 ·rw [if_neg hi]; exact ⟨by decide, by decide⟩
theorem cells_u : Try.prog.cellsOf 63 = 1 := by kernel_rfl
theorem u16_in {n : Int} (h : (Lit.int .u16 n).wf = true) : 0 ≤ n ∧ n ≤ 65535 := by
 simp [Lit.wf, IntKind.min, IntKind.max, IntKind.signed, IntKind.bits] at h
 omega
section
variable {H : Type} {enc : TypeId × Value → H} {w : World} {sp : Nat → Bool} {held : Bool}
set_option maxRecDepth 100000 in
theorem open_us {r : Reach} {b0 : Nat} {v : Value} {d : DataW H} {p : List MemPlace} (hv : Value.okWide Try.prog w r b0 108 v) (h : DataW.Trod enc Try.prog w 0 sp held 108 v d p) :
  ∃ (A : Option Addr) (k : Nat) (xs : List Int), v = .slice A xs.length k ∧ UsIn w A xs := by
 obtain ⟨a0, l0, k0, rfl⟩ := okWide_slice Try.underlying108 hv
 obtain ⟨fuel, hf⟩ := h
 have hf' : DataW.trod enc Try.prog w 0 sp held fuel 108 [.slice a0 l0 k0] = some (d, p) := hf
 rcases open_ints Try.underlying108 Try.underlying63 cells_u hf' with ⟨hcs, _⟩ | ⟨a, l, k, zs, hcs, _, hl, hm, hz, _, hcell, hwf⟩
 ·obtain ⟨rfl, rfl, rfl⟩ : a0 = none ∧ l0 = 0 ∧ k0 = 0 := by simpa using hcs
  exact ⟨none, 0, [], rfl, fun h => absurd h (by simp), Nat.zero_le _, fun x hx => by cases hx⟩
 ·obtain ⟨rfl, rfl, rfl⟩ : a0 = some a ∧ l0 = l ∧ k0 = k := by simpa using hcs
  have hzl : l0 ≤ zs.length := by rw [hz]; split <;> omega
  have hlen : (zs.take l0).length = l0 := by rw [List.length_take]; omega
  refine ⟨some a, k0, zs.take l0, by rw [hlen], fun h0 => ?_, by omega, fun x hx => u16_in (hwf x (List.mem_of_mem_take hx))⟩
  rw [hlen] at h0
  obtain ⟨b, off, s⟩ := a
  have hc0 := hcell 0 (by omega)
  have hs := World.cell?_spot hc0
  simp only [Addr.add] at hs
  obtain rfl : s = none := by simpa using hs
  refine ⟨b, off, rfl, fun i hi => ?_⟩
  rw [hlen] at hi
  have := hcell i (by omega)
  rw [add_eq] at this
  rw [this]
  simp [nth, List.getD, hi]
end
end Go.Proofs.Ytdadoelajhemjaa
