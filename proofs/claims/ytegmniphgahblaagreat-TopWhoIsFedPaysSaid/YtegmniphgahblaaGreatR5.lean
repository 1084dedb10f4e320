/- A slice of uint16 that comes in, opened. -/
import Derived.Test.YtegmniphgahblaaGreatW34
namespace Go.Proofs.YtegmniphgahblaaGreat
open Go.ChangeShapes Go.WideShapes Go.ChangeAt Go.RowKit Go.Shelf

theorem cells_u : Tryz.prog.cellsOf 48 = 1 := by kernel_rfl
theorem u16_in {n : Int} (h : (Lit.int .u16 n).wf = true) : 0 ≤ n ∧ n ≤ 65535 := by
 simp [Lit.wf, IntKind.min, IntKind.max, IntKind.signed, IntKind.bits] at h
 omega
section
variable {H : Type} {enc : TypeId × Value → H} {w : World} {sp : Nat → Bool} {held : Bool}
set_option maxRecDepth 100000 in
theorem open_us {r : Reach} {b0 : Nat} {v : Value} {d : DataW H} {p : List MemPlace} (hv : Value.okWide Tryz.prog w r b0 31 v) (h : DataW.Trod enc Tryz.prog w 0 sp held 31 v d p) :
  ∃ (A : Option Addr) (k : Nat) (xs : List Int), v = .slice A xs.length k ∧ RdU w w.heap.size A xs ∧ xs.length ≤ maxLen := by
 obtain ⟨a0, l0, k0, rfl⟩ := okWide_slice Tryz.underlying31 hv
 obtain ⟨fuel, hf⟩ := h
 have hf' : DataW.trod enc Tryz.prog w 0 sp held fuel 31 [.slice a0 l0 k0] = some (d, p) := hf
 rcases open_ints Tryz.underlying31 Tryz.underlying48 cells_u hf' with ⟨hcs, _⟩ | ⟨a, l, k, zs, hcs, _, hl, hm, hz, _, hcell, hwf⟩
 ·obtain ⟨rfl, rfl, rfl⟩ : a0 = none ∧ l0 = 0 ∧ k0 = 0 := by simpa using hcs
  exact ⟨none, 0, [], rfl, ⟨fun i hi => absurd hi (Nat.not_lt_zero i), fun h => absurd h (by simp)⟩, Nat.zero_le _⟩
 ·obtain ⟨rfl, rfl, rfl⟩ : a0 = some a ∧ l0 = l ∧ k0 = k := by simpa using hcs
  have hzl : l0 ≤ zs.length := by rw [hz]; split <;> omega
  have hlen : (zs.take l0).length = l0 := by rw [List.length_take]; omega
  refine ⟨some a, k0, zs.take l0, by rw [hlen], ⟨fun i hi => u16_in (hwf _ ?_), fun h0 => ?_⟩, by omega⟩
  ·unfold nth
   rw [List.getD_eq_getElem?_getD, List.getElem?_eq_getElem hi]
   exact List.mem_of_mem_take (List.getElem_mem hi)
  ·rw [hlen] at h0
   obtain ⟨b, off, s⟩ := a
   have hc0 := hcell 0 (by omega)
   have hs := World.cell?_spot hc0
   simp only [Addr.add] at hs
   obtain rfl : s = none := by simpa using hs
   refine ⟨b, off, rfl, by have := lt_of_cell hc0; simpa [Addr.add] using this, fun i hi => ?_⟩
   rw [hlen] at hi
   have := hcell i (by omega)
   rw [add_eq] at this
   rw [this]
   simp [nth, List.getD, hi]
end
end Go.Proofs.YtegmniphgahblaaGreat
