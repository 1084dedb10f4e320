/- Opens a supply that comes into a law. -/
import Derived.Test.YtdadoelajhemjaaD4
namespace Go.Proofs.Ytdadoelajhemjaa
open Go.ChangeShapes Go.WideShapes Go.ChangeAt Go.RowKit Go.Shelf

theorem cells_su : Try.prog.cellsOf 91 = 10 := by kernel_rfl
theorem list3 {α : Type} {l : List α} (h : l.length = 3) : ∃ a b c, l = [a, b, c] := by
 match l, h with
 | [a, b, c], _ => exact ⟨a, b, c, rfl⟩
theorem list10 {α : Type} {l : List α} (h : l.length = 10) : ∃ a b c d e f g i j k, l = [a, b, c, d, e, f, g, i, j, k] := by
 match l, h with
 | [a, b, c, d, e, f, g, i, j, k], _ => exact ⟨a, b, c, d, e, f, g, i, j, k, rfl⟩
section
variable {H : Type} {enc : TypeId × Value → H} {w : World} {sp : Nat → Bool} {held : Bool}
set_option maxRecDepth 100000 in
theorem open_supply {r : Reach} {b0 : Nat} {v : Value} {d : DataW H} {p : List MemPlace} (hv : Value.okWide Try.prog w r b0 91 v) (h : DataW.Trod enc Try.prog w 0 sp held 91 v d p) :
  ∃ (f : Sp) (s t : Wt), v = supV f s t ∧ WtIn w s ∧ WtIn w t := by
 obtain ⟨cs, rfl, hsz⟩ := okWide_struct Try.underlying91 hv
 obtain ⟨l⟩ := cs
 obtain ⟨x0, x1, x2, x3, x4, x5, x6, x7, x8, x9, rfl⟩ := list10 (hsz.trans cells_su)
 obtain ⟨fuel, hf⟩ := h
 obtain ⟨xs, n, _, _, hl, hx, hf⟩ := DataW.trod_struct Try.underlying91 hf
 obtain ⟨y0, y1, y2, rfl⟩ := list3 hx
 have k0 : DataW.trod enc Try.prog w 0 sp held n 40 [x0, x1] = some y0 := by simpa [cells_sp, Value.cells] using hf 0 _ rfl
 have k1 : DataW.trod enc Try.prog w 0 sp held n 27 [x2, x3, x4, x5] = some y1 := by simpa [cells_wa, Value.cells] using hf 1 _ rfl
 have k2 : DataW.trod enc Try.prog w 0 sp held n 27 [x6, x7, x8, x9] = some y2 := by simpa [cells_wa, Value.cells] using hf 2 _ rfl
 obtain ⟨lo, hi, rfl, rfl⟩ := open_span k0
 obtain ⟨s, e1, hs⟩ := open_wet k1
 obtain ⟨t, e2, ht⟩ := open_wet k2
 simp only [Wt.v, Value.agg.injEq, Array.mk.injEq, List.cons.injEq, and_true] at e1 e2
 obtain ⟨rfl, rfl, rfl, rfl⟩ := e1
 obtain ⟨rfl, rfl, rfl, rfl⟩ := e2
 exact ⟨(lo, hi), s, t, rfl, hs, ht⟩
end
end Go.Proofs.Ytdadoelajhemjaa
