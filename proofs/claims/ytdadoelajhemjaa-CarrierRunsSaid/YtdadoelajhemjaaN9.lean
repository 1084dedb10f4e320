/- The law CarrierRuns, whole; runs opened with their slice's room. -/
import Derived.Test.YtdadoelajhemjaaN8
namespace Go.Proofs.Ytdadoelajhemjaa
open Go.ChangeShapes Go.WideShapes Go.ChangeAt Go.RowKit Go.Shelf

section
variable {H : Type} {enc : TypeId × Value → H} {w : World} {sp : Nat → Bool} {held : Bool}
set_option maxRecDepth 100000 in
theorem open_runs2 {r : Reach} {b0 : Nat} {v : Value} {d : DataW H} {p : List MemPlace} (hv : Value.okWide Try.prog w r b0 72 v) (h : DataW.Trod enc Try.prog w 0 sp held 72 v d p) :
  ∃ (A : Option Addr) (k : Nat) (l : List Rn), v = .slice A l.length k ∧ RnsIn w A l ∧ l.length ≤ k ∧ (A = none → k = 0) := by
 obtain ⟨A, k, l, rfl, hr⟩ := open_runs hv h
 obtain ⟨fuel, hf⟩ := h
 have hf' : DataW.trod enc Try.prog w 0 sp held fuel 72 [.slice A l.length k] = some (d, p) := hf
 rcases Go.Deep.open_slice Try.underlying72 hf' with ⟨hcs, _⟩ | ⟨a, l', k', m, n', D, Pl, hcs, _, hl, hm, hmm, hy, hi⟩
 ·obtain ⟨rfl, h1, rfl⟩ : A = none ∧ l = [] ∧ k = 0 := by simpa using hcs
  exact ⟨_, _, l, rfl, hr, by simp [h1], fun _ => rfl⟩
 ·obtain ⟨rfl, rfl, rfl⟩ : A = some a ∧ l.length = l' ∧ k = k' := by simpa using hcs
  exact ⟨_, _, l, rfl, hr, by omega, fun e => by cases e⟩
end
theorem u8_bounds {n : Int} (h : (Lit.int .u8 n).wf = true) : 0 ≤ n ∧ n ≤ 255 := by
 simp [Lit.wf, IntKind.min, IntKind.max, IntKind.signed, IntKind.bits] at h
 omega
theorem u16_bounds {n : Int} (h : (Lit.int .u16 n).wf = true) : 0 ≤ n ∧ n ≤ 65535 := by
 simp [Lit.wf, IntKind.min, IntKind.max, IntKind.signed, IntKind.bits] at h
 omega
theorem CarrierRuns_row (w : World) (A1 : Option Addr) (c1 : Nat) (ws : List Car) (r0 : WkIn w A1 ws) (B : Option Addr) (d : Nat) (l : List Rn) (r1 : RnsIn w B l) (hd : l.length ≤ d) (hn : B = none → d = 0)
  (n1 : Int) (w1 : (Lit.int .u8 n1).wf = true) (n2 : Int) (w2 : (Lit.int .u16 n2).wf = true) :
  Calls Try.prog 10 #[.agg #[.slice A1 ws.length c1], .slice B l.length d, .int .u8 n1, .int .u16 n2] w fun e w' => e = .returned (.bool true) ∧ Below w.heap.size w w' := by
 have h1 := u8_bounds w1
 have h2 := u16_bounds w2
 cases hf : fewB ws with
 | false => exact runs_few w A1 c1 ws r0 B d l r1 n1 n2 hf
 | true =>
  cases hs : runsB l with
  | false => exact runs_runs w A1 c1 ws r0 B d l r1 n1 n2 hf hs
  | true =>
   by_cases h6 : 6 < l.length
   ·exact runs_many w A1 c1 ws r0 B d l r1 n1 n2 hf hs h6
   ·by_cases he : drkE ws l = 0
    ·exact runs_main w A1 c1 ws r0 B d l r1 n1 n2 hd hn h1 h2 hf hs (by omega) he
    ·exact runs_bad w A1 c1 ws r0 B d l r1 n1 n2 hf hs (by omega) he
end Go.Proofs.Ytdadoelajhemjaa
