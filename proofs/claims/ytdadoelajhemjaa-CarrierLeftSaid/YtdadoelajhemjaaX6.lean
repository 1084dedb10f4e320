/- The law CarrierLeft, whole. -/
import Derived.Test.YtdadoelajhemjaaX5
namespace Go.Proofs.Ytdadoelajhemjaa
open Go.RowKit Go.Shelf

theorem u8_in2 {n : Int} (h : (Lit.int .u8 n).wf = true) : 0 ≤ n ∧ n ≤ 255 := by
 simp [Lit.wf, IntKind.min, IntKind.max, IntKind.signed, IntKind.bits] at h
 omega
theorem CarrierLeft_row (w : World) (A1 : Option Addr) (c1 : Nat) (ws : List Car) (r0 : WkIn w A1 ws) (s : Wt) (r2 : WtIn w s) (n : Int) (hn : (Lit.int .u8 n).wf = true) :
  Calls Try.prog 15 #[.agg #[.slice A1 ws.length c1], s.v, .int .u8 n] w fun e w' => e = .returned (.bool true) ∧ Below w.heap.size w w' := by
 cases hf : fewB ws with
 | false => exact left_few w A1 c1 ws r0 s r2 n hf
 | true =>
  cases hs : wetB s with
  | false => exact left_wet w A1 c1 ws r0 s r2 n hf hs
  | true =>
   by_cases hl : ws.length = 0
   ·exact left_zero w A1 c1 ws r0 s r2 n hf hs hl
   ·by_cases hw : cwE ws s = 0
    ·exact left_main w A1 c1 ws r0 s r2 n (u8_in2 hn) hf hs hl hw
    ·exact left_cw w A1 c1 ws r0 s r2 n hf hs hl hw
end Go.Proofs.Ytdadoelajhemjaa
