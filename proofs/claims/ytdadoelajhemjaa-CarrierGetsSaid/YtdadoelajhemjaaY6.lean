/- The law CarrierGets, whole. -/
import Derived.Test.YtdadoelajhemjaaY5
namespace Go.Proofs.Ytdadoelajhemjaa
open Go.RowKit Go.Shelf

theorem u16_in2 {n : Int} (h : (Lit.int .u16 n).wf = true) : 0 ≤ n ∧ n ≤ 65535 := by
 simp [Lit.wf, IntKind.min, IntKind.max, IntKind.signed, IntKind.bits] at h
 omega
theorem CarrierGets_row (w : World) (A1 : Option Addr) (c1 : Nat) (ws : List Car) (r0 : WkIn w A1 ws) (s : Wt) (r2 : WtIn w s) (id : Int) (_ : (Lit.int .i64 id).wf = true) (want : Int) (_ : (Lit.int .i64 want).wf = true) (n : Int) (hn : (Lit.int .u16 n).wf = true) :
  Calls Try.prog 8 #[.agg #[.slice A1 ws.length c1], s.v, .int .i64 id, .int .i64 want, .int .u16 n] w fun e w' => e = .returned (.bool true) ∧ Below w.heap.size w w' := by
 cases hf : fewB ws with
 | false => exact gets_few w A1 c1 ws r0 s r2 id want n hf
 | true =>
  cases hs : wetB s with
  | false => exact gets_wet w A1 c1 ws r0 s r2 id want n hf hs
  | true =>
   by_cases hw : cwE ws s = 0
   ·cases hi : idxO ws id with
    | none => exact gets_none w A1 c1 ws r0 s r2 id want n hf hs hw hi
    | some x => exact gets_main w A1 c1 ws r0 s r2 id want n (u16_in2 hn) hf hs hw x hi
   ·exact gets_cw w A1 c1 ws r0 s r2 id want n hf hs hw
end Go.Proofs.Ytdadoelajhemjaa
