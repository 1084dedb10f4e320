/- The law CarrierBetween, whole. -/
import Derived.Test.YtdadoelajhemjaaU6
import Derived.Test.YtdadoelajhemjaaU8
namespace Go.Proofs.Ytdadoelajhemjaa
open Go.RowKit Go.Shelf

theorem CarrierBetween_row (w : World) (A1 : Option Addr) (c1 : Nat) (ws : List Car) (r0 : WkIn w A1 ws) (cs : Cs) (r1 : CsIn w cs) (s : Wt) (r2 : WtIn w s) (id : Int) (_ : (Lit.int .i64 id).wf = true) (B : Option Addr) (d : Nat) (us : List Int) (r4 : UsIn w B us) :
  Calls Try.prog 16 #[.agg #[.slice A1 ws.length c1], cs.v, s.v, .int .i64 id, .slice B us.length d] w fun e w' => e = .returned (.bool true) ∧ Below w.heap.size w w' := by
 cases hf : fewB ws with
 | false => exact btw_few w A1 c1 ws r0 cs r1 s r2 id B d us r4 hf
 | true =>
  cases hs : wetB s with
  | false => exact btw_wet w A1 c1 ws r0 cs r1 s r2 id B d us r4 hf hs
  | true =>
   cases hc : casedB cs with
   | false => exact btw_cased w A1 c1 ws r0 cs r1 s r2 id B d us r4 hf hs hc
   | true =>
    by_cases ha : askE ws cs id = 0
    ·obtain ⟨x, hx⟩ : ∃ x, idxO ws id = some x := by
      have h := ha
      unfold askE at h
      rw [if_pos (cc_of_ask ha)] at h
      cases hi : idxO ws id with
      | none => rw [hi] at h; simp at h
      | some x => exact ⟨x, rfl⟩
     have hxl := (idxO_some hx).1
     by_cases hfit : waterE ws s = 0 ∧ fitsB cs s = true
     ·exact btw_fits w A1 c1 ws r0 cs r1 s r2 id B d us r4 hf hs hc ha x hx hxl hfit.1 hfit.2
     ·exact btw_not w A1 c1 ws r0 cs r1 s r2 id B d us r4 hf hs hc ha x hx hxl hfit
    ·exact btw_ask w A1 c1 ws r0 cs r1 s r2 id B d us r4 hf hs hc ha
end Go.Proofs.Ytdadoelajhemjaa
