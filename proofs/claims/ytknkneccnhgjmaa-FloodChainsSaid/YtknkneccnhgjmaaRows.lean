/-
  No cell of these rows narrows 'for every input' (looked for: loops, veiled, ifaces, maps, wideKeys, modest, calm, conditions, laid).
  DERIVED. THE GIVEN ROWS OF THIS SEAT. 13 by the template 'for every input the law returns true; each argument reads behind the call as it read before'; 0 by the template 'total and deterministic' (their statements: YtknkneccnhgjmaaTotals.lean).
  GIVEN WITH THE SEED: the statements are not yours to turn. If you find one false, say at which input.
  Laid BY PROGRAM, IN A SANDBOX (cutbox-rows.mjs): the forced cells as the released guide's own fill.sh prints them over the translation e2bb13ac6dc8f17e… (all of the seat's roots in one cut). By AI agents, Wed Nov 11 2026. No macro, syntax, notation, axiom, sorry.
-/
import Derived.Test.YtknkneccnhgjmaaChecked
import GoSem.Claim
import GoSem.ClaimJoined
import GoSem.ClaimMapViews
import Derived.JoinedTies
import Derived.KernelRfl
namespace Go.Proofs.Ytknkneccnhgjmaa
/- THE CELL 'sum', in the pinned program and in every row, IS THE sha256 OF THE DUMP (.gsa) THAT YtknkneccnhgjmaaProg.lean LOADS. Nothing in Lean hashes anything: it is a label: what it is worth is what the hold of that sum in a sandbox is worth. -/
noncomputable def Try.pinned : Pinned := { name := "ytknkneccnhgjmaa", sum := "e2bb13ac6dc8f17e10434c653f882c3770b8d3871e02822d4665532432986e61", checked := Try.checked }
namespace Rows
def none {H : Type} : Left H := { results := [], args := [] }

/-- 'drownerlaw04.FloodStaffs': WHATEVER THE INPUT: true; the input reads as it did. -/
def floodStaffsSpec : ChangeSpec := { name := "floodStaffs", fn := fun _ => fun
  | [d1, d2] => { results := [.lit (.bool true)], args := [d1, d2] }
  | _ => none }
def floodStaffsRow : OpenClaim := { program := "ytknkneccnhgjmaa", sum := "e2bb13ac6dc8f17e10434c653f882c3770b8d3871e02822d4665532432986e61", func := "drowner/drownerlaw04.FloodStaffs", spec := "floodStaffs", unfollowed := true, recurses := true, apart := false }
def FloodStaffsSaid : Prop := floodStaffsRow.holds Try.pinned (OpenSpec.ofChange floodStaffsSpec)

/-- ITS FALSE NEIGHBOUR: 'it returns false'. Refute it at one input. -/
def floodStaffsWrong : ChangeSpec := { name := "floodStaffs", fn := fun _ => fun
  | [d1, d2] => { results := [.lit (.bool false)], args := [d1, d2] }
  | _ => none }
def FloodStaffsWrongFalsely : Prop := floodStaffsRow.holds Try.pinned (OpenSpec.ofChange floodStaffsWrong)

/-- 'drownerlaw04.FloodLeads': WHATEVER THE INPUT: true; the input reads as it did. -/
def floodLeadsSpec : ChangeSpec := { name := "floodLeads", fn := fun _ => fun
  | [d1, d2, d3] => { results := [.lit (.bool true)], args := [d1, d2, d3] }
  | _ => none }
def floodLeadsRow : OpenClaim := { program := "ytknkneccnhgjmaa", sum := "e2bb13ac6dc8f17e10434c653f882c3770b8d3871e02822d4665532432986e61", func := "drowner/drownerlaw04.FloodLeads", spec := "floodLeads", unfollowed := true, recurses := true, apart := false }
def FloodLeadsSaid : Prop := floodLeadsRow.holds Try.pinned (OpenSpec.ofChange floodLeadsSpec)

/-- ITS FALSE NEIGHBOUR: 'it returns false'. Refute it at one input. -/
def floodLeadsWrong : ChangeSpec := { name := "floodLeads", fn := fun _ => fun
  | [d1, d2, d3] => { results := [.lit (.bool false)], args := [d1, d2, d3] }
  | _ => none }
def FloodLeadsWrongFalsely : Prop := floodLeadsRow.holds Try.pinned (OpenSpec.ofChange floodLeadsWrong)

/-- 'drownerlaw04.FloodAmong': WHATEVER THE INPUT: true; the input reads as it did. -/
def floodAmongSpec : ChangeSpec := { name := "floodAmong", fn := fun _ => fun
  | [d1, d2, d3] => { results := [.lit (.bool true)], args := [d1, d2, d3] }
  | _ => none }
def floodAmongRow : OpenClaim := { program := "ytknkneccnhgjmaa", sum := "e2bb13ac6dc8f17e10434c653f882c3770b8d3871e02822d4665532432986e61", func := "drowner/drownerlaw04.FloodAmong", spec := "floodAmong", unfollowed := true, recurses := true, apart := false }
def FloodAmongSaid : Prop := floodAmongRow.holds Try.pinned (OpenSpec.ofChange floodAmongSpec)

/-- ITS FALSE NEIGHBOUR: 'it returns false'. Refute it at one input. -/
def floodAmongWrong : ChangeSpec := { name := "floodAmong", fn := fun _ => fun
  | [d1, d2, d3] => { results := [.lit (.bool false)], args := [d1, d2, d3] }
  | _ => none }
def FloodAmongWrongFalsely : Prop := floodAmongRow.holds Try.pinned (OpenSpec.ofChange floodAmongWrong)

/-- 'drownerlaw04.FloodJoins': WHATEVER THE INPUT: true; the input reads as it did. -/
def floodJoinsSpec : ChangeSpec := { name := "floodJoins", fn := fun _ => fun
  | [d1, d2, d3] => { results := [.lit (.bool true)], args := [d1, d2, d3] }
  | _ => none }
def floodJoinsRow : OpenClaim := { program := "ytknkneccnhgjmaa", sum := "e2bb13ac6dc8f17e10434c653f882c3770b8d3871e02822d4665532432986e61", func := "drowner/drownerlaw04.FloodJoins", spec := "floodJoins", unfollowed := true, recurses := true, apart := false }
def FloodJoinsSaid : Prop := floodJoinsRow.holds Try.pinned (OpenSpec.ofChange floodJoinsSpec)

/-- ITS FALSE NEIGHBOUR: 'it returns false'. Refute it at one input. -/
def floodJoinsWrong : ChangeSpec := { name := "floodJoins", fn := fun _ => fun
  | [d1, d2, d3] => { results := [.lit (.bool false)], args := [d1, d2, d3] }
  | _ => none }
def FloodJoinsWrongFalsely : Prop := floodJoinsRow.holds Try.pinned (OpenSpec.ofChange floodJoinsWrong)

/-- 'drownerlaw04.FloodGreater': WHATEVER THE INPUT: true; the input reads as it did. -/
def floodGreaterSpec : ChangeSpec := { name := "floodGreater", fn := fun _ => fun
  | [d1, d2, d3, d4] => { results := [.lit (.bool true)], args := [d1, d2, d3, d4] }
  | _ => none }
def floodGreaterRow : OpenClaim := { program := "ytknkneccnhgjmaa", sum := "e2bb13ac6dc8f17e10434c653f882c3770b8d3871e02822d4665532432986e61", func := "drowner/drownerlaw04.FloodGreater", spec := "floodGreater", unfollowed := true, recurses := true, apart := false }
def FloodGreaterSaid : Prop := floodGreaterRow.holds Try.pinned (OpenSpec.ofChange floodGreaterSpec)

/-- ITS FALSE NEIGHBOUR: 'it returns false'. Refute it at one input. -/
def floodGreaterWrong : ChangeSpec := { name := "floodGreater", fn := fun _ => fun
  | [d1, d2, d3, d4] => { results := [.lit (.bool false)], args := [d1, d2, d3, d4] }
  | _ => none }
def FloodGreaterWrongFalsely : Prop := floodGreaterRow.holds Try.pinned (OpenSpec.ofChange floodGreaterWrong)

/-- 'drownerlaw04.FloodBounds': WHATEVER THE INPUT: true; the input reads as it did. -/
def floodBoundsSpec : ChangeSpec := { name := "floodBounds", fn := fun _ => fun
  | [d1, d2, d3, d4] => { results := [.lit (.bool true)], args := [d1, d2, d3, d4] }
  | _ => none }
def floodBoundsRow : OpenClaim := { program := "ytknkneccnhgjmaa", sum := "e2bb13ac6dc8f17e10434c653f882c3770b8d3871e02822d4665532432986e61", func := "drowner/drownerlaw04.FloodBounds", spec := "floodBounds", unfollowed := true, recurses := true, apart := false }
def FloodBoundsSaid : Prop := floodBoundsRow.holds Try.pinned (OpenSpec.ofChange floodBoundsSpec)

/-- ITS FALSE NEIGHBOUR: 'it returns false'. Refute it at one input. -/
def floodBoundsWrong : ChangeSpec := { name := "floodBounds", fn := fun _ => fun
  | [d1, d2, d3, d4] => { results := [.lit (.bool false)], args := [d1, d2, d3, d4] }
  | _ => none }
def FloodBoundsWrongFalsely : Prop := floodBoundsRow.holds Try.pinned (OpenSpec.ofChange floodBoundsWrong)

/-- 'drownerlaw04.FloodReaches': WHATEVER THE INPUT: true; the input reads as it did. -/
def floodReachesSpec : ChangeSpec := { name := "floodReaches", fn := fun _ => fun
  | [d1, d2, d3, d4] => { results := [.lit (.bool true)], args := [d1, d2, d3, d4] }
  | _ => none }
def floodReachesRow : OpenClaim := { program := "ytknkneccnhgjmaa", sum := "e2bb13ac6dc8f17e10434c653f882c3770b8d3871e02822d4665532432986e61", func := "drowner/drownerlaw04.FloodReaches", spec := "floodReaches", unfollowed := true, recurses := true, apart := false }
def FloodReachesSaid : Prop := floodReachesRow.holds Try.pinned (OpenSpec.ofChange floodReachesSpec)

/-- ITS FALSE NEIGHBOUR: 'it returns false'. Refute it at one input. -/
def floodReachesWrong : ChangeSpec := { name := "floodReaches", fn := fun _ => fun
  | [d1, d2, d3, d4] => { results := [.lit (.bool false)], args := [d1, d2, d3, d4] }
  | _ => none }
def FloodReachesWrongFalsely : Prop := floodReachesRow.holds Try.pinned (OpenSpec.ofChange floodReachesWrong)

/-- 'drownerlaw04.FloodCurves': WHATEVER THE INPUT: true; the input reads as it did. -/
def floodCurvesSpec : ChangeSpec := { name := "floodCurves", fn := fun _ => fun
  | [d1, d2, d3] => { results := [.lit (.bool true)], args := [d1, d2, d3] }
  | _ => none }
def floodCurvesRow : OpenClaim := { program := "ytknkneccnhgjmaa", sum := "e2bb13ac6dc8f17e10434c653f882c3770b8d3871e02822d4665532432986e61", func := "drowner/drownerlaw04.FloodCurves", spec := "floodCurves", unfollowed := true, recurses := true, apart := false }
def FloodCurvesSaid : Prop := floodCurvesRow.holds Try.pinned (OpenSpec.ofChange floodCurvesSpec)

/-- ITS FALSE NEIGHBOUR: 'it returns false'. Refute it at one input. -/
def floodCurvesWrong : ChangeSpec := { name := "floodCurves", fn := fun _ => fun
  | [d1, d2, d3] => { results := [.lit (.bool false)], args := [d1, d2, d3] }
  | _ => none }
def FloodCurvesWrongFalsely : Prop := floodCurvesRow.holds Try.pinned (OpenSpec.ofChange floodCurvesWrong)

/-- 'drownerlaw04.FloodChains': WHATEVER THE INPUT: true; the input reads as it did. -/
def floodChainsSpec : ChangeSpec := { name := "floodChains", fn := fun _ => fun
  | [d] => { results := [.lit (.bool true)], args := [d] }
  | _ => none }
def floodChainsRow : OpenClaim := { program := "ytknkneccnhgjmaa", sum := "e2bb13ac6dc8f17e10434c653f882c3770b8d3871e02822d4665532432986e61", func := "drowner/drownerlaw04.FloodChains", spec := "floodChains", unfollowed := true, recurses := true, apart := false }
def FloodChainsSaid : Prop := floodChainsRow.holds Try.pinned (OpenSpec.ofChange floodChainsSpec)

/-- ITS FALSE NEIGHBOUR: 'it returns false'. Refute it at one input. -/
def floodChainsWrong : ChangeSpec := { name := "floodChains", fn := fun _ => fun
  | [d] => { results := [.lit (.bool false)], args := [d] }
  | _ => none }
def FloodChainsWrongFalsely : Prop := floodChainsRow.holds Try.pinned (OpenSpec.ofChange floodChainsWrong)

/-- 'drownerlaw04.FloodServes': WHATEVER THE INPUT: true; the input reads as it did. -/
def floodServesSpec : ChangeSpec := { name := "floodServes", fn := fun _ => fun
  | [d1, d2, d3, d4] => { results := [.lit (.bool true)], args := [d1, d2, d3, d4] }
  | _ => none }
def floodServesRow : OpenClaim := { program := "ytknkneccnhgjmaa", sum := "e2bb13ac6dc8f17e10434c653f882c3770b8d3871e02822d4665532432986e61", func := "drowner/drownerlaw04.FloodServes", spec := "floodServes", unfollowed := true, recurses := true, apart := false }
def FloodServesSaid : Prop := floodServesRow.holds Try.pinned (OpenSpec.ofChange floodServesSpec)

/-- ITS FALSE NEIGHBOUR: 'it returns false'. Refute it at one input. -/
def floodServesWrong : ChangeSpec := { name := "floodServes", fn := fun _ => fun
  | [d1, d2, d3, d4] => { results := [.lit (.bool false)], args := [d1, d2, d3, d4] }
  | _ => none }
def FloodServesWrongFalsely : Prop := floodServesRow.holds Try.pinned (OpenSpec.ofChange floodServesWrong)

/-- 'drownerlaw04.FloodHolds': WHATEVER THE INPUT: true; the input reads as it did. -/
def floodHoldsSpec : ChangeSpec := { name := "floodHolds", fn := fun _ => fun
  | [d1, d2, d3, d4] => { results := [.lit (.bool true)], args := [d1, d2, d3, d4] }
  | _ => none }
def floodHoldsRow : OpenClaim := { program := "ytknkneccnhgjmaa", sum := "e2bb13ac6dc8f17e10434c653f882c3770b8d3871e02822d4665532432986e61", func := "drowner/drownerlaw04.FloodHolds", spec := "floodHolds", unfollowed := true, recurses := true, apart := false }
def FloodHoldsSaid : Prop := floodHoldsRow.holds Try.pinned (OpenSpec.ofChange floodHoldsSpec)

/-- ITS FALSE NEIGHBOUR: 'it returns false'. Refute it at one input. -/
def floodHoldsWrong : ChangeSpec := { name := "floodHolds", fn := fun _ => fun
  | [d1, d2, d3, d4] => { results := [.lit (.bool false)], args := [d1, d2, d3, d4] }
  | _ => none }
def FloodHoldsWrongFalsely : Prop := floodHoldsRow.holds Try.pinned (OpenSpec.ofChange floodHoldsWrong)

/-- 'drownerlaw04.FloodLimits': WHATEVER THE INPUT: true; the input reads as it did. -/
def floodLimitsSpec : ChangeSpec := { name := "floodLimits", fn := fun _ => fun
  | [d1, d2, d3, d4] => { results := [.lit (.bool true)], args := [d1, d2, d3, d4] }
  | _ => none }
def floodLimitsRow : OpenClaim := { program := "ytknkneccnhgjmaa", sum := "e2bb13ac6dc8f17e10434c653f882c3770b8d3871e02822d4665532432986e61", func := "drowner/drownerlaw04.FloodLimits", spec := "floodLimits", unfollowed := true, recurses := true, apart := false }
def FloodLimitsSaid : Prop := floodLimitsRow.holds Try.pinned (OpenSpec.ofChange floodLimitsSpec)

/-- ITS FALSE NEIGHBOUR: 'it returns false'. Refute it at one input. -/
def floodLimitsWrong : ChangeSpec := { name := "floodLimits", fn := fun _ => fun
  | [d1, d2, d3, d4] => { results := [.lit (.bool false)], args := [d1, d2, d3, d4] }
  | _ => none }
def FloodLimitsWrongFalsely : Prop := floodLimitsRow.holds Try.pinned (OpenSpec.ofChange floodLimitsWrong)

/-- 'drownerlaw04.FloodObeys': WHATEVER THE INPUT: true; the input reads as it did. -/
def floodObeysSpec : ChangeSpec := { name := "floodObeys", fn := fun _ => fun
  | [d1, d2, d3, d4] => { results := [.lit (.bool true)], args := [d1, d2, d3, d4] }
  | _ => none }
def floodObeysRow : OpenClaim := { program := "ytknkneccnhgjmaa", sum := "e2bb13ac6dc8f17e10434c653f882c3770b8d3871e02822d4665532432986e61", func := "drowner/drownerlaw04.FloodObeys", spec := "floodObeys", unfollowed := true, recurses := true, apart := false }
def FloodObeysSaid : Prop := floodObeysRow.holds Try.pinned (OpenSpec.ofChange floodObeysSpec)

/-- ITS FALSE NEIGHBOUR: 'it returns false'. Refute it at one input. -/
def floodObeysWrong : ChangeSpec := { name := "floodObeys", fn := fun _ => fun
  | [d1, d2, d3, d4] => { results := [.lit (.bool false)], args := [d1, d2, d3, d4] }
  | _ => none }
def FloodObeysWrongFalsely : Prop := floodObeysRow.holds Try.pinned (OpenSpec.ofChange floodObeysWrong)

/- THE SECOND FORM. 'bulk': how many values and letters a reading holds, each counted each time it is reached (what is shared counts as often as it is met; a slice's spare places count too). A statement '..UptoSaid' is the law's where the arguments, and the package variables that the reading takes, are together of bulk at most 1048576: NARROWER than '..Said'. Prove '..Said' where nothing that the law and all that it calls make is longer than what came in: it says more and counts as full. Else prove '..UptoSaid'. A law counts once. -/
mutual
def uptoBulk {H : Type} : DataW H → Nat
  | .lit (.string bytes) => bytes.length + 1
  | .lit _ => 1
  | .nil => 1
  | .ptr d => uptoBulk d + 1
  | .slice elems spare => uptoBulkAll elems + uptoBulkAll spare + 1
  | .agg parts => uptoBulkAll parts + 1
  | .iface _ d => uptoBulk d + 1
  | .map entries => uptoBulkEntries entries + 1
  | .held _ => 1
def uptoBulkAll {H : Type} : List (DataW H) → Nat
  | [] => 0
  | d :: r => uptoBulk d + uptoBulkAll r
def uptoBulkEntries {H : Type} : List (Lit × DataW H) → Nat
  | [] => 0
  | x :: r => uptoBulkEntry x + uptoBulkEntries r
def uptoBulkEntry {H : Type} : Lit × DataW H → Nat
  | (.string bytes, d) => bytes.length + uptoBulk d + 1
  | (_, d) => uptoBulk d + 1
 end
def uptoSmall : (H : Type) → List (DataW H) → Bool := fun _ ds => decide (uptoBulkAll ds ≤ 1048576)
def OpenSpec.upto (s : _root_.Go.ChangeSpec) : _root_.Go.OpenSpec := { _root_.Go.OpenSpec.ofChange s with cond := some uptoSmall }

/-- 'drownerlaw04.FloodStaffs', WHERE WHAT IT READS IS OF BULK AT MOST 1048576: true; the input reads as it did. -/
def floodStaffsUptoRow : OpenClaim := { program := "ytknkneccnhgjmaa", sum := "e2bb13ac6dc8f17e10434c653f882c3770b8d3871e02822d4665532432986e61", func := "drowner/drownerlaw04.FloodStaffs", spec := "floodStaffs", unfollowed := true, recurses := true, apart := false, narrowed := true }
def FloodStaffsUptoSaid : Prop := floodStaffsUptoRow.holds Try.pinned (OpenSpec.upto floodStaffsSpec)

/-- 'drownerlaw04.FloodLeads', WHERE WHAT IT READS IS OF BULK AT MOST 1048576: true; the input reads as it did. -/
def floodLeadsUptoRow : OpenClaim := { program := "ytknkneccnhgjmaa", sum := "e2bb13ac6dc8f17e10434c653f882c3770b8d3871e02822d4665532432986e61", func := "drowner/drownerlaw04.FloodLeads", spec := "floodLeads", unfollowed := true, recurses := true, apart := false, narrowed := true }
def FloodLeadsUptoSaid : Prop := floodLeadsUptoRow.holds Try.pinned (OpenSpec.upto floodLeadsSpec)

/-- 'drownerlaw04.FloodAmong', WHERE WHAT IT READS IS OF BULK AT MOST 1048576: true; the input reads as it did. -/
def floodAmongUptoRow : OpenClaim := { program := "ytknkneccnhgjmaa", sum := "e2bb13ac6dc8f17e10434c653f882c3770b8d3871e02822d4665532432986e61", func := "drowner/drownerlaw04.FloodAmong", spec := "floodAmong", unfollowed := true, recurses := true, apart := false, narrowed := true }
def FloodAmongUptoSaid : Prop := floodAmongUptoRow.holds Try.pinned (OpenSpec.upto floodAmongSpec)

/-- 'drownerlaw04.FloodJoins', WHERE WHAT IT READS IS OF BULK AT MOST 1048576: true; the input reads as it did. -/
def floodJoinsUptoRow : OpenClaim := { program := "ytknkneccnhgjmaa", sum := "e2bb13ac6dc8f17e10434c653f882c3770b8d3871e02822d4665532432986e61", func := "drowner/drownerlaw04.FloodJoins", spec := "floodJoins", unfollowed := true, recurses := true, apart := false, narrowed := true }
def FloodJoinsUptoSaid : Prop := floodJoinsUptoRow.holds Try.pinned (OpenSpec.upto floodJoinsSpec)

/-- 'drownerlaw04.FloodGreater', WHERE WHAT IT READS IS OF BULK AT MOST 1048576: true; the input reads as it did. -/
def floodGreaterUptoRow : OpenClaim := { program := "ytknkneccnhgjmaa", sum := "e2bb13ac6dc8f17e10434c653f882c3770b8d3871e02822d4665532432986e61", func := "drowner/drownerlaw04.FloodGreater", spec := "floodGreater", unfollowed := true, recurses := true, apart := false, narrowed := true }
def FloodGreaterUptoSaid : Prop := floodGreaterUptoRow.holds Try.pinned (OpenSpec.upto floodGreaterSpec)

/-- 'drownerlaw04.FloodBounds', WHERE WHAT IT READS IS OF BULK AT MOST 1048576: true; the input reads as it did. -/
def floodBoundsUptoRow : OpenClaim := { program := "ytknkneccnhgjmaa", sum := "e2bb13ac6dc8f17e10434c653f882c3770b8d3871e02822d4665532432986e61", func := "drowner/drownerlaw04.FloodBounds", spec := "floodBounds", unfollowed := true, recurses := true, apart := false, narrowed := true }
def FloodBoundsUptoSaid : Prop := floodBoundsUptoRow.holds Try.pinned (OpenSpec.upto floodBoundsSpec)

/-- 'drownerlaw04.FloodReaches', WHERE WHAT IT READS IS OF BULK AT MOST 1048576: true; the input reads as it did. -/
def floodReachesUptoRow : OpenClaim := { program := "ytknkneccnhgjmaa", sum := "e2bb13ac6dc8f17e10434c653f882c3770b8d3871e02822d4665532432986e61", func := "drowner/drownerlaw04.FloodReaches", spec := "floodReaches", unfollowed := true, recurses := true, apart := false, narrowed := true }
def FloodReachesUptoSaid : Prop := floodReachesUptoRow.holds Try.pinned (OpenSpec.upto floodReachesSpec)

/-- 'drownerlaw04.FloodCurves', WHERE WHAT IT READS IS OF BULK AT MOST 1048576: true; the input reads as it did. -/
def floodCurvesUptoRow : OpenClaim := { program := "ytknkneccnhgjmaa", sum := "e2bb13ac6dc8f17e10434c653f882c3770b8d3871e02822d4665532432986e61", func := "drowner/drownerlaw04.FloodCurves", spec := "floodCurves", unfollowed := true, recurses := true, apart := false, narrowed := true }
def FloodCurvesUptoSaid : Prop := floodCurvesUptoRow.holds Try.pinned (OpenSpec.upto floodCurvesSpec)

/-- 'drownerlaw04.FloodChains', WHERE WHAT IT READS IS OF BULK AT MOST 1048576: true; the input reads as it did. -/
def floodChainsUptoRow : OpenClaim := { program := "ytknkneccnhgjmaa", sum := "e2bb13ac6dc8f17e10434c653f882c3770b8d3871e02822d4665532432986e61", func := "drowner/drownerlaw04.FloodChains", spec := "floodChains", unfollowed := true, recurses := true, apart := false, narrowed := true }
def FloodChainsUptoSaid : Prop := floodChainsUptoRow.holds Try.pinned (OpenSpec.upto floodChainsSpec)

/-- 'drownerlaw04.FloodServes', WHERE WHAT IT READS IS OF BULK AT MOST 1048576: true; the input reads as it did. -/
def floodServesUptoRow : OpenClaim := { program := "ytknkneccnhgjmaa", sum := "e2bb13ac6dc8f17e10434c653f882c3770b8d3871e02822d4665532432986e61", func := "drowner/drownerlaw04.FloodServes", spec := "floodServes", unfollowed := true, recurses := true, apart := false, narrowed := true }
def FloodServesUptoSaid : Prop := floodServesUptoRow.holds Try.pinned (OpenSpec.upto floodServesSpec)

/-- 'drownerlaw04.FloodHolds', WHERE WHAT IT READS IS OF BULK AT MOST 1048576: true; the input reads as it did. -/
def floodHoldsUptoRow : OpenClaim := { program := "ytknkneccnhgjmaa", sum := "e2bb13ac6dc8f17e10434c653f882c3770b8d3871e02822d4665532432986e61", func := "drowner/drownerlaw04.FloodHolds", spec := "floodHolds", unfollowed := true, recurses := true, apart := false, narrowed := true }
def FloodHoldsUptoSaid : Prop := floodHoldsUptoRow.holds Try.pinned (OpenSpec.upto floodHoldsSpec)

/-- 'drownerlaw04.FloodLimits', WHERE WHAT IT READS IS OF BULK AT MOST 1048576: true; the input reads as it did. -/
def floodLimitsUptoRow : OpenClaim := { program := "ytknkneccnhgjmaa", sum := "e2bb13ac6dc8f17e10434c653f882c3770b8d3871e02822d4665532432986e61", func := "drowner/drownerlaw04.FloodLimits", spec := "floodLimits", unfollowed := true, recurses := true, apart := false, narrowed := true }
def FloodLimitsUptoSaid : Prop := floodLimitsUptoRow.holds Try.pinned (OpenSpec.upto floodLimitsSpec)

/-- 'drownerlaw04.FloodObeys', WHERE WHAT IT READS IS OF BULK AT MOST 1048576: true; the input reads as it did. -/
def floodObeysUptoRow : OpenClaim := { program := "ytknkneccnhgjmaa", sum := "e2bb13ac6dc8f17e10434c653f882c3770b8d3871e02822d4665532432986e61", func := "drowner/drownerlaw04.FloodObeys", spec := "floodObeys", unfollowed := true, recurses := true, apart := false, narrowed := true }
def FloodObeysUptoSaid : Prop := floodObeysUptoRow.holds Try.pinned (OpenSpec.upto floodObeysSpec)

end Rows
end Go.Proofs.Ytknkneccnhgjmaa
