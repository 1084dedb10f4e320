/-
  No cell of these rows narrows 'for every input' (looked for: loops, veiled, ifaces, maps, wideKeys, modest, calm, conditions, laid).
  DERIVED. THE GIVEN ROWS OF THIS SEAT. 15 by the template 'for every input the law returns true; each argument reads behind the call as it read before'; 0 by the template 'total and deterministic' (their statements: YtdadoelajhemjaaTotals.lean).
  GIVEN WITH THE SEED: the statements are not yours to turn. If you find one false, say at which input.
  Laid BY PROGRAM, IN A SANDBOX (cutbox-rows.mjs): the forced cells as the released guide's own fill.sh prints them over the translation 7d67140503529cb8… (all of the seat's roots in one cut). By AI agents, Wed Nov 11 2026. No macro, syntax, notation, axiom, sorry.
-/
import Derived.Test.YtdadoelajhemjaaChecked
import GoSem.Claim
import GoSem.ClaimJoined
import GoSem.ClaimMapViews
import Derived.JoinedTies
import Derived.KernelRfl
namespace Go.Proofs.Ytdadoelajhemjaa
/- THE CELL 'sum', in the pinned program and in every row, IS THE sha256 OF THE DUMP (.gsa) THAT YtdadoelajhemjaaProg.lean LOADS. Nothing in Lean hashes anything: it is a label: what it is worth is what the hold of that sum in a sandbox is worth. -/
noncomputable def Try.pinned : Pinned := { name := "ytdadoelajhemjaa", sum := "7d67140503529cb8498450b8b11e53d5cd01b961124d58fec4cfcc4fb82585e2", checked := Try.checked }
namespace Rows
def none {H : Type} : Left H := { results := [], args := [] }

/-- 'drownerlaw02.CarrierKeeps': WHATEVER THE INPUT: true; the input reads as it did. -/
def carrierKeepsSpec : ChangeSpec := { name := "carrierKeeps", fn := fun _ => fun
  | [d1, d2] => { results := [.lit (.bool true)], args := [d1, d2] }
  | _ => none }
def carrierKeepsRow : OpenClaim := { program := "ytdadoelajhemjaa", sum := "7d67140503529cb8498450b8b11e53d5cd01b961124d58fec4cfcc4fb82585e2", func := "drowner/drownerlaw02.CarrierKeeps", spec := "carrierKeeps", unfollowed := true, recurses := true, apart := false }
def CarrierKeepsSaid : Prop := carrierKeepsRow.holds Try.pinned (OpenSpec.ofChange carrierKeepsSpec)

/-- ITS FALSE NEIGHBOUR: 'it returns false'. Refute it at one input. -/
def carrierKeepsWrong : ChangeSpec := { name := "carrierKeeps", fn := fun _ => fun
  | [d1, d2] => { results := [.lit (.bool false)], args := [d1, d2] }
  | _ => none }
def CarrierKeepsWrongFalsely : Prop := carrierKeepsRow.holds Try.pinned (OpenSpec.ofChange carrierKeepsWrong)

/-- 'drownerlaw02.CarrierFlows': WHATEVER THE INPUT: true; the input reads as it did. -/
def carrierFlowsSpec : ChangeSpec := { name := "carrierFlows", fn := fun _ => fun
  | [d1, d2] => { results := [.lit (.bool true)], args := [d1, d2] }
  | _ => none }
def carrierFlowsRow : OpenClaim := { program := "ytdadoelajhemjaa", sum := "7d67140503529cb8498450b8b11e53d5cd01b961124d58fec4cfcc4fb82585e2", func := "drowner/drownerlaw02.CarrierFlows", spec := "carrierFlows", unfollowed := true, recurses := true, apart := false }
def CarrierFlowsSaid : Prop := carrierFlowsRow.holds Try.pinned (OpenSpec.ofChange carrierFlowsSpec)

/-- ITS FALSE NEIGHBOUR: 'it returns false'. Refute it at one input. -/
def carrierFlowsWrong : ChangeSpec := { name := "carrierFlows", fn := fun _ => fun
  | [d1, d2] => { results := [.lit (.bool false)], args := [d1, d2] }
  | _ => none }
def CarrierFlowsWrongFalsely : Prop := carrierFlowsRow.holds Try.pinned (OpenSpec.ofChange carrierFlowsWrong)

/-- 'drownerlaw02.CarrierRests': WHATEVER THE INPUT: true; the input reads as it did. -/
def carrierRestsSpec : ChangeSpec := { name := "carrierRests", fn := fun _ => fun
  | [d1, d2, d3] => { results := [.lit (.bool true)], args := [d1, d2, d3] }
  | _ => none }
def carrierRestsRow : OpenClaim := { program := "ytdadoelajhemjaa", sum := "7d67140503529cb8498450b8b11e53d5cd01b961124d58fec4cfcc4fb82585e2", func := "drowner/drownerlaw02.CarrierRests", spec := "carrierRests", unfollowed := true, recurses := true, apart := false }
def CarrierRestsSaid : Prop := carrierRestsRow.holds Try.pinned (OpenSpec.ofChange carrierRestsSpec)

/-- ITS FALSE NEIGHBOUR: 'it returns false'. Refute it at one input. -/
def carrierRestsWrong : ChangeSpec := { name := "carrierRests", fn := fun _ => fun
  | [d1, d2, d3] => { results := [.lit (.bool false)], args := [d1, d2, d3] }
  | _ => none }
def CarrierRestsWrongFalsely : Prop := carrierRestsRow.holds Try.pinned (OpenSpec.ofChange carrierRestsWrong)

/-- 'drownerlaw02.CarrierWishes': WHATEVER THE INPUT: true; the input reads as it did. -/
def carrierWishesSpec : ChangeSpec := { name := "carrierWishes", fn := fun _ => fun
  | [d1, d2, d3, d4] => { results := [.lit (.bool true)], args := [d1, d2, d3, d4] }
  | _ => none }
def carrierWishesRow : OpenClaim := { program := "ytdadoelajhemjaa", sum := "7d67140503529cb8498450b8b11e53d5cd01b961124d58fec4cfcc4fb82585e2", func := "drowner/drownerlaw02.CarrierWishes", spec := "carrierWishes", unfollowed := true, recurses := true, apart := false }
def CarrierWishesSaid : Prop := carrierWishesRow.holds Try.pinned (OpenSpec.ofChange carrierWishesSpec)

/-- ITS FALSE NEIGHBOUR: 'it returns false'. Refute it at one input. -/
def carrierWishesWrong : ChangeSpec := { name := "carrierWishes", fn := fun _ => fun
  | [d1, d2, d3, d4] => { results := [.lit (.bool false)], args := [d1, d2, d3, d4] }
  | _ => none }
def CarrierWishesWrongFalsely : Prop := carrierWishesRow.holds Try.pinned (OpenSpec.ofChange carrierWishesWrong)

/-- 'drownerlaw02.CarrierMonotone': WHATEVER THE INPUT: true; the input reads as it did. -/
def carrierMonotoneSpec : ChangeSpec := { name := "carrierMonotone", fn := fun _ => fun
  | [d1, d2, d3, d4] => { results := [.lit (.bool true)], args := [d1, d2, d3, d4] }
  | _ => none }
def carrierMonotoneRow : OpenClaim := { program := "ytdadoelajhemjaa", sum := "7d67140503529cb8498450b8b11e53d5cd01b961124d58fec4cfcc4fb82585e2", func := "drowner/drownerlaw02.CarrierMonotone", spec := "carrierMonotone", unfollowed := true, recurses := true, apart := false }
def CarrierMonotoneSaid : Prop := carrierMonotoneRow.holds Try.pinned (OpenSpec.ofChange carrierMonotoneSpec)

/-- ITS FALSE NEIGHBOUR: 'it returns false'. Refute it at one input. -/
def carrierMonotoneWrong : ChangeSpec := { name := "carrierMonotone", fn := fun _ => fun
  | [d1, d2, d3, d4] => { results := [.lit (.bool false)], args := [d1, d2, d3, d4] }
  | _ => none }
def CarrierMonotoneWrongFalsely : Prop := carrierMonotoneRow.holds Try.pinned (OpenSpec.ofChange carrierMonotoneWrong)

/-- 'drownerlaw02.CarrierGets': WHATEVER THE INPUT: true; the input reads as it did. -/
def carrierGetsSpec : ChangeSpec := { name := "carrierGets", fn := fun _ => fun
  | [d1, d2, d3, d4, d5] => { results := [.lit (.bool true)], args := [d1, d2, d3, d4, d5] }
  | _ => none }
def carrierGetsRow : OpenClaim := { program := "ytdadoelajhemjaa", sum := "7d67140503529cb8498450b8b11e53d5cd01b961124d58fec4cfcc4fb82585e2", func := "drowner/drownerlaw02.CarrierGets", spec := "carrierGets", unfollowed := true, recurses := true, apart := false }
def CarrierGetsSaid : Prop := carrierGetsRow.holds Try.pinned (OpenSpec.ofChange carrierGetsSpec)

/-- ITS FALSE NEIGHBOUR: 'it returns false'. Refute it at one input. -/
def carrierGetsWrong : ChangeSpec := { name := "carrierGets", fn := fun _ => fun
  | [d1, d2, d3, d4, d5] => { results := [.lit (.bool false)], args := [d1, d2, d3, d4, d5] }
  | _ => none }
def CarrierGetsWrongFalsely : Prop := carrierGetsRow.holds Try.pinned (OpenSpec.ofChange carrierGetsWrong)

/-- 'drownerlaw02.CarrierSigns': WHATEVER THE INPUT: true; the input reads as it did. -/
def carrierSignsSpec : ChangeSpec := { name := "carrierSigns", fn := fun _ => fun
  | [d1, d2] => { results := [.lit (.bool true)], args := [d1, d2] }
  | _ => none }
def carrierSignsRow : OpenClaim := { program := "ytdadoelajhemjaa", sum := "7d67140503529cb8498450b8b11e53d5cd01b961124d58fec4cfcc4fb82585e2", func := "drowner/drownerlaw02.CarrierSigns", spec := "carrierSigns", unfollowed := true, recurses := true, apart := false }
def CarrierSignsSaid : Prop := carrierSignsRow.holds Try.pinned (OpenSpec.ofChange carrierSignsSpec)

/-- ITS FALSE NEIGHBOUR: 'it returns false'. Refute it at one input. -/
def carrierSignsWrong : ChangeSpec := { name := "carrierSigns", fn := fun _ => fun
  | [d1, d2] => { results := [.lit (.bool false)], args := [d1, d2] }
  | _ => none }
def CarrierSignsWrongFalsely : Prop := carrierSignsRow.holds Try.pinned (OpenSpec.ofChange carrierSignsWrong)

/-- 'drownerlaw02.CarrierRuns': WHATEVER THE INPUT: true; the input reads as it did. -/
def carrierRunsSpec : ChangeSpec := { name := "carrierRuns", fn := fun _ => fun
  | [d1, d2, d3, d4] => { results := [.lit (.bool true)], args := [d1, d2, d3, d4] }
  | _ => none }
def carrierRunsRow : OpenClaim := { program := "ytdadoelajhemjaa", sum := "7d67140503529cb8498450b8b11e53d5cd01b961124d58fec4cfcc4fb82585e2", func := "drowner/drownerlaw02.CarrierRuns", spec := "carrierRuns", unfollowed := true, recurses := true, apart := false }
def CarrierRunsSaid : Prop := carrierRunsRow.holds Try.pinned (OpenSpec.ofChange carrierRunsSpec)

/-- ITS FALSE NEIGHBOUR: 'it returns false'. Refute it at one input. -/
def carrierRunsWrong : ChangeSpec := { name := "carrierRuns", fn := fun _ => fun
  | [d1, d2, d3, d4] => { results := [.lit (.bool false)], args := [d1, d2, d3, d4] }
  | _ => none }
def CarrierRunsWrongFalsely : Prop := carrierRunsRow.holds Try.pinned (OpenSpec.ofChange carrierRunsWrong)

/-- 'drownerlaw02.CarrierCases': WHATEVER THE INPUT: true; the input reads as it did. -/
def carrierCasesSpec : ChangeSpec := { name := "carrierCases", fn := fun _ => fun
  | [d1, d2, d3] => { results := [.lit (.bool true)], args := [d1, d2, d3] }
  | _ => none }
def carrierCasesRow : OpenClaim := { program := "ytdadoelajhemjaa", sum := "7d67140503529cb8498450b8b11e53d5cd01b961124d58fec4cfcc4fb82585e2", func := "drowner/drownerlaw02.CarrierCases", spec := "carrierCases", unfollowed := true, recurses := true, apart := false }
def CarrierCasesSaid : Prop := carrierCasesRow.holds Try.pinned (OpenSpec.ofChange carrierCasesSpec)

/-- ITS FALSE NEIGHBOUR: 'it returns false'. Refute it at one input. -/
def carrierCasesWrong : ChangeSpec := { name := "carrierCases", fn := fun _ => fun
  | [d1, d2, d3] => { results := [.lit (.bool false)], args := [d1, d2, d3] }
  | _ => none }
def CarrierCasesWrongFalsely : Prop := carrierCasesRow.holds Try.pinned (OpenSpec.ofChange carrierCasesWrong)

/-- 'drownerlaw02.CarrierDrinks': WHATEVER THE INPUT: true; the input reads as it did. -/
def carrierDrinksSpec : ChangeSpec := { name := "carrierDrinks", fn := fun _ => fun
  | [d1, d2] => { results := [.lit (.bool true)], args := [d1, d2] }
  | _ => none }
def carrierDrinksRow : OpenClaim := { program := "ytdadoelajhemjaa", sum := "7d67140503529cb8498450b8b11e53d5cd01b961124d58fec4cfcc4fb82585e2", func := "drowner/drownerlaw02.CarrierDrinks", spec := "carrierDrinks", unfollowed := true, recurses := true, apart := false }
def CarrierDrinksSaid : Prop := carrierDrinksRow.holds Try.pinned (OpenSpec.ofChange carrierDrinksSpec)

/-- ITS FALSE NEIGHBOUR: 'it returns false'. Refute it at one input. -/
def carrierDrinksWrong : ChangeSpec := { name := "carrierDrinks", fn := fun _ => fun
  | [d1, d2] => { results := [.lit (.bool false)], args := [d1, d2] }
  | _ => none }
def CarrierDrinksWrongFalsely : Prop := carrierDrinksRow.holds Try.pinned (OpenSpec.ofChange carrierDrinksWrong)

/-- 'drownerlaw02.CarrierWithout': WHATEVER THE INPUT: true; the input reads as it did. -/
def carrierWithoutSpec : ChangeSpec := { name := "carrierWithout", fn := fun _ => fun
  | [d1, d2] => { results := [.lit (.bool true)], args := [d1, d2] }
  | _ => none }
def carrierWithoutRow : OpenClaim := { program := "ytdadoelajhemjaa", sum := "7d67140503529cb8498450b8b11e53d5cd01b961124d58fec4cfcc4fb82585e2", func := "drowner/drownerlaw02.CarrierWithout", spec := "carrierWithout", unfollowed := true, recurses := true, apart := false }
def CarrierWithoutSaid : Prop := carrierWithoutRow.holds Try.pinned (OpenSpec.ofChange carrierWithoutSpec)

/-- ITS FALSE NEIGHBOUR: 'it returns false'. Refute it at one input. -/
def carrierWithoutWrong : ChangeSpec := { name := "carrierWithout", fn := fun _ => fun
  | [d1, d2] => { results := [.lit (.bool false)], args := [d1, d2] }
  | _ => none }
def CarrierWithoutWrongFalsely : Prop := carrierWithoutRow.holds Try.pinned (OpenSpec.ofChange carrierWithoutWrong)

/-- 'drownerlaw02.CarrierEnds': WHATEVER THE INPUT: true; the input reads as it did. -/
def carrierEndsSpec : ChangeSpec := { name := "carrierEnds", fn := fun _ => fun
  | [d1, d2, d3, d4] => { results := [.lit (.bool true)], args := [d1, d2, d3, d4] }
  | _ => none }
def carrierEndsRow : OpenClaim := { program := "ytdadoelajhemjaa", sum := "7d67140503529cb8498450b8b11e53d5cd01b961124d58fec4cfcc4fb82585e2", func := "drowner/drownerlaw02.CarrierEnds", spec := "carrierEnds", unfollowed := true, recurses := true, apart := false }
def CarrierEndsSaid : Prop := carrierEndsRow.holds Try.pinned (OpenSpec.ofChange carrierEndsSpec)

/-- ITS FALSE NEIGHBOUR: 'it returns false'. Refute it at one input. -/
def carrierEndsWrong : ChangeSpec := { name := "carrierEnds", fn := fun _ => fun
  | [d1, d2, d3, d4] => { results := [.lit (.bool false)], args := [d1, d2, d3, d4] }
  | _ => none }
def CarrierEndsWrongFalsely : Prop := carrierEndsRow.holds Try.pinned (OpenSpec.ofChange carrierEndsWrong)

/-- 'drownerlaw02.CarrierLeft': WHATEVER THE INPUT: true; the input reads as it did. -/
def carrierLeftSpec : ChangeSpec := { name := "carrierLeft", fn := fun _ => fun
  | [d1, d2, d3] => { results := [.lit (.bool true)], args := [d1, d2, d3] }
  | _ => none }
def carrierLeftRow : OpenClaim := { program := "ytdadoelajhemjaa", sum := "7d67140503529cb8498450b8b11e53d5cd01b961124d58fec4cfcc4fb82585e2", func := "drowner/drownerlaw02.CarrierLeft", spec := "carrierLeft", unfollowed := true, recurses := true, apart := false }
def CarrierLeftSaid : Prop := carrierLeftRow.holds Try.pinned (OpenSpec.ofChange carrierLeftSpec)

/-- ITS FALSE NEIGHBOUR: 'it returns false'. Refute it at one input. -/
def carrierLeftWrong : ChangeSpec := { name := "carrierLeft", fn := fun _ => fun
  | [d1, d2, d3] => { results := [.lit (.bool false)], args := [d1, d2, d3] }
  | _ => none }
def CarrierLeftWrongFalsely : Prop := carrierLeftRow.holds Try.pinned (OpenSpec.ofChange carrierLeftWrong)

/-- 'drownerlaw02.CarrierBetween': WHATEVER THE INPUT: true; the input reads as it did. -/
def carrierBetweenSpec : ChangeSpec := { name := "carrierBetween", fn := fun _ => fun
  | [d1, d2, d3, d4, d5] => { results := [.lit (.bool true)], args := [d1, d2, d3, d4, d5] }
  | _ => none }
def carrierBetweenRow : OpenClaim := { program := "ytdadoelajhemjaa", sum := "7d67140503529cb8498450b8b11e53d5cd01b961124d58fec4cfcc4fb82585e2", func := "drowner/drownerlaw02.CarrierBetween", spec := "carrierBetween", unfollowed := true, recurses := true, apart := false }
def CarrierBetweenSaid : Prop := carrierBetweenRow.holds Try.pinned (OpenSpec.ofChange carrierBetweenSpec)

/-- ITS FALSE NEIGHBOUR: 'it returns false'. Refute it at one input. -/
def carrierBetweenWrong : ChangeSpec := { name := "carrierBetween", fn := fun _ => fun
  | [d1, d2, d3, d4, d5] => { results := [.lit (.bool false)], args := [d1, d2, d3, d4, d5] }
  | _ => none }
def CarrierBetweenWrongFalsely : Prop := carrierBetweenRow.holds Try.pinned (OpenSpec.ofChange carrierBetweenWrong)

/-- 'drownerlaw02.CarrierChecks': WHATEVER THE INPUT: true; the input reads as it did. -/
def carrierChecksSpec : ChangeSpec := { name := "carrierChecks", fn := fun _ => fun
  | [d1, d2] => { results := [.lit (.bool true)], args := [d1, d2] }
  | _ => none }
def carrierChecksRow : OpenClaim := { program := "ytdadoelajhemjaa", sum := "7d67140503529cb8498450b8b11e53d5cd01b961124d58fec4cfcc4fb82585e2", func := "drowner/drownerlaw02.CarrierChecks", spec := "carrierChecks", unfollowed := true, recurses := true, apart := false }
def CarrierChecksSaid : Prop := carrierChecksRow.holds Try.pinned (OpenSpec.ofChange carrierChecksSpec)

/-- ITS FALSE NEIGHBOUR: 'it returns false'. Refute it at one input. -/
def carrierChecksWrong : ChangeSpec := { name := "carrierChecks", fn := fun _ => fun
  | [d1, d2] => { results := [.lit (.bool false)], args := [d1, d2] }
  | _ => none }
def CarrierChecksWrongFalsely : Prop := carrierChecksRow.holds Try.pinned (OpenSpec.ofChange carrierChecksWrong)

/- THE SECOND FORM. 'bulk': how many values and letters a reading holds, each counted each time it is reached (what is shared counts as often as it is met; a slice's spare places count too). A statement '..UptoSaid' is the law's where the arguments, and the package variables that the reading takes, are together of bulk at most 1048576: NARROWER than '..Said'. Prove '..Said' where nothing that the law and all that it calls make is longer than what came in: it says more and counts as full. Else prove '..UptoSaid'. A law counts once. -/
mutual
def uptoBulk {H : Type} : DataW H → Nat
  | .lit (.string bytes) => bytes.length + 1
  | .lit _ => 1
  | .nil => 1
  | .ptr d => uptoBulk d + 1
  | .slice elems spare => uptoBulkAll elems + uptoBulkAll spare + 1
  | .agg parts => uptoBulkAll parts + 1
  | .iface _ d => uptoBulk d + 1
  | .map entries => uptoBulkEntries entries + 1
  | .held _ => 1
def uptoBulkAll {H : Type} : List (DataW H) → Nat
  | [] => 0
  | d :: r => uptoBulk d + uptoBulkAll r
def uptoBulkEntries {H : Type} : List (Lit × DataW H) → Nat
  | [] => 0
  | x :: r => uptoBulkEntry x + uptoBulkEntries r
def uptoBulkEntry {H : Type} : Lit × DataW H → Nat
  | (.string bytes, d) => bytes.length + uptoBulk d + 1
  | (_, d) => uptoBulk d + 1
 end
def uptoSmall : (H : Type) → List (DataW H) → Bool := fun _ ds => decide (uptoBulkAll ds ≤ 1048576)
def OpenSpec.upto (s : _root_.Go.ChangeSpec) : _root_.Go.OpenSpec := { _root_.Go.OpenSpec.ofChange s with cond := some uptoSmall }

/-- 'drownerlaw02.CarrierKeeps', WHERE WHAT IT READS IS OF BULK AT MOST 1048576: true; the input reads as it did. -/
def carrierKeepsUptoRow : OpenClaim := { program := "ytdadoelajhemjaa", sum := "7d67140503529cb8498450b8b11e53d5cd01b961124d58fec4cfcc4fb82585e2", func := "drowner/drownerlaw02.CarrierKeeps", spec := "carrierKeeps", unfollowed := true, recurses := true, apart := false, narrowed := true }
def CarrierKeepsUptoSaid : Prop := carrierKeepsUptoRow.holds Try.pinned (OpenSpec.upto carrierKeepsSpec)

/-- 'drownerlaw02.CarrierFlows', WHERE WHAT IT READS IS OF BULK AT MOST 1048576: true; the input reads as it did. -/
def carrierFlowsUptoRow : OpenClaim := { program := "ytdadoelajhemjaa", sum := "7d67140503529cb8498450b8b11e53d5cd01b961124d58fec4cfcc4fb82585e2", func := "drowner/drownerlaw02.CarrierFlows", spec := "carrierFlows", unfollowed := true, recurses := true, apart := false, narrowed := true }
def CarrierFlowsUptoSaid : Prop := carrierFlowsUptoRow.holds Try.pinned (OpenSpec.upto carrierFlowsSpec)

/-- 'drownerlaw02.CarrierRests', WHERE WHAT IT READS IS OF BULK AT MOST 1048576: true; the input reads as it did. -/
def carrierRestsUptoRow : OpenClaim := { program := "ytdadoelajhemjaa", sum := "7d67140503529cb8498450b8b11e53d5cd01b961124d58fec4cfcc4fb82585e2", func := "drowner/drownerlaw02.CarrierRests", spec := "carrierRests", unfollowed := true, recurses := true, apart := false, narrowed := true }
def CarrierRestsUptoSaid : Prop := carrierRestsUptoRow.holds Try.pinned (OpenSpec.upto carrierRestsSpec)

/-- 'drownerlaw02.CarrierWishes', WHERE WHAT IT READS IS OF BULK AT MOST 1048576: true; the input reads as it did. -/
def carrierWishesUptoRow : OpenClaim := { program := "ytdadoelajhemjaa", sum := "7d67140503529cb8498450b8b11e53d5cd01b961124d58fec4cfcc4fb82585e2", func := "drowner/drownerlaw02.CarrierWishes", spec := "carrierWishes", unfollowed := true, recurses := true, apart := false, narrowed := true }
def CarrierWishesUptoSaid : Prop := carrierWishesUptoRow.holds Try.pinned (OpenSpec.upto carrierWishesSpec)

/-- 'drownerlaw02.CarrierMonotone', WHERE WHAT IT READS IS OF BULK AT MOST 1048576: true; the input reads as it did. -/
def carrierMonotoneUptoRow : OpenClaim := { program := "ytdadoelajhemjaa", sum := "7d67140503529cb8498450b8b11e53d5cd01b961124d58fec4cfcc4fb82585e2", func := "drowner/drownerlaw02.CarrierMonotone", spec := "carrierMonotone", unfollowed := true, recurses := true, apart := false, narrowed := true }
def CarrierMonotoneUptoSaid : Prop := carrierMonotoneUptoRow.holds Try.pinned (OpenSpec.upto carrierMonotoneSpec)

/-- 'drownerlaw02.CarrierGets', WHERE WHAT IT READS IS OF BULK AT MOST 1048576: true; the input reads as it did. -/
def carrierGetsUptoRow : OpenClaim := { program := "ytdadoelajhemjaa", sum := "7d67140503529cb8498450b8b11e53d5cd01b961124d58fec4cfcc4fb82585e2", func := "drowner/drownerlaw02.CarrierGets", spec := "carrierGets", unfollowed := true, recurses := true, apart := false, narrowed := true }
def CarrierGetsUptoSaid : Prop := carrierGetsUptoRow.holds Try.pinned (OpenSpec.upto carrierGetsSpec)

/-- 'drownerlaw02.CarrierSigns', WHERE WHAT IT READS IS OF BULK AT MOST 1048576: true; the input reads as it did. -/
def carrierSignsUptoRow : OpenClaim := { program := "ytdadoelajhemjaa", sum := "7d67140503529cb8498450b8b11e53d5cd01b961124d58fec4cfcc4fb82585e2", func := "drowner/drownerlaw02.CarrierSigns", spec := "carrierSigns", unfollowed := true, recurses := true, apart := false, narrowed := true }
def CarrierSignsUptoSaid : Prop := carrierSignsUptoRow.holds Try.pinned (OpenSpec.upto carrierSignsSpec)

/-- 'drownerlaw02.CarrierRuns', WHERE WHAT IT READS IS OF BULK AT MOST 1048576: true; the input reads as it did. -/
def carrierRunsUptoRow : OpenClaim := { program := "ytdadoelajhemjaa", sum := "7d67140503529cb8498450b8b11e53d5cd01b961124d58fec4cfcc4fb82585e2", func := "drowner/drownerlaw02.CarrierRuns", spec := "carrierRuns", unfollowed := true, recurses := true, apart := false, narrowed := true }
def CarrierRunsUptoSaid : Prop := carrierRunsUptoRow.holds Try.pinned (OpenSpec.upto carrierRunsSpec)

/-- 'drownerlaw02.CarrierCases', WHERE WHAT IT READS IS OF BULK AT MOST 1048576: true; the input reads as it did. -/
def carrierCasesUptoRow : OpenClaim := { program := "ytdadoelajhemjaa", sum := "7d67140503529cb8498450b8b11e53d5cd01b961124d58fec4cfcc4fb82585e2", func := "drowner/drownerlaw02.CarrierCases", spec := "carrierCases", unfollowed := true, recurses := true, apart := false, narrowed := true }
def CarrierCasesUptoSaid : Prop := carrierCasesUptoRow.holds Try.pinned (OpenSpec.upto carrierCasesSpec)

/-- 'drownerlaw02.CarrierDrinks', WHERE WHAT IT READS IS OF BULK AT MOST 1048576: true; the input reads as it did. -/
def carrierDrinksUptoRow : OpenClaim := { program := "ytdadoelajhemjaa", sum := "7d67140503529cb8498450b8b11e53d5cd01b961124d58fec4cfcc4fb82585e2", func := "drowner/drownerlaw02.CarrierDrinks", spec := "carrierDrinks", unfollowed := true, recurses := true, apart := false, narrowed := true }
def CarrierDrinksUptoSaid : Prop := carrierDrinksUptoRow.holds Try.pinned (OpenSpec.upto carrierDrinksSpec)

/-- 'drownerlaw02.CarrierWithout', WHERE WHAT IT READS IS OF BULK AT MOST 1048576: true; the input reads as it did. -/
def carrierWithoutUptoRow : OpenClaim := { program := "ytdadoelajhemjaa", sum := "7d67140503529cb8498450b8b11e53d5cd01b961124d58fec4cfcc4fb82585e2", func := "drowner/drownerlaw02.CarrierWithout", spec := "carrierWithout", unfollowed := true, recurses := true, apart := false, narrowed := true }
def CarrierWithoutUptoSaid : Prop := carrierWithoutUptoRow.holds Try.pinned (OpenSpec.upto carrierWithoutSpec)

/-- 'drownerlaw02.CarrierEnds', WHERE WHAT IT READS IS OF BULK AT MOST 1048576: true; the input reads as it did. -/
def carrierEndsUptoRow : OpenClaim := { program := "ytdadoelajhemjaa", sum := "7d67140503529cb8498450b8b11e53d5cd01b961124d58fec4cfcc4fb82585e2", func := "drowner/drownerlaw02.CarrierEnds", spec := "carrierEnds", unfollowed := true, recurses := true, apart := false, narrowed := true }
def CarrierEndsUptoSaid : Prop := carrierEndsUptoRow.holds Try.pinned (OpenSpec.upto carrierEndsSpec)

/-- 'drownerlaw02.CarrierLeft', WHERE WHAT IT READS IS OF BULK AT MOST 1048576: true; the input reads as it did. -/
def carrierLeftUptoRow : OpenClaim := { program := "ytdadoelajhemjaa", sum := "7d67140503529cb8498450b8b11e53d5cd01b961124d58fec4cfcc4fb82585e2", func := "drowner/drownerlaw02.CarrierLeft", spec := "carrierLeft", unfollowed := true, recurses := true, apart := false, narrowed := true }
def CarrierLeftUptoSaid : Prop := carrierLeftUptoRow.holds Try.pinned (OpenSpec.upto carrierLeftSpec)

/-- 'drownerlaw02.CarrierBetween', WHERE WHAT IT READS IS OF BULK AT MOST 1048576: true; the input reads as it did. -/
def carrierBetweenUptoRow : OpenClaim := { program := "ytdadoelajhemjaa", sum := "7d67140503529cb8498450b8b11e53d5cd01b961124d58fec4cfcc4fb82585e2", func := "drowner/drownerlaw02.CarrierBetween", spec := "carrierBetween", unfollowed := true, recurses := true, apart := false, narrowed := true }
def CarrierBetweenUptoSaid : Prop := carrierBetweenUptoRow.holds Try.pinned (OpenSpec.upto carrierBetweenSpec)

/-- 'drownerlaw02.CarrierChecks', WHERE WHAT IT READS IS OF BULK AT MOST 1048576: true; the input reads as it did. -/
def carrierChecksUptoRow : OpenClaim := { program := "ytdadoelajhemjaa", sum := "7d67140503529cb8498450b8b11e53d5cd01b961124d58fec4cfcc4fb82585e2", func := "drowner/drownerlaw02.CarrierChecks", spec := "carrierChecks", unfollowed := true, recurses := true, apart := false, narrowed := true }
def CarrierChecksUptoSaid : Prop := carrierChecksUptoRow.holds Try.pinned (OpenSpec.upto carrierChecksSpec)

end Rows
end Go.Proofs.Ytdadoelajhemjaa
