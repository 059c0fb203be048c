/-
  No cell of these rows narrows 'for every input' (looked for: loops, veiled, ifaces, maps, wideKeys, modest, calm, conditions, laid).
  DERIVED. THE GIVEN ROWS OF THIS SEAT. 12 by the template 'for every input the law returns true; each argument reads behind the call as it read before'; 0 by the template 'total and deterministic' (their statements: YtbgppkgcdmpajaaTotals.lean).
  GIVEN WITH THE SEED: the statements are not yours to turn. If you find one false, say at which input.
  Laid BY PROGRAM, IN A SANDBOX (cutbox-rows.mjs): the forced cells as the released guide's own fill.sh prints them over the translation f12134dcd3cf824b… (all of the seat's roots in one cut). By AI agents, Wed Nov 11 2026. No macro, syntax, notation, axiom, sorry.
-/
import Derived.Test.YtbgppkgcdmpajaaChecked
import GoSem.Claim
import GoSem.ClaimJoined
import GoSem.ClaimMapViews
import Derived.JoinedTies
import Derived.KernelRfl
namespace Go.Proofs.Ytbgppkgcdmpajaa
/- THE CELL 'sum', in the pinned program and in every row, IS THE sha256 OF THE DUMP (.gsa) THAT YtbgppkgcdmpajaaProg.lean LOADS. Nothing in Lean hashes anything: it is a label: what it is worth is what the hold of that sum in a sandbox is worth. -/
noncomputable def Try.pinned : Pinned := { name := "ytbgppkgcdmpajaa", sum := "f12134dcd3cf824baac954394b26260611539b87c11ac3497e78ebe9fc33a7ae", checked := Try.checked }
namespace Rows
def none {H : Type} : Left H := { results := [], args := [] }

/-- 'astragallaw04.MersFolds': WHATEVER THE INPUT: true; the input reads as it did. -/
def mersFoldsSpec : ChangeSpec := { name := "mersFolds", fn := fun _ => fun
  | [d1, d2] => { results := [.lit (.bool true)], args := [d1, d2] }
  | _ => none }
def mersFoldsRow : OpenClaim := { program := "ytbgppkgcdmpajaa", sum := "f12134dcd3cf824baac954394b26260611539b87c11ac3497e78ebe9fc33a7ae", func := "astragal/astragallaw04.MersFolds", spec := "mersFolds", inPlace := ["math/bits.Add64"], unfollowed := true, recurses := true, apart := false }
def MersFoldsSaid : Prop := mersFoldsRow.holds Try.pinned (OpenSpec.ofChange mersFoldsSpec)

/-- ITS FALSE NEIGHBOUR: 'it returns false'. Refute it at one input. -/
def mersFoldsWrong : ChangeSpec := { name := "mersFolds", fn := fun _ => fun
  | [d1, d2] => { results := [.lit (.bool false)], args := [d1, d2] }
  | _ => none }
def MersFoldsWrongFalsely : Prop := mersFoldsRow.holds Try.pinned (OpenSpec.ofChange mersFoldsWrong)

/-- 'astragallaw04.MersPowers': WHATEVER THE INPUT: true; the input reads as it did. -/
def mersPowersSpec : ChangeSpec := { name := "mersPowers", fn := fun _ => fun
  | [d1, d2, d3] => { results := [.lit (.bool true)], args := [d1, d2, d3] }
  | _ => none }
def mersPowersRow : OpenClaim := { program := "ytbgppkgcdmpajaa", sum := "f12134dcd3cf824baac954394b26260611539b87c11ac3497e78ebe9fc33a7ae", func := "astragal/astragallaw04.MersPowers", spec := "mersPowers", inPlace := ["math/bits.Add64"], unfollowed := true, recurses := true, apart := false }
def MersPowersSaid : Prop := mersPowersRow.holds Try.pinned (OpenSpec.ofChange mersPowersSpec)

/-- ITS FALSE NEIGHBOUR: 'it returns false'. Refute it at one input. -/
def mersPowersWrong : ChangeSpec := { name := "mersPowers", fn := fun _ => fun
  | [d1, d2, d3] => { results := [.lit (.bool false)], args := [d1, d2, d3] }
  | _ => none }
def MersPowersWrongFalsely : Prop := mersPowersRow.holds Try.pinned (OpenSpec.ofChange mersPowersWrong)

/-- 'astragallaw04.MersInverts': WHATEVER THE INPUT: true; the input reads as it did. -/
def mersInvertsSpec : ChangeSpec := { name := "mersInverts", fn := fun _ => fun
  | [d1, d2, d3] => { results := [.lit (.bool true)], args := [d1, d2, d3] }
  | _ => none }
def mersInvertsRow : OpenClaim := { program := "ytbgppkgcdmpajaa", sum := "f12134dcd3cf824baac954394b26260611539b87c11ac3497e78ebe9fc33a7ae", func := "astragal/astragallaw04.MersInverts", spec := "mersInverts", inPlace := ["math/bits.Add64"], unfollowed := true, recurses := true, apart := false }
def MersInvertsSaid : Prop := mersInvertsRow.holds Try.pinned (OpenSpec.ofChange mersInvertsSpec)

/-- ITS FALSE NEIGHBOUR: 'it returns false'. Refute it at one input. -/
def mersInvertsWrong : ChangeSpec := { name := "mersInverts", fn := fun _ => fun
  | [d1, d2, d3] => { results := [.lit (.bool false)], args := [d1, d2, d3] }
  | _ => none }
def MersInvertsWrongFalsely : Prop := mersInvertsRow.holds Try.pinned (OpenSpec.ofChange mersInvertsWrong)

/-- 'astragallaw04.MersReckons': WHATEVER THE INPUT: true; the input reads as it did. -/
def mersReckonsSpec : ChangeSpec := { name := "mersReckons", fn := fun _ => fun
  | [d1, d2, d3] => { results := [.lit (.bool true)], args := [d1, d2, d3] }
  | _ => none }
def mersReckonsRow : OpenClaim := { program := "ytbgppkgcdmpajaa", sum := "f12134dcd3cf824baac954394b26260611539b87c11ac3497e78ebe9fc33a7ae", func := "astragal/astragallaw04.MersReckons", spec := "mersReckons", inPlace := ["math/bits.Add64"], unfollowed := true, recurses := true, apart := false }
def MersReckonsSaid : Prop := mersReckonsRow.holds Try.pinned (OpenSpec.ofChange mersReckonsSpec)

/-- ITS FALSE NEIGHBOUR: 'it returns false'. Refute it at one input. -/
def mersReckonsWrong : ChangeSpec := { name := "mersReckons", fn := fun _ => fun
  | [d1, d2, d3] => { results := [.lit (.bool false)], args := [d1, d2, d3] }
  | _ => none }
def MersReckonsWrongFalsely : Prop := mersReckonsRow.holds Try.pinned (OpenSpec.ofChange mersReckonsWrong)

/-- 'astragallaw18.PolyEvals': WHATEVER THE INPUT: true; the input reads as it did. -/
def polyEvalsSpec : ChangeSpec := { name := "polyEvals", fn := fun _ => fun
  | [d1, d2] => { results := [.lit (.bool true)], args := [d1, d2] }
  | _ => none }
def polyEvalsRow : OpenClaim := { program := "ytbgppkgcdmpajaa", sum := "f12134dcd3cf824baac954394b26260611539b87c11ac3497e78ebe9fc33a7ae", func := "astragal/astragallaw18.PolyEvals", spec := "polyEvals", inPlace := ["math/bits.Add64"], unfollowed := true, recurses := true, apart := false }
def PolyEvalsSaid : Prop := polyEvalsRow.holds Try.pinned (OpenSpec.ofChange polyEvalsSpec)

/-- ITS FALSE NEIGHBOUR: 'it returns false'. Refute it at one input. -/
def polyEvalsWrong : ChangeSpec := { name := "polyEvals", fn := fun _ => fun
  | [d1, d2] => { results := [.lit (.bool false)], args := [d1, d2] }
  | _ => none }
def PolyEvalsWrongFalsely : Prop := polyEvalsRow.holds Try.pinned (OpenSpec.ofChange polyEvalsWrong)

/-- 'astragallaw18.PolyDivides': WHATEVER THE INPUT: true; the input reads as it did. -/
def polyDividesSpec : ChangeSpec := { name := "polyDivides", fn := fun _ => fun
  | [d1, d2] => { results := [.lit (.bool true)], args := [d1, d2] }
  | _ => none }
def polyDividesRow : OpenClaim := { program := "ytbgppkgcdmpajaa", sum := "f12134dcd3cf824baac954394b26260611539b87c11ac3497e78ebe9fc33a7ae", func := "astragal/astragallaw18.PolyDivides", spec := "polyDivides", inPlace := ["math/bits.Add64"], unfollowed := true, recurses := true, apart := false }
def PolyDividesSaid : Prop := polyDividesRow.holds Try.pinned (OpenSpec.ofChange polyDividesSpec)

/-- ITS FALSE NEIGHBOUR: 'it returns false'. Refute it at one input. -/
def polyDividesWrong : ChangeSpec := { name := "polyDivides", fn := fun _ => fun
  | [d1, d2] => { results := [.lit (.bool false)], args := [d1, d2] }
  | _ => none }
def PolyDividesWrongFalsely : Prop := polyDividesRow.holds Try.pinned (OpenSpec.ofChange polyDividesWrong)

/-- 'astragallaw18.PolyReckons': WHATEVER THE INPUT: true; the input reads as it did. -/
def polyReckonsSpec : ChangeSpec := { name := "polyReckons", fn := fun _ => fun
  | [d1, d2, d3] => { results := [.lit (.bool true)], args := [d1, d2, d3] }
  | _ => none }
def polyReckonsRow : OpenClaim := { program := "ytbgppkgcdmpajaa", sum := "f12134dcd3cf824baac954394b26260611539b87c11ac3497e78ebe9fc33a7ae", func := "astragal/astragallaw18.PolyReckons", spec := "polyReckons", inPlace := ["math/bits.Add64"], unfollowed := true, recurses := true, apart := false }
def PolyReckonsSaid : Prop := polyReckonsRow.holds Try.pinned (OpenSpec.ofChange polyReckonsSpec)

/-- ITS FALSE NEIGHBOUR: 'it returns false'. Refute it at one input. -/
def polyReckonsWrong : ChangeSpec := { name := "polyReckons", fn := fun _ => fun
  | [d1, d2, d3] => { results := [.lit (.bool false)], args := [d1, d2, d3] }
  | _ => none }
def PolyReckonsWrongFalsely : Prop := polyReckonsRow.holds Try.pinned (OpenSpec.ofChange polyReckonsWrong)

/-- 'astragallaw18.PolyRoots': WHATEVER THE INPUT: true; the input reads as it did. -/
def polyRootsSpec : ChangeSpec := { name := "polyRoots", fn := fun _ => fun
  | [d1, d2] => { results := [.lit (.bool true)], args := [d1, d2] }
  | _ => none }
def polyRootsRow : OpenClaim := { program := "ytbgppkgcdmpajaa", sum := "f12134dcd3cf824baac954394b26260611539b87c11ac3497e78ebe9fc33a7ae", func := "astragal/astragallaw18.PolyRoots", spec := "polyRoots", inPlace := ["math/bits.Add64"], unfollowed := true, recurses := true, apart := false }
def PolyRootsSaid : Prop := polyRootsRow.holds Try.pinned (OpenSpec.ofChange polyRootsSpec)

/-- ITS FALSE NEIGHBOUR: 'it returns false'. Refute it at one input. -/
def polyRootsWrong : ChangeSpec := { name := "polyRoots", fn := fun _ => fun
  | [d1, d2] => { results := [.lit (.bool false)], args := [d1, d2] }
  | _ => none }
def PolyRootsWrongFalsely : Prop := polyRootsRow.holds Try.pinned (OpenSpec.ofChange polyRootsWrong)

/-- 'astragallaw19.ThroughPoints': WHATEVER THE INPUT: true; the input reads as it did. -/
def throughPointsSpec : ChangeSpec := { name := "throughPoints", fn := fun _ => fun
  | [d1, d2] => { results := [.lit (.bool true)], args := [d1, d2] }
  | _ => none }
def throughPointsRow : OpenClaim := { program := "ytbgppkgcdmpajaa", sum := "f12134dcd3cf824baac954394b26260611539b87c11ac3497e78ebe9fc33a7ae", func := "astragal/astragallaw19.ThroughPoints", spec := "throughPoints", inPlace := ["math/bits.Add64"], unfollowed := true, recurses := true, apart := false }
def ThroughPointsSaid : Prop := throughPointsRow.holds Try.pinned (OpenSpec.ofChange throughPointsSpec)

/-- ITS FALSE NEIGHBOUR: 'it returns false'. Refute it at one input. -/
def throughPointsWrong : ChangeSpec := { name := "throughPoints", fn := fun _ => fun
  | [d1, d2] => { results := [.lit (.bool false)], args := [d1, d2] }
  | _ => none }
def ThroughPointsWrongFalsely : Prop := throughPointsRow.holds Try.pinned (OpenSpec.ofChange throughPointsWrong)

/-- 'astragallaw19.ThroughOnly': WHATEVER THE INPUT: true; the input reads as it did. -/
def throughOnlySpec : ChangeSpec := { name := "throughOnly", fn := fun _ => fun
  | [d1, d2] => { results := [.lit (.bool true)], args := [d1, d2] }
  | _ => none }
def throughOnlyRow : OpenClaim := { program := "ytbgppkgcdmpajaa", sum := "f12134dcd3cf824baac954394b26260611539b87c11ac3497e78ebe9fc33a7ae", func := "astragal/astragallaw19.ThroughOnly", spec := "throughOnly", inPlace := ["math/bits.Add64"], unfollowed := true, recurses := true, apart := false }
def ThroughOnlySaid : Prop := throughOnlyRow.holds Try.pinned (OpenSpec.ofChange throughOnlySpec)

/-- ITS FALSE NEIGHBOUR: 'it returns false'. Refute it at one input. -/
def throughOnlyWrong : ChangeSpec := { name := "throughOnly", fn := fun _ => fun
  | [d1, d2] => { results := [.lit (.bool false)], args := [d1, d2] }
  | _ => none }
def ThroughOnlyWrongFalsely : Prop := throughOnlyRow.holds Try.pinned (OpenSpec.ofChange throughOnlyWrong)

/-- 'astragallaw19.ThroughShifts': WHATEVER THE INPUT: true; the input reads as it did. -/
def throughShiftsSpec : ChangeSpec := { name := "throughShifts", fn := fun _ => fun
  | [d1, d2, d3] => { results := [.lit (.bool true)], args := [d1, d2, d3] }
  | _ => none }
def throughShiftsRow : OpenClaim := { program := "ytbgppkgcdmpajaa", sum := "f12134dcd3cf824baac954394b26260611539b87c11ac3497e78ebe9fc33a7ae", func := "astragal/astragallaw19.ThroughShifts", spec := "throughShifts", inPlace := ["math/bits.Add64"], unfollowed := true, recurses := true, apart := false }
def ThroughShiftsSaid : Prop := throughShiftsRow.holds Try.pinned (OpenSpec.ofChange throughShiftsSpec)

/-- ITS FALSE NEIGHBOUR: 'it returns false'. Refute it at one input. -/
def throughShiftsWrong : ChangeSpec := { name := "throughShifts", fn := fun _ => fun
  | [d1, d2, d3] => { results := [.lit (.bool false)], args := [d1, d2, d3] }
  | _ => none }
def ThroughShiftsWrongFalsely : Prop := throughShiftsRow.holds Try.pinned (OpenSpec.ofChange throughShiftsWrong)

/-- 'astragallaw19.ThroughValues': WHATEVER THE INPUT: true; the input reads as it did. -/
def throughValuesSpec : ChangeSpec := { name := "throughValues", fn := fun _ => fun
  | [d1, d2] => { results := [.lit (.bool true)], args := [d1, d2] }
  | _ => none }
def throughValuesRow : OpenClaim := { program := "ytbgppkgcdmpajaa", sum := "f12134dcd3cf824baac954394b26260611539b87c11ac3497e78ebe9fc33a7ae", func := "astragal/astragallaw19.ThroughValues", spec := "throughValues", inPlace := ["math/bits.Add64"], unfollowed := true, recurses := true, apart := false }
def ThroughValuesSaid : Prop := throughValuesRow.holds Try.pinned (OpenSpec.ofChange throughValuesSpec)

/-- ITS FALSE NEIGHBOUR: 'it returns false'. Refute it at one input. -/
def throughValuesWrong : ChangeSpec := { name := "throughValues", fn := fun _ => fun
  | [d1, d2] => { results := [.lit (.bool false)], args := [d1, d2] }
  | _ => none }
def ThroughValuesWrongFalsely : Prop := throughValuesRow.holds Try.pinned (OpenSpec.ofChange throughValuesWrong)

/- THE SECOND FORM. 'bulk': how many values and letters a reading holds, each counted each time it is reached (what is shared counts as often as it is met; a slice's spare places count too). A statement '..UptoSaid' is the law's where the arguments, and the package variables that the reading takes, are together of bulk at most 1048576: NARROWER than '..Said'. Prove '..Said' where nothing that the law and all that it calls make is longer than what came in: it says more and counts as full. Else prove '..UptoSaid'. A law counts once. -/
mutual
def uptoBulk {H : Type} : DataW H → Nat
  | .lit (.string bytes) => bytes.length + 1
  | .lit _ => 1
  | .nil => 1
  | .ptr d => uptoBulk d + 1
  | .slice elems spare => uptoBulkAll elems + uptoBulkAll spare + 1
  | .agg parts => uptoBulkAll parts + 1
  | .iface _ d => uptoBulk d + 1
  | .map entries => uptoBulkEntries entries + 1
  | .held _ => 1
def uptoBulkAll {H : Type} : List (DataW H) → Nat
  | [] => 0
  | d :: r => uptoBulk d + uptoBulkAll r
def uptoBulkEntries {H : Type} : List (Lit × DataW H) → Nat
  | [] => 0
  | x :: r => uptoBulkEntry x + uptoBulkEntries r
def uptoBulkEntry {H : Type} : Lit × DataW H → Nat
  | (.string bytes, d) => bytes.length + uptoBulk d + 1
  | (_, d) => uptoBulk d + 1
 end
def uptoSmall : (H : Type) → List (DataW H) → Bool := fun _ ds => decide (uptoBulkAll ds ≤ 1048576)
def OpenSpec.upto (s : _root_.Go.ChangeSpec) : _root_.Go.OpenSpec := { _root_.Go.OpenSpec.ofChange s with cond := some uptoSmall }

/-- 'astragallaw04.MersFolds', WHERE WHAT IT READS IS OF BULK AT MOST 1048576: true; the input reads as it did. -/
def mersFoldsUptoRow : OpenClaim := { program := "ytbgppkgcdmpajaa", sum := "f12134dcd3cf824baac954394b26260611539b87c11ac3497e78ebe9fc33a7ae", func := "astragal/astragallaw04.MersFolds", spec := "mersFolds", inPlace := ["math/bits.Add64"], unfollowed := true, recurses := true, apart := false, narrowed := true }
def MersFoldsUptoSaid : Prop := mersFoldsUptoRow.holds Try.pinned (OpenSpec.upto mersFoldsSpec)

/-- 'astragallaw04.MersPowers', WHERE WHAT IT READS IS OF BULK AT MOST 1048576: true; the input reads as it did. -/
def mersPowersUptoRow : OpenClaim := { program := "ytbgppkgcdmpajaa", sum := "f12134dcd3cf824baac954394b26260611539b87c11ac3497e78ebe9fc33a7ae", func := "astragal/astragallaw04.MersPowers", spec := "mersPowers", inPlace := ["math/bits.Add64"], unfollowed := true, recurses := true, apart := false, narrowed := true }
def MersPowersUptoSaid : Prop := mersPowersUptoRow.holds Try.pinned (OpenSpec.upto mersPowersSpec)

/-- 'astragallaw04.MersInverts', WHERE WHAT IT READS IS OF BULK AT MOST 1048576: true; the input reads as it did. -/
def mersInvertsUptoRow : OpenClaim := { program := "ytbgppkgcdmpajaa", sum := "f12134dcd3cf824baac954394b26260611539b87c11ac3497e78ebe9fc33a7ae", func := "astragal/astragallaw04.MersInverts", spec := "mersInverts", inPlace := ["math/bits.Add64"], unfollowed := true, recurses := true, apart := false, narrowed := true }
def MersInvertsUptoSaid : Prop := mersInvertsUptoRow.holds Try.pinned (OpenSpec.upto mersInvertsSpec)

/-- 'astragallaw04.MersReckons', WHERE WHAT IT READS IS OF BULK AT MOST 1048576: true; the input reads as it did. -/
def mersReckonsUptoRow : OpenClaim := { program := "ytbgppkgcdmpajaa", sum := "f12134dcd3cf824baac954394b26260611539b87c11ac3497e78ebe9fc33a7ae", func := "astragal/astragallaw04.MersReckons", spec := "mersReckons", inPlace := ["math/bits.Add64"], unfollowed := true, recurses := true, apart := false, narrowed := true }
def MersReckonsUptoSaid : Prop := mersReckonsUptoRow.holds Try.pinned (OpenSpec.upto mersReckonsSpec)

/-- 'astragallaw18.PolyEvals', WHERE WHAT IT READS IS OF BULK AT MOST 1048576: true; the input reads as it did. -/
def polyEvalsUptoRow : OpenClaim := { program := "ytbgppkgcdmpajaa", sum := "f12134dcd3cf824baac954394b26260611539b87c11ac3497e78ebe9fc33a7ae", func := "astragal/astragallaw18.PolyEvals", spec := "polyEvals", inPlace := ["math/bits.Add64"], unfollowed := true, recurses := true, apart := false, narrowed := true }
def PolyEvalsUptoSaid : Prop := polyEvalsUptoRow.holds Try.pinned (OpenSpec.upto polyEvalsSpec)

/-- 'astragallaw18.PolyDivides', WHERE WHAT IT READS IS OF BULK AT MOST 1048576: true; the input reads as it did. -/
def polyDividesUptoRow : OpenClaim := { program := "ytbgppkgcdmpajaa", sum := "f12134dcd3cf824baac954394b26260611539b87c11ac3497e78ebe9fc33a7ae", func := "astragal/astragallaw18.PolyDivides", spec := "polyDivides", inPlace := ["math/bits.Add64"], unfollowed := true, recurses := true, apart := false, narrowed := true }
def PolyDividesUptoSaid : Prop := polyDividesUptoRow.holds Try.pinned (OpenSpec.upto polyDividesSpec)

/-- 'astragallaw18.PolyReckons', WHERE WHAT IT READS IS OF BULK AT MOST 1048576: true; the input reads as it did. -/
def polyReckonsUptoRow : OpenClaim := { program := "ytbgppkgcdmpajaa", sum := "f12134dcd3cf824baac954394b26260611539b87c11ac3497e78ebe9fc33a7ae", func := "astragal/astragallaw18.PolyReckons", spec := "polyReckons", inPlace := ["math/bits.Add64"], unfollowed := true, recurses := true, apart := false, narrowed := true }
def PolyReckonsUptoSaid : Prop := polyReckonsUptoRow.holds Try.pinned (OpenSpec.upto polyReckonsSpec)

/-- 'astragallaw18.PolyRoots', WHERE WHAT IT READS IS OF BULK AT MOST 1048576: true; the input reads as it did. -/
def polyRootsUptoRow : OpenClaim := { program := "ytbgppkgcdmpajaa", sum := "f12134dcd3cf824baac954394b26260611539b87c11ac3497e78ebe9fc33a7ae", func := "astragal/astragallaw18.PolyRoots", spec := "polyRoots", inPlace := ["math/bits.Add64"], unfollowed := true, recurses := true, apart := false, narrowed := true }
def PolyRootsUptoSaid : Prop := polyRootsUptoRow.holds Try.pinned (OpenSpec.upto polyRootsSpec)

/-- 'astragallaw19.ThroughPoints', WHERE WHAT IT READS IS OF BULK AT MOST 1048576: true; the input reads as it did. -/
def throughPointsUptoRow : OpenClaim := { program := "ytbgppkgcdmpajaa", sum := "f12134dcd3cf824baac954394b26260611539b87c11ac3497e78ebe9fc33a7ae", func := "astragal/astragallaw19.ThroughPoints", spec := "throughPoints", inPlace := ["math/bits.Add64"], unfollowed := true, recurses := true, apart := false, narrowed := true }
def ThroughPointsUptoSaid : Prop := throughPointsUptoRow.holds Try.pinned (OpenSpec.upto throughPointsSpec)

/-- 'astragallaw19.ThroughOnly', WHERE WHAT IT READS IS OF BULK AT MOST 1048576: true; the input reads as it did. -/
def throughOnlyUptoRow : OpenClaim := { program := "ytbgppkgcdmpajaa", sum := "f12134dcd3cf824baac954394b26260611539b87c11ac3497e78ebe9fc33a7ae", func := "astragal/astragallaw19.ThroughOnly", spec := "throughOnly", inPlace := ["math/bits.Add64"], unfollowed := true, recurses := true, apart := false, narrowed := true }
def ThroughOnlyUptoSaid : Prop := throughOnlyUptoRow.holds Try.pinned (OpenSpec.upto throughOnlySpec)

/-- 'astragallaw19.ThroughShifts', WHERE WHAT IT READS IS OF BULK AT MOST 1048576: true; the input reads as it did. -/
def throughShiftsUptoRow : OpenClaim := { program := "ytbgppkgcdmpajaa", sum := "f12134dcd3cf824baac954394b26260611539b87c11ac3497e78ebe9fc33a7ae", func := "astragal/astragallaw19.ThroughShifts", spec := "throughShifts", inPlace := ["math/bits.Add64"], unfollowed := true, recurses := true, apart := false, narrowed := true }
def ThroughShiftsUptoSaid : Prop := throughShiftsUptoRow.holds Try.pinned (OpenSpec.upto throughShiftsSpec)

/-- 'astragallaw19.ThroughValues', WHERE WHAT IT READS IS OF BULK AT MOST 1048576: true; the input reads as it did. -/
def throughValuesUptoRow : OpenClaim := { program := "ytbgppkgcdmpajaa", sum := "f12134dcd3cf824baac954394b26260611539b87c11ac3497e78ebe9fc33a7ae", func := "astragal/astragallaw19.ThroughValues", spec := "throughValues", inPlace := ["math/bits.Add64"], unfollowed := true, recurses := true, apart := false, narrowed := true }
def ThroughValuesUptoSaid : Prop := throughValuesUptoRow.holds Try.pinned (OpenSpec.upto throughValuesSpec)

end Rows
end Go.Proofs.Ytbgppkgcdmpajaa
