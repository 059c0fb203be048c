/-
  No cell of these rows narrows 'for every input' (looked for: loops, veiled, ifaces, maps, wideKeys, modest, calm, conditions, laid).
  DERIVED. THE GIVEN ROWS OF THIS SEAT. 10 by the template 'for every input the law returns true; each argument reads behind the call as it read before'; 0 by the template 'total and deterministic' (their statements: YtioieoinkjfcfaaTotals.lean).
  GIVEN WITH THE SEED: the statements are not yours to turn. If you find one false, say at which input.
  Laid BY PROGRAM, IN A SANDBOX (cutbox-rows.mjs): the forced cells as the released guide's own fill.sh prints them over the translation 684d96c4266e93cb… (all of the seat's roots in one cut). By AI agents, Wed Nov 11 2026. No macro, syntax, notation, axiom, sorry.
-/
import Derived.Test.YtioieoinkjfcfaaChecked
import GoSem.Claim
import GoSem.ClaimJoined
import GoSem.ClaimMapViews
import Derived.JoinedTies
import Derived.KernelRfl
namespace Go.Proofs.Ytioieoinkjfcfaa
/- THE CELL 'sum', in the pinned program and in every row, IS THE sha256 OF THE DUMP (.gsa) THAT YtioieoinkjfcfaaProg.lean LOADS. Nothing in Lean hashes anything: it is a label: what it is worth is what the hold of that sum in a sandbox is worth. -/
noncomputable def Try.pinned : Pinned := { name := "ytioieoinkjfcfaa", sum := "684d96c4266e93cbc4143886d75c162056eca159a9abd2718a51c5ead8c00bb7", checked := Try.checked }
namespace Rows
def none {H : Type} : Left H := { results := [], args := [] }

/-- 'astragallaw01.WideFours': WHATEVER THE INPUT: true; the input reads as it did. -/
def wideFoursSpec : ChangeSpec := { name := "wideFours", fn := fun _ => fun
  | [d1, d2, d3] => { results := [.lit (.bool true)], args := [d1, d2, d3] }
  | _ => none }
def wideFoursRow : OpenClaim := { program := "ytioieoinkjfcfaa", sum := "684d96c4266e93cbc4143886d75c162056eca159a9abd2718a51c5ead8c00bb7", func := "astragal/astragallaw01.WideFours", spec := "wideFours", inPlace := ["math/bits.Add64", "math/bits.Sub64"], apart := false }
def WideFoursSaid : Prop := wideFoursRow.holds Try.pinned (OpenSpec.ofChange wideFoursSpec)

/-- ITS FALSE NEIGHBOUR: 'it returns false'. Refute it at one input. -/
def wideFoursWrong : ChangeSpec := { name := "wideFours", fn := fun _ => fun
  | [d1, d2, d3] => { results := [.lit (.bool false)], args := [d1, d2, d3] }
  | _ => none }
def WideFoursWrongFalsely : Prop := wideFoursRow.holds Try.pinned (OpenSpec.ofChange wideFoursWrong)

/-- 'astragallaw05.Mers89Powers': WHATEVER THE INPUT: true; the input reads as it did. -/
def mers89PowersSpec : ChangeSpec := { name := "mers89Powers", fn := fun _ => fun
  | [d1, d2, d3] => { results := [.lit (.bool true)], args := [d1, d2, d3] }
  | _ => none }
def mers89PowersRow : OpenClaim := { program := "ytioieoinkjfcfaa", sum := "684d96c4266e93cbc4143886d75c162056eca159a9abd2718a51c5ead8c00bb7", func := "astragal/astragallaw05.Mers89Powers", spec := "mers89Powers", inPlace := ["math/bits.Add64", "math/bits.Sub64"], unfollowed := true, recurses := true, apart := false }
def Mers89PowersSaid : Prop := mers89PowersRow.holds Try.pinned (OpenSpec.ofChange mers89PowersSpec)

/-- ITS FALSE NEIGHBOUR: 'it returns false'. Refute it at one input. -/
def mers89PowersWrong : ChangeSpec := { name := "mers89Powers", fn := fun _ => fun
  | [d1, d2, d3] => { results := [.lit (.bool false)], args := [d1, d2, d3] }
  | _ => none }
def Mers89PowersWrongFalsely : Prop := mers89PowersRow.holds Try.pinned (OpenSpec.ofChange mers89PowersWrong)

/-- 'astragallaw05.Mers89Inverts': WHATEVER THE INPUT: true; the input reads as it did. -/
def mers89InvertsSpec : ChangeSpec := { name := "mers89Inverts", fn := fun _ => fun
  | [d1, d2] => { results := [.lit (.bool true)], args := [d1, d2] }
  | _ => none }
def mers89InvertsRow : OpenClaim := { program := "ytioieoinkjfcfaa", sum := "684d96c4266e93cbc4143886d75c162056eca159a9abd2718a51c5ead8c00bb7", func := "astragal/astragallaw05.Mers89Inverts", spec := "mers89Inverts", inPlace := ["math/bits.Add64", "math/bits.Sub64"], unfollowed := true, recurses := true, apart := false }
def Mers89InvertsSaid : Prop := mers89InvertsRow.holds Try.pinned (OpenSpec.ofChange mers89InvertsSpec)

/-- ITS FALSE NEIGHBOUR: 'it returns false'. Refute it at one input. -/
def mers89InvertsWrong : ChangeSpec := { name := "mers89Inverts", fn := fun _ => fun
  | [d1, d2] => { results := [.lit (.bool false)], args := [d1, d2] }
  | _ => none }
def Mers89InvertsWrongFalsely : Prop := mers89InvertsRow.holds Try.pinned (OpenSpec.ofChange mers89InvertsWrong)

/-- 'astragallaw01.WideTexts': WHATEVER THE INPUT: true; the input reads as it did. -/
def wideTextsSpec : ChangeSpec := { name := "wideTexts", fn := fun _ => fun
  | [d1, d2] => { results := [.lit (.bool true)], args := [d1, d2] }
  | _ => none }
def wideTextsRow : OpenClaim := { program := "ytioieoinkjfcfaa", sum := "684d96c4266e93cbc4143886d75c162056eca159a9abd2718a51c5ead8c00bb7", func := "astragal/astragallaw01.WideTexts", spec := "wideTexts", inPlace := ["math/bits.Add64"], named := ["math/bits.divideError", "math/bits.overflowError"], apart := false }
def WideTextsSaid : Prop := wideTextsRow.holds Try.pinned (OpenSpec.ofChange wideTextsSpec)

/-- ITS FALSE NEIGHBOUR: 'it returns false'. Refute it at one input. -/
def wideTextsWrong : ChangeSpec := { name := "wideTexts", fn := fun _ => fun
  | [d1, d2] => { results := [.lit (.bool false)], args := [d1, d2] }
  | _ => none }
def WideTextsWrongFalsely : Prop := wideTextsRow.holds Try.pinned (OpenSpec.ofChange wideTextsWrong)

/-- 'astragallaw05.Mers89Reckons': WHATEVER THE INPUT: true; the input reads as it did. -/
def mers89ReckonsSpec : ChangeSpec := { name := "mers89Reckons", fn := fun _ => fun
  | [d1, d2, d3] => { results := [.lit (.bool true)], args := [d1, d2, d3] }
  | _ => none }
def mers89ReckonsRow : OpenClaim := { program := "ytioieoinkjfcfaa", sum := "684d96c4266e93cbc4143886d75c162056eca159a9abd2718a51c5ead8c00bb7", func := "astragal/astragallaw05.Mers89Reckons", spec := "mers89Reckons", inPlace := ["math/bits.Add64", "math/bits.Sub64"], unfollowed := true, recurses := true, apart := false }
def Mers89ReckonsSaid : Prop := mers89ReckonsRow.holds Try.pinned (OpenSpec.ofChange mers89ReckonsSpec)

/-- ITS FALSE NEIGHBOUR: 'it returns false'. Refute it at one input. -/
def mers89ReckonsWrong : ChangeSpec := { name := "mers89Reckons", fn := fun _ => fun
  | [d1, d2, d3] => { results := [.lit (.bool false)], args := [d1, d2, d3] }
  | _ => none }
def Mers89ReckonsWrongFalsely : Prop := mers89ReckonsRow.holds Try.pinned (OpenSpec.ofChange mers89ReckonsWrong)

/-- 'astragallaw01.WideShifts': WHATEVER THE INPUT: true; the input reads as it did. -/
def wideShiftsSpec : ChangeSpec := { name := "wideShifts", fn := fun _ => fun
  | [d1, d2, d3] => { results := [.lit (.bool true)], args := [d1, d2, d3] }
  | _ => none }
def wideShiftsRow : OpenClaim := { program := "ytioieoinkjfcfaa", sum := "684d96c4266e93cbc4143886d75c162056eca159a9abd2718a51c5ead8c00bb7", func := "astragal/astragallaw01.WideShifts", spec := "wideShifts", inPlace := ["math/bits.Add64"], named := ["math/bits.divideError", "math/bits.overflowError"], apart := false }
def WideShiftsSaid : Prop := wideShiftsRow.holds Try.pinned (OpenSpec.ofChange wideShiftsSpec)

/-- ITS FALSE NEIGHBOUR: 'it returns false'. Refute it at one input. -/
def wideShiftsWrong : ChangeSpec := { name := "wideShifts", fn := fun _ => fun
  | [d1, d2, d3] => { results := [.lit (.bool false)], args := [d1, d2, d3] }
  | _ => none }
def WideShiftsWrongFalsely : Prop := wideShiftsRow.holds Try.pinned (OpenSpec.ofChange wideShiftsWrong)

/-- 'astragallaw26.RangesReduces': WHATEVER THE INPUT: true; the input reads as it did. -/
def rangesReducesSpec : ChangeSpec := { name := "rangesReduces", fn := fun _ => fun
  | [d1, d2, d3, d4] => { results := [.lit (.bool true)], args := [d1, d2, d3, d4] }
  | _ => none }
def rangesReducesRow : OpenClaim := { program := "ytioieoinkjfcfaa", sum := "684d96c4266e93cbc4143886d75c162056eca159a9abd2718a51c5ead8c00bb7", func := "astragal/astragallaw26.RangesReduces", spec := "rangesReduces", inPlace := ["math/bits.Add64", "math/bits.Sub64"], unfollowed := true, recurses := true, named := ["math/bits.divideError", "math/bits.overflowError"], apart := false }
def RangesReducesSaid : Prop := rangesReducesRow.holds Try.pinned (OpenSpec.ofChange rangesReducesSpec)

/-- ITS FALSE NEIGHBOUR: 'it returns false'. Refute it at one input. -/
def rangesReducesWrong : ChangeSpec := { name := "rangesReduces", fn := fun _ => fun
  | [d1, d2, d3, d4] => { results := [.lit (.bool false)], args := [d1, d2, d3, d4] }
  | _ => none }
def RangesReducesWrongFalsely : Prop := rangesReducesRow.holds Try.pinned (OpenSpec.ofChange rangesReducesWrong)

/-- 'astragallaw26.RangesCounts': WHATEVER THE INPUT: true; the input reads as it did. -/
def rangesCountsSpec : ChangeSpec := { name := "rangesCounts", fn := fun _ => fun
  | [d1, d2, d3] => { results := [.lit (.bool true)], args := [d1, d2, d3] }
  | _ => none }
def rangesCountsRow : OpenClaim := { program := "ytioieoinkjfcfaa", sum := "684d96c4266e93cbc4143886d75c162056eca159a9abd2718a51c5ead8c00bb7", func := "astragal/astragallaw26.RangesCounts", spec := "rangesCounts", inPlace := ["math/bits.Add64", "math/bits.Sub64"], unfollowed := true, recurses := true, named := ["math/bits.divideError", "math/bits.overflowError"], apart := false }
def RangesCountsSaid : Prop := rangesCountsRow.holds Try.pinned (OpenSpec.ofChange rangesCountsSpec)

/-- ITS FALSE NEIGHBOUR: 'it returns false'. Refute it at one input. -/
def rangesCountsWrong : ChangeSpec := { name := "rangesCounts", fn := fun _ => fun
  | [d1, d2, d3] => { results := [.lit (.bool false)], args := [d1, d2, d3] }
  | _ => none }
def RangesCountsWrongFalsely : Prop := rangesCountsRow.holds Try.pinned (OpenSpec.ofChange rangesCountsWrong)

/-- 'astragallaw26.RangesRanks': WHATEVER THE INPUT: true; the input reads as it did. -/
def rangesRanksSpec : ChangeSpec := { name := "rangesRanks", fn := fun _ => fun
  | [d1, d2, d3, d4, d5] => { results := [.lit (.bool true)], args := [d1, d2, d3, d4, d5] }
  | _ => none }
def rangesRanksRow : OpenClaim := { program := "ytioieoinkjfcfaa", sum := "684d96c4266e93cbc4143886d75c162056eca159a9abd2718a51c5ead8c00bb7", func := "astragal/astragallaw26.RangesRanks", spec := "rangesRanks", inPlace := ["math/bits.Add64", "math/bits.Sub64"], unfollowed := true, recurses := true, named := ["math/bits.divideError", "math/bits.overflowError"], apart := false }
def RangesRanksSaid : Prop := rangesRanksRow.holds Try.pinned (OpenSpec.ofChange rangesRanksSpec)

/-- ITS FALSE NEIGHBOUR: 'it returns false'. Refute it at one input. -/
def rangesRanksWrong : ChangeSpec := { name := "rangesRanks", fn := fun _ => fun
  | [d1, d2, d3, d4, d5] => { results := [.lit (.bool false)], args := [d1, d2, d3, d4, d5] }
  | _ => none }
def RangesRanksWrongFalsely : Prop := rangesRanksRow.holds Try.pinned (OpenSpec.ofChange rangesRanksWrong)

/-- 'astragallaw05.Mers89Folds': WHATEVER THE INPUT: true; the input reads as it did. -/
def mers89FoldsSpec : ChangeSpec := { name := "mers89Folds", fn := fun _ => fun
  | [d1, d2] => { results := [.lit (.bool true)], args := [d1, d2] }
  | _ => none }
def mers89FoldsRow : OpenClaim := { program := "ytioieoinkjfcfaa", sum := "684d96c4266e93cbc4143886d75c162056eca159a9abd2718a51c5ead8c00bb7", func := "astragal/astragallaw05.Mers89Folds", spec := "mers89Folds", inPlace := ["math/bits.Add64", "math/bits.Sub64"], unfollowed := true, recurses := true, named := ["math/bits.divideError", "math/bits.overflowError"], apart := false }
def Mers89FoldsSaid : Prop := mers89FoldsRow.holds Try.pinned (OpenSpec.ofChange mers89FoldsSpec)

/-- ITS FALSE NEIGHBOUR: 'it returns false'. Refute it at one input. -/
def mers89FoldsWrong : ChangeSpec := { name := "mers89Folds", fn := fun _ => fun
  | [d1, d2] => { results := [.lit (.bool false)], args := [d1, d2] }
  | _ => none }
def Mers89FoldsWrongFalsely : Prop := mers89FoldsRow.holds Try.pinned (OpenSpec.ofChange mers89FoldsWrong)

/- THE SECOND FORM. 'bulk': how many values and letters a reading holds, each counted each time it is reached (what is shared counts as often as it is met; a slice's spare places count too). A statement '..UptoSaid' is the law's where the arguments, and the package variables that the reading takes, are together of bulk at most 1048576: NARROWER than '..Said'. Prove '..Said' where nothing that the law and all that it calls make is longer than what came in: it says more and counts as full. Else prove '..UptoSaid'. A law counts once. -/
mutual
def uptoBulk {H : Type} : DataW H → Nat
  | .lit (.string bytes) => bytes.length + 1
  | .lit _ => 1
  | .nil => 1
  | .ptr d => uptoBulk d + 1
  | .slice elems spare => uptoBulkAll elems + uptoBulkAll spare + 1
  | .agg parts => uptoBulkAll parts + 1
  | .iface _ d => uptoBulk d + 1
  | .map entries => uptoBulkEntries entries + 1
  | .held _ => 1
def uptoBulkAll {H : Type} : List (DataW H) → Nat
  | [] => 0
  | d :: r => uptoBulk d + uptoBulkAll r
def uptoBulkEntries {H : Type} : List (Lit × DataW H) → Nat
  | [] => 0
  | x :: r => uptoBulkEntry x + uptoBulkEntries r
def uptoBulkEntry {H : Type} : Lit × DataW H → Nat
  | (.string bytes, d) => bytes.length + uptoBulk d + 1
  | (_, d) => uptoBulk d + 1
 end
def uptoSmall : (H : Type) → List (DataW H) → Bool := fun _ ds => decide (uptoBulkAll ds ≤ 1048576)
def OpenSpec.upto (s : _root_.Go.ChangeSpec) : _root_.Go.OpenSpec := { _root_.Go.OpenSpec.ofChange s with cond := some uptoSmall }

/-- 'astragallaw01.WideFours', WHERE WHAT IT READS IS OF BULK AT MOST 1048576: true; the input reads as it did. -/
def wideFoursUptoRow : OpenClaim := { program := "ytioieoinkjfcfaa", sum := "684d96c4266e93cbc4143886d75c162056eca159a9abd2718a51c5ead8c00bb7", func := "astragal/astragallaw01.WideFours", spec := "wideFours", inPlace := ["math/bits.Add64", "math/bits.Sub64"], apart := false, narrowed := true }
def WideFoursUptoSaid : Prop := wideFoursUptoRow.holds Try.pinned (OpenSpec.upto wideFoursSpec)

/-- 'astragallaw05.Mers89Powers', WHERE WHAT IT READS IS OF BULK AT MOST 1048576: true; the input reads as it did. -/
def mers89PowersUptoRow : OpenClaim := { program := "ytioieoinkjfcfaa", sum := "684d96c4266e93cbc4143886d75c162056eca159a9abd2718a51c5ead8c00bb7", func := "astragal/astragallaw05.Mers89Powers", spec := "mers89Powers", inPlace := ["math/bits.Add64", "math/bits.Sub64"], unfollowed := true, recurses := true, apart := false, narrowed := true }
def Mers89PowersUptoSaid : Prop := mers89PowersUptoRow.holds Try.pinned (OpenSpec.upto mers89PowersSpec)

/-- 'astragallaw05.Mers89Inverts', WHERE WHAT IT READS IS OF BULK AT MOST 1048576: true; the input reads as it did. -/
def mers89InvertsUptoRow : OpenClaim := { program := "ytioieoinkjfcfaa", sum := "684d96c4266e93cbc4143886d75c162056eca159a9abd2718a51c5ead8c00bb7", func := "astragal/astragallaw05.Mers89Inverts", spec := "mers89Inverts", inPlace := ["math/bits.Add64", "math/bits.Sub64"], unfollowed := true, recurses := true, apart := false, narrowed := true }
def Mers89InvertsUptoSaid : Prop := mers89InvertsUptoRow.holds Try.pinned (OpenSpec.upto mers89InvertsSpec)

/-- 'astragallaw01.WideTexts', WHERE WHAT IT READS IS OF BULK AT MOST 1048576: true; the input reads as it did. -/
def wideTextsUptoRow : OpenClaim := { program := "ytioieoinkjfcfaa", sum := "684d96c4266e93cbc4143886d75c162056eca159a9abd2718a51c5ead8c00bb7", func := "astragal/astragallaw01.WideTexts", spec := "wideTexts", inPlace := ["math/bits.Add64"], named := ["math/bits.divideError", "math/bits.overflowError"], apart := false, narrowed := true }
def WideTextsUptoSaid : Prop := wideTextsUptoRow.holds Try.pinned (OpenSpec.upto wideTextsSpec)

/-- 'astragallaw05.Mers89Reckons', WHERE WHAT IT READS IS OF BULK AT MOST 1048576: true; the input reads as it did. -/
def mers89ReckonsUptoRow : OpenClaim := { program := "ytioieoinkjfcfaa", sum := "684d96c4266e93cbc4143886d75c162056eca159a9abd2718a51c5ead8c00bb7", func := "astragal/astragallaw05.Mers89Reckons", spec := "mers89Reckons", inPlace := ["math/bits.Add64", "math/bits.Sub64"], unfollowed := true, recurses := true, apart := false, narrowed := true }
def Mers89ReckonsUptoSaid : Prop := mers89ReckonsUptoRow.holds Try.pinned (OpenSpec.upto mers89ReckonsSpec)

/-- 'astragallaw01.WideShifts', WHERE WHAT IT READS IS OF BULK AT MOST 1048576: true; the input reads as it did. -/
def wideShiftsUptoRow : OpenClaim := { program := "ytioieoinkjfcfaa", sum := "684d96c4266e93cbc4143886d75c162056eca159a9abd2718a51c5ead8c00bb7", func := "astragal/astragallaw01.WideShifts", spec := "wideShifts", inPlace := ["math/bits.Add64"], named := ["math/bits.divideError", "math/bits.overflowError"], apart := false, narrowed := true }
def WideShiftsUptoSaid : Prop := wideShiftsUptoRow.holds Try.pinned (OpenSpec.upto wideShiftsSpec)

/-- 'astragallaw26.RangesReduces', WHERE WHAT IT READS IS OF BULK AT MOST 1048576: true; the input reads as it did. -/
def rangesReducesUptoRow : OpenClaim := { program := "ytioieoinkjfcfaa", sum := "684d96c4266e93cbc4143886d75c162056eca159a9abd2718a51c5ead8c00bb7", func := "astragal/astragallaw26.RangesReduces", spec := "rangesReduces", inPlace := ["math/bits.Add64", "math/bits.Sub64"], unfollowed := true, recurses := true, named := ["math/bits.divideError", "math/bits.overflowError"], apart := false, narrowed := true }
def RangesReducesUptoSaid : Prop := rangesReducesUptoRow.holds Try.pinned (OpenSpec.upto rangesReducesSpec)

/-- 'astragallaw26.RangesCounts', WHERE WHAT IT READS IS OF BULK AT MOST 1048576: true; the input reads as it did. -/
def rangesCountsUptoRow : OpenClaim := { program := "ytioieoinkjfcfaa", sum := "684d96c4266e93cbc4143886d75c162056eca159a9abd2718a51c5ead8c00bb7", func := "astragal/astragallaw26.RangesCounts", spec := "rangesCounts", inPlace := ["math/bits.Add64", "math/bits.Sub64"], unfollowed := true, recurses := true, named := ["math/bits.divideError", "math/bits.overflowError"], apart := false, narrowed := true }
def RangesCountsUptoSaid : Prop := rangesCountsUptoRow.holds Try.pinned (OpenSpec.upto rangesCountsSpec)

/-- 'astragallaw26.RangesRanks', WHERE WHAT IT READS IS OF BULK AT MOST 1048576: true; the input reads as it did. -/
def rangesRanksUptoRow : OpenClaim := { program := "ytioieoinkjfcfaa", sum := "684d96c4266e93cbc4143886d75c162056eca159a9abd2718a51c5ead8c00bb7", func := "astragal/astragallaw26.RangesRanks", spec := "rangesRanks", inPlace := ["math/bits.Add64", "math/bits.Sub64"], unfollowed := true, recurses := true, named := ["math/bits.divideError", "math/bits.overflowError"], apart := false, narrowed := true }
def RangesRanksUptoSaid : Prop := rangesRanksUptoRow.holds Try.pinned (OpenSpec.upto rangesRanksSpec)

/-- 'astragallaw05.Mers89Folds', WHERE WHAT IT READS IS OF BULK AT MOST 1048576: true; the input reads as it did. -/
def mers89FoldsUptoRow : OpenClaim := { program := "ytioieoinkjfcfaa", sum := "684d96c4266e93cbc4143886d75c162056eca159a9abd2718a51c5ead8c00bb7", func := "astragal/astragallaw05.Mers89Folds", spec := "mers89Folds", inPlace := ["math/bits.Add64", "math/bits.Sub64"], unfollowed := true, recurses := true, named := ["math/bits.divideError", "math/bits.overflowError"], apart := false, narrowed := true }
def Mers89FoldsUptoSaid : Prop := mers89FoldsUptoRow.holds Try.pinned (OpenSpec.upto mers89FoldsSpec)

end Rows
end Go.Proofs.Ytioieoinkjfcfaa
