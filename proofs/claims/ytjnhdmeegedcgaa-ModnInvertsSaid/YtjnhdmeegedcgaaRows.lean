/-
  No cell of these rows narrows 'for every input' (looked for: loops, veiled, ifaces, maps, wideKeys, modest, calm, conditions, laid).
  DERIVED. THE GIVEN ROWS OF THIS SEAT. 6 by the template 'for every input the law returns true; each argument reads behind the call as it read before'; 0 by the template 'total and deterministic' (their statements: YtjnhdmeegedcgaaTotals.lean).
  GIVEN WITH THE SEED: the statements are not yours to turn. If you find one false, say at which input.
  Laid BY PROGRAM, IN A SANDBOX (cutbox-rows.mjs): the forced cells as the released guide's own fill.sh prints them over the translation 6a985f0472051846… (all of the seat's roots in one cut). By AI agents, Wed Nov 11 2026. No macro, syntax, notation, axiom, sorry.
-/
import Derived.Test.YtjnhdmeegedcgaaChecked
import GoSem.Claim
import GoSem.ClaimJoined
import GoSem.ClaimMapViews
import Derived.JoinedTies
import Derived.KernelRfl
namespace Go.Proofs.Ytjnhdmeegedcgaa
/- THE CELL 'sum', in the pinned program and in every row, IS THE sha256 OF THE DUMP (.gsa) THAT YtjnhdmeegedcgaaProg.lean LOADS. Nothing in Lean hashes anything: it is a label: what it is worth is what the hold of that sum in a sandbox is worth. -/
noncomputable def Try.pinned : Pinned := { name := "ytjnhdmeegedcgaa", sum := "6a985f04720518464d98770104c853720d373afbbb7902a1d4fdb5ffdf629bc0", checked := Try.checked }
namespace Rows
def none {H : Type} : Left H := { results := [], args := [] }

/-- 'astragallaw03.ModnOnly': WHATEVER THE INPUT: true; the input reads as it did. -/
def modnOnlySpec : ChangeSpec := { name := "modnOnly", fn := fun _ => fun
  | [d1, d2, d3] => { results := [.lit (.bool true)], args := [d1, d2, d3] }
  | _ => none }
def modnOnlyRow : OpenClaim := { program := "ytjnhdmeegedcgaa", sum := "6a985f04720518464d98770104c853720d373afbbb7902a1d4fdb5ffdf629bc0", func := "astragal/astragallaw03.ModnOnly", spec := "modnOnly", inPlace := ["math/bits.Add64"], named := ["math/bits.divideError", "math/bits.overflowError"], apart := false }
def ModnOnlySaid : Prop := modnOnlyRow.holds Try.pinned (OpenSpec.ofChange modnOnlySpec)

/-- ITS FALSE NEIGHBOUR: 'it returns false'. Refute it at one input. -/
def modnOnlyWrong : ChangeSpec := { name := "modnOnly", fn := fun _ => fun
  | [d1, d2, d3] => { results := [.lit (.bool false)], args := [d1, d2, d3] }
  | _ => none }
def ModnOnlyWrongFalsely : Prop := modnOnlyRow.holds Try.pinned (OpenSpec.ofChange modnOnlyWrong)

/-- 'astragallaw03.ModnInverts': WHATEVER THE INPUT: true; the input reads as it did. -/
def modnInvertsSpec : ChangeSpec := { name := "modnInverts", fn := fun _ => fun
  | [d1, d2] => { results := [.lit (.bool true)], args := [d1, d2] }
  | _ => none }
def modnInvertsRow : OpenClaim := { program := "ytjnhdmeegedcgaa", sum := "6a985f04720518464d98770104c853720d373afbbb7902a1d4fdb5ffdf629bc0", func := "astragal/astragallaw03.ModnInverts", spec := "modnInverts", inPlace := ["math/bits.Add64"], named := ["math/bits.divideError", "math/bits.overflowError"], apart := false }
def ModnInvertsSaid : Prop := modnInvertsRow.holds Try.pinned (OpenSpec.ofChange modnInvertsSpec)

/-- ITS FALSE NEIGHBOUR: 'it returns false'. Refute it at one input. -/
def modnInvertsWrong : ChangeSpec := { name := "modnInverts", fn := fun _ => fun
  | [d1, d2] => { results := [.lit (.bool false)], args := [d1, d2] }
  | _ => none }
def ModnInvertsWrongFalsely : Prop := modnInvertsRow.holds Try.pinned (OpenSpec.ofChange modnInvertsWrong)

/-- 'astragallaw03.ModnReckons': WHATEVER THE INPUT: true; the input reads as it did. -/
def modnReckonsSpec : ChangeSpec := { name := "modnReckons", fn := fun _ => fun
  | [d1, d2, d3] => { results := [.lit (.bool true)], args := [d1, d2, d3] }
  | _ => none }
def modnReckonsRow : OpenClaim := { program := "ytjnhdmeegedcgaa", sum := "6a985f04720518464d98770104c853720d373afbbb7902a1d4fdb5ffdf629bc0", func := "astragal/astragallaw03.ModnReckons", spec := "modnReckons", inPlace := ["math/bits.Add64"], named := ["math/bits.divideError", "math/bits.overflowError"], apart := false }
def ModnReckonsSaid : Prop := modnReckonsRow.holds Try.pinned (OpenSpec.ofChange modnReckonsSpec)

/-- ITS FALSE NEIGHBOUR: 'it returns false'. Refute it at one input. -/
def modnReckonsWrong : ChangeSpec := { name := "modnReckons", fn := fun _ => fun
  | [d1, d2, d3] => { results := [.lit (.bool false)], args := [d1, d2, d3] }
  | _ => none }
def ModnReckonsWrongFalsely : Prop := modnReckonsRow.holds Try.pinned (OpenSpec.ofChange modnReckonsWrong)

/-- 'astragallaw26.RangesReduces': WHATEVER THE INPUT: true; the input reads as it did. -/
def rangesReducesSpec : ChangeSpec := { name := "rangesReduces", fn := fun _ => fun
  | [d1, d2, d3, d4] => { results := [.lit (.bool true)], args := [d1, d2, d3, d4] }
  | _ => none }
def rangesReducesRow : OpenClaim := { program := "ytjnhdmeegedcgaa", sum := "6a985f04720518464d98770104c853720d373afbbb7902a1d4fdb5ffdf629bc0", func := "astragal/astragallaw26.RangesReduces", spec := "rangesReduces", inPlace := ["math/bits.Add64", "math/bits.Sub64"], unfollowed := true, recurses := true, named := ["math/bits.divideError", "math/bits.overflowError"], apart := false }
def RangesReducesSaid : Prop := rangesReducesRow.holds Try.pinned (OpenSpec.ofChange rangesReducesSpec)

/-- ITS FALSE NEIGHBOUR: 'it returns false'. Refute it at one input. -/
def rangesReducesWrong : ChangeSpec := { name := "rangesReduces", fn := fun _ => fun
  | [d1, d2, d3, d4] => { results := [.lit (.bool false)], args := [d1, d2, d3, d4] }
  | _ => none }
def RangesReducesWrongFalsely : Prop := rangesReducesRow.holds Try.pinned (OpenSpec.ofChange rangesReducesWrong)

/-- 'astragallaw26.RangesCounts': WHATEVER THE INPUT: true; the input reads as it did. -/
def rangesCountsSpec : ChangeSpec := { name := "rangesCounts", fn := fun _ => fun
  | [d1, d2, d3] => { results := [.lit (.bool true)], args := [d1, d2, d3] }
  | _ => none }
def rangesCountsRow : OpenClaim := { program := "ytjnhdmeegedcgaa", sum := "6a985f04720518464d98770104c853720d373afbbb7902a1d4fdb5ffdf629bc0", func := "astragal/astragallaw26.RangesCounts", spec := "rangesCounts", inPlace := ["math/bits.Add64", "math/bits.Sub64"], unfollowed := true, recurses := true, named := ["math/bits.divideError", "math/bits.overflowError"], apart := false }
def RangesCountsSaid : Prop := rangesCountsRow.holds Try.pinned (OpenSpec.ofChange rangesCountsSpec)

/-- ITS FALSE NEIGHBOUR: 'it returns false'. Refute it at one input. -/
def rangesCountsWrong : ChangeSpec := { name := "rangesCounts", fn := fun _ => fun
  | [d1, d2, d3] => { results := [.lit (.bool false)], args := [d1, d2, d3] }
  | _ => none }
def RangesCountsWrongFalsely : Prop := rangesCountsRow.holds Try.pinned (OpenSpec.ofChange rangesCountsWrong)

/-- 'astragallaw26.RangesRanks': WHATEVER THE INPUT: true; the input reads as it did. -/
def rangesRanksSpec : ChangeSpec := { name := "rangesRanks", fn := fun _ => fun
  | [d1, d2, d3, d4, d5] => { results := [.lit (.bool true)], args := [d1, d2, d3, d4, d5] }
  | _ => none }
def rangesRanksRow : OpenClaim := { program := "ytjnhdmeegedcgaa", sum := "6a985f04720518464d98770104c853720d373afbbb7902a1d4fdb5ffdf629bc0", func := "astragal/astragallaw26.RangesRanks", spec := "rangesRanks", inPlace := ["math/bits.Add64", "math/bits.Sub64"], unfollowed := true, recurses := true, named := ["math/bits.divideError", "math/bits.overflowError"], apart := false }
def RangesRanksSaid : Prop := rangesRanksRow.holds Try.pinned (OpenSpec.ofChange rangesRanksSpec)

/-- ITS FALSE NEIGHBOUR: 'it returns false'. Refute it at one input. -/
def rangesRanksWrong : ChangeSpec := { name := "rangesRanks", fn := fun _ => fun
  | [d1, d2, d3, d4, d5] => { results := [.lit (.bool false)], args := [d1, d2, d3, d4, d5] }
  | _ => none }
def RangesRanksWrongFalsely : Prop := rangesRanksRow.holds Try.pinned (OpenSpec.ofChange rangesRanksWrong)

/- THE SECOND FORM. 'bulk': how many values and letters a reading holds, each counted each time it is reached (what is shared counts as often as it is met; a slice's spare places count too). A statement '..UptoSaid' is the law's where the arguments, and the package variables that the reading takes, are together of bulk at most 1048576: NARROWER than '..Said'. Prove '..Said' where nothing that the law and all that it calls make is longer than what came in: it says more and counts as full. Else prove '..UptoSaid'. A law counts once. -/
mutual
def uptoBulk {H : Type} : DataW H → Nat
  | .lit (.string bytes) => bytes.length + 1
  | .lit _ => 1
  | .nil => 1
  | .ptr d => uptoBulk d + 1
  | .slice elems spare => uptoBulkAll elems + uptoBulkAll spare + 1
  | .agg parts => uptoBulkAll parts + 1
  | .iface _ d => uptoBulk d + 1
  | .map entries => uptoBulkEntries entries + 1
  | .held _ => 1
def uptoBulkAll {H : Type} : List (DataW H) → Nat
  | [] => 0
  | d :: r => uptoBulk d + uptoBulkAll r
def uptoBulkEntries {H : Type} : List (Lit × DataW H) → Nat
  | [] => 0
  | x :: r => uptoBulkEntry x + uptoBulkEntries r
def uptoBulkEntry {H : Type} : Lit × DataW H → Nat
  | (.string bytes, d) => bytes.length + uptoBulk d + 1
  | (_, d) => uptoBulk d + 1
 end
def uptoSmall : (H : Type) → List (DataW H) → Bool := fun _ ds => decide (uptoBulkAll ds ≤ 1048576)
def OpenSpec.upto (s : _root_.Go.ChangeSpec) : _root_.Go.OpenSpec := { _root_.Go.OpenSpec.ofChange s with cond := some uptoSmall }

/-- 'astragallaw03.ModnOnly', WHERE WHAT IT READS IS OF BULK AT MOST 1048576: true; the input reads as it did. -/
def modnOnlyUptoRow : OpenClaim := { program := "ytjnhdmeegedcgaa", sum := "6a985f04720518464d98770104c853720d373afbbb7902a1d4fdb5ffdf629bc0", func := "astragal/astragallaw03.ModnOnly", spec := "modnOnly", inPlace := ["math/bits.Add64"], named := ["math/bits.divideError", "math/bits.overflowError"], apart := false, narrowed := true }
def ModnOnlyUptoSaid : Prop := modnOnlyUptoRow.holds Try.pinned (OpenSpec.upto modnOnlySpec)

/-- 'astragallaw03.ModnInverts', WHERE WHAT IT READS IS OF BULK AT MOST 1048576: true; the input reads as it did. -/
def modnInvertsUptoRow : OpenClaim := { program := "ytjnhdmeegedcgaa", sum := "6a985f04720518464d98770104c853720d373afbbb7902a1d4fdb5ffdf629bc0", func := "astragal/astragallaw03.ModnInverts", spec := "modnInverts", inPlace := ["math/bits.Add64"], named := ["math/bits.divideError", "math/bits.overflowError"], apart := false, narrowed := true }
def ModnInvertsUptoSaid : Prop := modnInvertsUptoRow.holds Try.pinned (OpenSpec.upto modnInvertsSpec)

/-- 'astragallaw03.ModnReckons', WHERE WHAT IT READS IS OF BULK AT MOST 1048576: true; the input reads as it did. -/
def modnReckonsUptoRow : OpenClaim := { program := "ytjnhdmeegedcgaa", sum := "6a985f04720518464d98770104c853720d373afbbb7902a1d4fdb5ffdf629bc0", func := "astragal/astragallaw03.ModnReckons", spec := "modnReckons", inPlace := ["math/bits.Add64"], named := ["math/bits.divideError", "math/bits.overflowError"], apart := false, narrowed := true }
def ModnReckonsUptoSaid : Prop := modnReckonsUptoRow.holds Try.pinned (OpenSpec.upto modnReckonsSpec)

/-- 'astragallaw26.RangesReduces', WHERE WHAT IT READS IS OF BULK AT MOST 1048576: true; the input reads as it did. -/
def rangesReducesUptoRow : OpenClaim := { program := "ytjnhdmeegedcgaa", sum := "6a985f04720518464d98770104c853720d373afbbb7902a1d4fdb5ffdf629bc0", func := "astragal/astragallaw26.RangesReduces", spec := "rangesReduces", inPlace := ["math/bits.Add64", "math/bits.Sub64"], unfollowed := true, recurses := true, named := ["math/bits.divideError", "math/bits.overflowError"], apart := false, narrowed := true }
def RangesReducesUptoSaid : Prop := rangesReducesUptoRow.holds Try.pinned (OpenSpec.upto rangesReducesSpec)

/-- 'astragallaw26.RangesCounts', WHERE WHAT IT READS IS OF BULK AT MOST 1048576: true; the input reads as it did. -/
def rangesCountsUptoRow : OpenClaim := { program := "ytjnhdmeegedcgaa", sum := "6a985f04720518464d98770104c853720d373afbbb7902a1d4fdb5ffdf629bc0", func := "astragal/astragallaw26.RangesCounts", spec := "rangesCounts", inPlace := ["math/bits.Add64", "math/bits.Sub64"], unfollowed := true, recurses := true, named := ["math/bits.divideError", "math/bits.overflowError"], apart := false, narrowed := true }
def RangesCountsUptoSaid : Prop := rangesCountsUptoRow.holds Try.pinned (OpenSpec.upto rangesCountsSpec)

/-- 'astragallaw26.RangesRanks', WHERE WHAT IT READS IS OF BULK AT MOST 1048576: true; the input reads as it did. -/
def rangesRanksUptoRow : OpenClaim := { program := "ytjnhdmeegedcgaa", sum := "6a985f04720518464d98770104c853720d373afbbb7902a1d4fdb5ffdf629bc0", func := "astragal/astragallaw26.RangesRanks", spec := "rangesRanks", inPlace := ["math/bits.Add64", "math/bits.Sub64"], unfollowed := true, recurses := true, named := ["math/bits.divideError", "math/bits.overflowError"], apart := false, narrowed := true }
def RangesRanksUptoSaid : Prop := rangesRanksUptoRow.holds Try.pinned (OpenSpec.upto rangesRanksSpec)

end Rows
end Go.Proofs.Ytjnhdmeegedcgaa
