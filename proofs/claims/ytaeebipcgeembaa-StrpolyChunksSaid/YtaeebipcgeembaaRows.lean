/-
  No cell of these rows narrows 'for every input' (looked for: loops, veiled, ifaces, maps, wideKeys, modest, calm, conditions, laid).
  DERIVED. THE GIVEN ROWS OF THIS SEAT. 4 by the template 'for every input the law returns true; each argument reads behind the call as it read before'; 0 by the template 'total and deterministic' (their statements: YtaeebipcgeembaaTotals.lean).
  GIVEN WITH THE SEED: the statements are not yours to turn. If you find one false, say at which input.
  Laid BY PROGRAM, IN A SANDBOX (cutbox-rows.mjs): the forced cells as the released guide's own fill.sh prints them over the translation 28ecdd8a5ca7e9c6… (all of the seat's roots in one cut). By AI agents, Wed Nov 11 2026. No macro, syntax, notation, axiom, sorry.
-/
import Derived.Test.YtaeebipcgeembaaChecked
import GoSem.Claim
import GoSem.ClaimJoined
import GoSem.ClaimMapViews
import Derived.JoinedTies
import Derived.KernelRfl
namespace Go.Proofs.Ytaeebipcgeembaa
/- THE CELL 'sum', in the pinned program and in every row, IS THE sha256 OF THE DUMP (.gsa) THAT YtaeebipcgeembaaProg.lean LOADS. Nothing in Lean hashes anything: it is a label: what it is worth is what the hold of that sum in a sandbox is worth. -/
noncomputable def Try.pinned : Pinned := { name := "ytaeebipcgeembaa", sum := "28ecdd8a5ca7e9c6aad922683d22a090c610c656c1d6a836a2c5a907228c1b66", checked := Try.checked }
namespace Rows
def none {H : Type} : Left H := { results := [], args := [] }

/-- 'astragallaw25.StrpolyEvals': WHATEVER THE INPUT: true; the input reads as it did. -/
def strpolyEvalsSpec : ChangeSpec := { name := "strpolyEvals", fn := fun _ => fun
  | [d1, d2, d3, d4] => { results := [.lit (.bool true)], args := [d1, d2, d3, d4] }
  | _ => none }
def strpolyEvalsRow : OpenClaim := { program := "ytaeebipcgeembaa", sum := "28ecdd8a5ca7e9c6aad922683d22a090c610c656c1d6a836a2c5a907228c1b66", func := "astragal/astragallaw25.StrpolyEvals", spec := "strpolyEvals", inPlace := ["math/bits.Add64"], unfollowed := true, recurses := true, apart := false }
def StrpolyEvalsSaid : Prop := strpolyEvalsRow.holds Try.pinned (OpenSpec.ofChange strpolyEvalsSpec)

/-- ITS FALSE NEIGHBOUR: 'it returns false'. Refute it at one input. -/
def strpolyEvalsWrong : ChangeSpec := { name := "strpolyEvals", fn := fun _ => fun
  | [d1, d2, d3, d4] => { results := [.lit (.bool false)], args := [d1, d2, d3, d4] }
  | _ => none }
def StrpolyEvalsWrongFalsely : Prop := strpolyEvalsRow.holds Try.pinned (OpenSpec.ofChange strpolyEvalsWrong)

/-- 'astragallaw25.StrpolyFew': WHATEVER THE INPUT: true; the input reads as it did. -/
def strpolyFewSpec : ChangeSpec := { name := "strpolyFew", fn := fun _ => fun
  | [d1, d2, d3] => { results := [.lit (.bool true)], args := [d1, d2, d3] }
  | _ => none }
def strpolyFewRow : OpenClaim := { program := "ytaeebipcgeembaa", sum := "28ecdd8a5ca7e9c6aad922683d22a090c610c656c1d6a836a2c5a907228c1b66", func := "astragal/astragallaw25.StrpolyFew", spec := "strpolyFew", inPlace := ["math/bits.Add64"], unfollowed := true, recurses := true, apart := false }
def StrpolyFewSaid : Prop := strpolyFewRow.holds Try.pinned (OpenSpec.ofChange strpolyFewSpec)

/-- ITS FALSE NEIGHBOUR: 'it returns false'. Refute it at one input. -/
def strpolyFewWrong : ChangeSpec := { name := "strpolyFew", fn := fun _ => fun
  | [d1, d2, d3] => { results := [.lit (.bool false)], args := [d1, d2, d3] }
  | _ => none }
def StrpolyFewWrongFalsely : Prop := strpolyFewRow.holds Try.pinned (OpenSpec.ofChange strpolyFewWrong)

/-- 'astragallaw25.StrpolyChunks': WHATEVER THE INPUT: true; the input reads as it did. -/
def strpolyChunksSpec : ChangeSpec := { name := "strpolyChunks", fn := fun _ => fun
  | [d1, d2, d3] => { results := [.lit (.bool true)], args := [d1, d2, d3] }
  | _ => none }
def strpolyChunksRow : OpenClaim := { program := "ytaeebipcgeembaa", sum := "28ecdd8a5ca7e9c6aad922683d22a090c610c656c1d6a836a2c5a907228c1b66", func := "astragal/astragallaw25.StrpolyChunks", spec := "strpolyChunks", inPlace := ["math/bits.Add64"], unfollowed := true, recurses := true, apart := false }
def StrpolyChunksSaid : Prop := strpolyChunksRow.holds Try.pinned (OpenSpec.ofChange strpolyChunksSpec)

/-- ITS FALSE NEIGHBOUR: 'it returns false'. Refute it at one input. -/
def strpolyChunksWrong : ChangeSpec := { name := "strpolyChunks", fn := fun _ => fun
  | [d1, d2, d3] => { results := [.lit (.bool false)], args := [d1, d2, d3] }
  | _ => none }
def StrpolyChunksWrongFalsely : Prop := strpolyChunksRow.holds Try.pinned (OpenSpec.ofChange strpolyChunksWrong)

/-- 'astragallaw25.StrpolyDiffers': WHATEVER THE INPUT: true; the input reads as it did. -/
def strpolyDiffersSpec : ChangeSpec := { name := "strpolyDiffers", fn := fun _ => fun
  | [d1, d2, d3] => { results := [.lit (.bool true)], args := [d1, d2, d3] }
  | _ => none }
def strpolyDiffersRow : OpenClaim := { program := "ytaeebipcgeembaa", sum := "28ecdd8a5ca7e9c6aad922683d22a090c610c656c1d6a836a2c5a907228c1b66", func := "astragal/astragallaw25.StrpolyDiffers", spec := "strpolyDiffers", inPlace := ["math/bits.Add64"], unfollowed := true, recurses := true, apart := false }
def StrpolyDiffersSaid : Prop := strpolyDiffersRow.holds Try.pinned (OpenSpec.ofChange strpolyDiffersSpec)

/-- ITS FALSE NEIGHBOUR: 'it returns false'. Refute it at one input. -/
def strpolyDiffersWrong : ChangeSpec := { name := "strpolyDiffers", fn := fun _ => fun
  | [d1, d2, d3] => { results := [.lit (.bool false)], args := [d1, d2, d3] }
  | _ => none }
def StrpolyDiffersWrongFalsely : Prop := strpolyDiffersRow.holds Try.pinned (OpenSpec.ofChange strpolyDiffersWrong)

/- THE SECOND FORM. 'bulk': how many values and letters a reading holds, each counted each time it is reached (what is shared counts as often as it is met; a slice's spare places count too). A statement '..UptoSaid' is the law's where the arguments, and the package variables that the reading takes, are together of bulk at most 1048576: NARROWER than '..Said'. Prove '..Said' where nothing that the law and all that it calls make is longer than what came in: it says more and counts as full. Else prove '..UptoSaid'. A law counts once. -/
mutual
def uptoBulk {H : Type} : DataW H → Nat
  | .lit (.string bytes) => bytes.length + 1
  | .lit _ => 1
  | .nil => 1
  | .ptr d => uptoBulk d + 1
  | .slice elems spare => uptoBulkAll elems + uptoBulkAll spare + 1
  | .agg parts => uptoBulkAll parts + 1
  | .iface _ d => uptoBulk d + 1
  | .map entries => uptoBulkEntries entries + 1
  | .held _ => 1
def uptoBulkAll {H : Type} : List (DataW H) → Nat
  | [] => 0
  | d :: r => uptoBulk d + uptoBulkAll r
def uptoBulkEntries {H : Type} : List (Lit × DataW H) → Nat
  | [] => 0
  | x :: r => uptoBulkEntry x + uptoBulkEntries r
def uptoBulkEntry {H : Type} : Lit × DataW H → Nat
  | (.string bytes, d) => bytes.length + uptoBulk d + 1
  | (_, d) => uptoBulk d + 1
 end
def uptoSmall : (H : Type) → List (DataW H) → Bool := fun _ ds => decide (uptoBulkAll ds ≤ 1048576)
def OpenSpec.upto (s : _root_.Go.ChangeSpec) : _root_.Go.OpenSpec := { _root_.Go.OpenSpec.ofChange s with cond := some uptoSmall }

/-- 'astragallaw25.StrpolyEvals', WHERE WHAT IT READS IS OF BULK AT MOST 1048576: true; the input reads as it did. -/
def strpolyEvalsUptoRow : OpenClaim := { program := "ytaeebipcgeembaa", sum := "28ecdd8a5ca7e9c6aad922683d22a090c610c656c1d6a836a2c5a907228c1b66", func := "astragal/astragallaw25.StrpolyEvals", spec := "strpolyEvals", inPlace := ["math/bits.Add64"], unfollowed := true, recurses := true, apart := false, narrowed := true }
def StrpolyEvalsUptoSaid : Prop := strpolyEvalsUptoRow.holds Try.pinned (OpenSpec.upto strpolyEvalsSpec)

/-- 'astragallaw25.StrpolyFew', WHERE WHAT IT READS IS OF BULK AT MOST 1048576: true; the input reads as it did. -/
def strpolyFewUptoRow : OpenClaim := { program := "ytaeebipcgeembaa", sum := "28ecdd8a5ca7e9c6aad922683d22a090c610c656c1d6a836a2c5a907228c1b66", func := "astragal/astragallaw25.StrpolyFew", spec := "strpolyFew", inPlace := ["math/bits.Add64"], unfollowed := true, recurses := true, apart := false, narrowed := true }
def StrpolyFewUptoSaid : Prop := strpolyFewUptoRow.holds Try.pinned (OpenSpec.upto strpolyFewSpec)

/-- 'astragallaw25.StrpolyChunks', WHERE WHAT IT READS IS OF BULK AT MOST 1048576: true; the input reads as it did. -/
def strpolyChunksUptoRow : OpenClaim := { program := "ytaeebipcgeembaa", sum := "28ecdd8a5ca7e9c6aad922683d22a090c610c656c1d6a836a2c5a907228c1b66", func := "astragal/astragallaw25.StrpolyChunks", spec := "strpolyChunks", inPlace := ["math/bits.Add64"], unfollowed := true, recurses := true, apart := false, narrowed := true }
def StrpolyChunksUptoSaid : Prop := strpolyChunksUptoRow.holds Try.pinned (OpenSpec.upto strpolyChunksSpec)

/-- 'astragallaw25.StrpolyDiffers', WHERE WHAT IT READS IS OF BULK AT MOST 1048576: true; the input reads as it did. -/
def strpolyDiffersUptoRow : OpenClaim := { program := "ytaeebipcgeembaa", sum := "28ecdd8a5ca7e9c6aad922683d22a090c610c656c1d6a836a2c5a907228c1b66", func := "astragal/astragallaw25.StrpolyDiffers", spec := "strpolyDiffers", inPlace := ["math/bits.Add64"], unfollowed := true, recurses := true, apart := false, narrowed := true }
def StrpolyDiffersUptoSaid : Prop := strpolyDiffersUptoRow.holds Try.pinned (OpenSpec.upto strpolyDiffersSpec)

end Rows
end Go.Proofs.Ytaeebipcgeembaa
