/-
  No cell of these rows narrows 'for every input' (looked for: loops, veiled, ifaces, maps, wideKeys, modest, calm, conditions, laid).
  DERIVED. THE GIVEN ROWS OF THIS SEAT. 9 by the template 'for every input the law returns true; each argument reads behind the call as it read before'; 0 by the template 'total and deterministic' (their statements: YtjgcpacdiiifjaaTotals.lean).
  GIVEN WITH THE SEED: the statements are not yours to turn. If you find one false, say at which input.
  Laid BY PROGRAM, IN A SANDBOX (cutbox-rows.mjs): the forced cells as the released guide's own fill.sh prints them over the translation 068f961a88576096… (all of the seat's roots in one cut). By AI agents, Wed Nov 11 2026. No macro, syntax, notation, axiom, sorry.
-/
import Derived.Test.YtjgcpacdiiifjaaChecked
import GoSem.Claim
import GoSem.ClaimJoined
import GoSem.ClaimMapViews
import Derived.JoinedTies
import Derived.KernelRfl
namespace Go.Proofs.Ytjgcpacdiiifjaa
/- THE CELL 'sum', in the pinned program and in every row, IS THE sha256 OF THE DUMP (.gsa) THAT YtjgcpacdiiifjaaProg.lean LOADS. Nothing in Lean hashes anything: it is a label: what it is worth is what the hold of that sum in a sandbox is worth. -/
noncomputable def Try.pinned : Pinned := { name := "ytjgcpacdiiifjaa", sum := "068f961a88576096e2bf7bd50389ecca3f2597ff06492f219ae22a3a7d55af2c", checked := Try.checked }
namespace Rows
def none {H : Type} : Left H := { results := [], args := [] }

/-- 'astragallaw14.Pcg64Seeds': WHATEVER THE INPUT: true; the input reads as it did. -/
def pcg64SeedsSpec : ChangeSpec := { name := "pcg64Seeds", fn := fun _ => fun
  | [d1, d2] => { results := [.lit (.bool true)], args := [d1, d2] }
  | _ => none }
def pcg64SeedsRow : OpenClaim := { program := "ytjgcpacdiiifjaa", sum := "068f961a88576096e2bf7bd50389ecca3f2597ff06492f219ae22a3a7d55af2c", func := "astragal/astragallaw14.Pcg64Seeds", spec := "pcg64Seeds", inPlace := ["math/bits.Add64"], apart := false }
def Pcg64SeedsSaid : Prop := pcg64SeedsRow.holds Try.pinned (OpenSpec.ofChange pcg64SeedsSpec)

/-- ITS FALSE NEIGHBOUR: 'it returns false'. Refute it at one input. -/
def pcg64SeedsWrong : ChangeSpec := { name := "pcg64Seeds", fn := fun _ => fun
  | [d1, d2] => { results := [.lit (.bool false)], args := [d1, d2] }
  | _ => none }
def Pcg64SeedsWrongFalsely : Prop := pcg64SeedsRow.holds Try.pinned (OpenSpec.ofChange pcg64SeedsWrong)

/-- 'astragallaw01.WideSums': WHATEVER THE INPUT: true; the input reads as it did. -/
def wideSumsSpec : ChangeSpec := { name := "wideSums", fn := fun _ => fun
  | [d1, d2] => { results := [.lit (.bool true)], args := [d1, d2] }
  | _ => none }
def wideSumsRow : OpenClaim := { program := "ytjgcpacdiiifjaa", sum := "068f961a88576096e2bf7bd50389ecca3f2597ff06492f219ae22a3a7d55af2c", func := "astragal/astragallaw01.WideSums", spec := "wideSums", inPlace := ["math/bits.Add64", "math/bits.Sub64"], apart := false }
def WideSumsSaid : Prop := wideSumsRow.holds Try.pinned (OpenSpec.ofChange wideSumsSpec)

/-- ITS FALSE NEIGHBOUR: 'it returns false'. Refute it at one input. -/
def wideSumsWrong : ChangeSpec := { name := "wideSums", fn := fun _ => fun
  | [d1, d2] => { results := [.lit (.bool false)], args := [d1, d2] }
  | _ => none }
def WideSumsWrongFalsely : Prop := wideSumsRow.holds Try.pinned (OpenSpec.ofChange wideSumsWrong)

/-- 'astragallaw14.Pcg64Advances': WHATEVER THE INPUT: true; the input reads as it did. -/
def pcg64AdvancesSpec : ChangeSpec := { name := "pcg64Advances", fn := fun _ => fun
  | [d1, d2, d3, d4] => { results := [.lit (.bool true)], args := [d1, d2, d3, d4] }
  | _ => none }
def pcg64AdvancesRow : OpenClaim := { program := "ytjgcpacdiiifjaa", sum := "068f961a88576096e2bf7bd50389ecca3f2597ff06492f219ae22a3a7d55af2c", func := "astragal/astragallaw14.Pcg64Advances", spec := "pcg64Advances", inPlace := ["math/bits.Add64"], unfollowed := true, recurses := true, apart := false }
def Pcg64AdvancesSaid : Prop := pcg64AdvancesRow.holds Try.pinned (OpenSpec.ofChange pcg64AdvancesSpec)

/-- ITS FALSE NEIGHBOUR: 'it returns false'. Refute it at one input. -/
def pcg64AdvancesWrong : ChangeSpec := { name := "pcg64Advances", fn := fun _ => fun
  | [d1, d2, d3, d4] => { results := [.lit (.bool false)], args := [d1, d2, d3, d4] }
  | _ => none }
def Pcg64AdvancesWrongFalsely : Prop := pcg64AdvancesRow.holds Try.pinned (OpenSpec.ofChange pcg64AdvancesWrong)

/-- 'astragallaw01.WideProducts': WHATEVER THE INPUT: true; the input reads as it did. -/
def wideProductsSpec : ChangeSpec := { name := "wideProducts", fn := fun _ => fun
  | [d1, d2] => { results := [.lit (.bool true)], args := [d1, d2] }
  | _ => none }
def wideProductsRow : OpenClaim := { program := "ytjgcpacdiiifjaa", sum := "068f961a88576096e2bf7bd50389ecca3f2597ff06492f219ae22a3a7d55af2c", func := "astragal/astragallaw01.WideProducts", spec := "wideProducts", inPlace := ["math/bits.Add64"], apart := false }
def WideProductsSaid : Prop := wideProductsRow.holds Try.pinned (OpenSpec.ofChange wideProductsSpec)

/-- ITS FALSE NEIGHBOUR: 'it returns false'. Refute it at one input. -/
def wideProductsWrong : ChangeSpec := { name := "wideProducts", fn := fun _ => fun
  | [d1, d2] => { results := [.lit (.bool false)], args := [d1, d2] }
  | _ => none }
def WideProductsWrongFalsely : Prop := wideProductsRow.holds Try.pinned (OpenSpec.ofChange wideProductsWrong)

/-- 'astragallaw14.Pcg64Tells': WHATEVER THE INPUT: true; the input reads as it did. -/
def pcg64TellsSpec : ChangeSpec := { name := "pcg64Tells", fn := fun _ => fun
  | [d1, d2] => { results := [.lit (.bool true)], args := [d1, d2] }
  | _ => none }
def pcg64TellsRow : OpenClaim := { program := "ytjgcpacdiiifjaa", sum := "068f961a88576096e2bf7bd50389ecca3f2597ff06492f219ae22a3a7d55af2c", func := "astragal/astragallaw14.Pcg64Tells", spec := "pcg64Tells", inPlace := ["math/bits.Add64", "math/bits.Sub64"], apart := false }
def Pcg64TellsSaid : Prop := pcg64TellsRow.holds Try.pinned (OpenSpec.ofChange pcg64TellsSpec)

/-- ITS FALSE NEIGHBOUR: 'it returns false'. Refute it at one input. -/
def pcg64TellsWrong : ChangeSpec := { name := "pcg64Tells", fn := fun _ => fun
  | [d1, d2] => { results := [.lit (.bool false)], args := [d1, d2] }
  | _ => none }
def Pcg64TellsWrongFalsely : Prop := pcg64TellsRow.holds Try.pinned (OpenSpec.ofChange pcg64TellsWrong)

/-- 'astragallaw14.Pcg64Period': WHATEVER THE INPUT: true; the input reads as it did. -/
def pcg64PeriodSpec : ChangeSpec := { name := "pcg64Period", fn := fun _ => fun
  | [d1, d2, d3, d4] => { results := [.lit (.bool true)], args := [d1, d2, d3, d4] }
  | _ => none }
def pcg64PeriodRow : OpenClaim := { program := "ytjgcpacdiiifjaa", sum := "068f961a88576096e2bf7bd50389ecca3f2597ff06492f219ae22a3a7d55af2c", func := "astragal/astragallaw14.Pcg64Period", spec := "pcg64Period", inPlace := ["math/bits.Add64"], unfollowed := true, recurses := true, apart := false }
def Pcg64PeriodSaid : Prop := pcg64PeriodRow.holds Try.pinned (OpenSpec.ofChange pcg64PeriodSpec)

/-- ITS FALSE NEIGHBOUR: 'it returns false'. Refute it at one input. -/
def pcg64PeriodWrong : ChangeSpec := { name := "pcg64Period", fn := fun _ => fun
  | [d1, d2, d3, d4] => { results := [.lit (.bool false)], args := [d1, d2, d3, d4] }
  | _ => none }
def Pcg64PeriodWrongFalsely : Prop := pcg64PeriodRow.holds Try.pinned (OpenSpec.ofChange pcg64PeriodWrong)

/-- 'astragallaw01.WideFours': WHATEVER THE INPUT: true; the input reads as it did. -/
def wideFoursSpec : ChangeSpec := { name := "wideFours", fn := fun _ => fun
  | [d1, d2, d3] => { results := [.lit (.bool true)], args := [d1, d2, d3] }
  | _ => none }
def wideFoursRow : OpenClaim := { program := "ytjgcpacdiiifjaa", sum := "068f961a88576096e2bf7bd50389ecca3f2597ff06492f219ae22a3a7d55af2c", func := "astragal/astragallaw01.WideFours", spec := "wideFours", inPlace := ["math/bits.Add64", "math/bits.Sub64"], apart := false }
def WideFoursSaid : Prop := wideFoursRow.holds Try.pinned (OpenSpec.ofChange wideFoursSpec)

/-- ITS FALSE NEIGHBOUR: 'it returns false'. Refute it at one input. -/
def wideFoursWrong : ChangeSpec := { name := "wideFours", fn := fun _ => fun
  | [d1, d2, d3] => { results := [.lit (.bool false)], args := [d1, d2, d3] }
  | _ => none }
def WideFoursWrongFalsely : Prop := wideFoursRow.holds Try.pinned (OpenSpec.ofChange wideFoursWrong)

/-- 'astragallaw01.WideTexts': WHATEVER THE INPUT: true; the input reads as it did. -/
def wideTextsSpec : ChangeSpec := { name := "wideTexts", fn := fun _ => fun
  | [d1, d2] => { results := [.lit (.bool true)], args := [d1, d2] }
  | _ => none }
def wideTextsRow : OpenClaim := { program := "ytjgcpacdiiifjaa", sum := "068f961a88576096e2bf7bd50389ecca3f2597ff06492f219ae22a3a7d55af2c", func := "astragal/astragallaw01.WideTexts", spec := "wideTexts", inPlace := ["math/bits.Add64"], named := ["math/bits.divideError", "math/bits.overflowError"], apart := false }
def WideTextsSaid : Prop := wideTextsRow.holds Try.pinned (OpenSpec.ofChange wideTextsSpec)

/-- ITS FALSE NEIGHBOUR: 'it returns false'. Refute it at one input. -/
def wideTextsWrong : ChangeSpec := { name := "wideTexts", fn := fun _ => fun
  | [d1, d2] => { results := [.lit (.bool false)], args := [d1, d2] }
  | _ => none }
def WideTextsWrongFalsely : Prop := wideTextsRow.holds Try.pinned (OpenSpec.ofChange wideTextsWrong)

/-- 'astragallaw01.WideShifts': WHATEVER THE INPUT: true; the input reads as it did. -/
def wideShiftsSpec : ChangeSpec := { name := "wideShifts", fn := fun _ => fun
  | [d1, d2, d3] => { results := [.lit (.bool true)], args := [d1, d2, d3] }
  | _ => none }
def wideShiftsRow : OpenClaim := { program := "ytjgcpacdiiifjaa", sum := "068f961a88576096e2bf7bd50389ecca3f2597ff06492f219ae22a3a7d55af2c", func := "astragal/astragallaw01.WideShifts", spec := "wideShifts", inPlace := ["math/bits.Add64"], named := ["math/bits.divideError", "math/bits.overflowError"], apart := false }
def WideShiftsSaid : Prop := wideShiftsRow.holds Try.pinned (OpenSpec.ofChange wideShiftsSpec)

/-- ITS FALSE NEIGHBOUR: 'it returns false'. Refute it at one input. -/
def wideShiftsWrong : ChangeSpec := { name := "wideShifts", fn := fun _ => fun
  | [d1, d2, d3] => { results := [.lit (.bool false)], args := [d1, d2, d3] }
  | _ => none }
def WideShiftsWrongFalsely : Prop := wideShiftsRow.holds Try.pinned (OpenSpec.ofChange wideShiftsWrong)

/- THE SECOND FORM. 'bulk': how many values and letters a reading holds, each counted each time it is reached (what is shared counts as often as it is met; a slice's spare places count too). A statement '..UptoSaid' is the law's where the arguments, and the package variables that the reading takes, are together of bulk at most 1048576: NARROWER than '..Said'. Prove '..Said' where nothing that the law and all that it calls make is longer than what came in: it says more and counts as full. Else prove '..UptoSaid'. A law counts once. -/
mutual
def uptoBulk {H : Type} : DataW H → Nat
  | .lit (.string bytes) => bytes.length + 1
  | .lit _ => 1
  | .nil => 1
  | .ptr d => uptoBulk d + 1
  | .slice elems spare => uptoBulkAll elems + uptoBulkAll spare + 1
  | .agg parts => uptoBulkAll parts + 1
  | .iface _ d => uptoBulk d + 1
  | .map entries => uptoBulkEntries entries + 1
  | .held _ => 1
def uptoBulkAll {H : Type} : List (DataW H) → Nat
  | [] => 0
  | d :: r => uptoBulk d + uptoBulkAll r
def uptoBulkEntries {H : Type} : List (Lit × DataW H) → Nat
  | [] => 0
  | x :: r => uptoBulkEntry x + uptoBulkEntries r
def uptoBulkEntry {H : Type} : Lit × DataW H → Nat
  | (.string bytes, d) => bytes.length + uptoBulk d + 1
  | (_, d) => uptoBulk d + 1
 end
def uptoSmall : (H : Type) → List (DataW H) → Bool := fun _ ds => decide (uptoBulkAll ds ≤ 1048576)
def OpenSpec.upto (s : _root_.Go.ChangeSpec) : _root_.Go.OpenSpec := { _root_.Go.OpenSpec.ofChange s with cond := some uptoSmall }

/-- 'astragallaw14.Pcg64Seeds', WHERE WHAT IT READS IS OF BULK AT MOST 1048576: true; the input reads as it did. -/
def pcg64SeedsUptoRow : OpenClaim := { program := "ytjgcpacdiiifjaa", sum := "068f961a88576096e2bf7bd50389ecca3f2597ff06492f219ae22a3a7d55af2c", func := "astragal/astragallaw14.Pcg64Seeds", spec := "pcg64Seeds", inPlace := ["math/bits.Add64"], apart := false, narrowed := true }
def Pcg64SeedsUptoSaid : Prop := pcg64SeedsUptoRow.holds Try.pinned (OpenSpec.upto pcg64SeedsSpec)

/-- 'astragallaw01.WideSums', WHERE WHAT IT READS IS OF BULK AT MOST 1048576: true; the input reads as it did. -/
def wideSumsUptoRow : OpenClaim := { program := "ytjgcpacdiiifjaa", sum := "068f961a88576096e2bf7bd50389ecca3f2597ff06492f219ae22a3a7d55af2c", func := "astragal/astragallaw01.WideSums", spec := "wideSums", inPlace := ["math/bits.Add64", "math/bits.Sub64"], apart := false, narrowed := true }
def WideSumsUptoSaid : Prop := wideSumsUptoRow.holds Try.pinned (OpenSpec.upto wideSumsSpec)

/-- 'astragallaw14.Pcg64Advances', WHERE WHAT IT READS IS OF BULK AT MOST 1048576: true; the input reads as it did. -/
def pcg64AdvancesUptoRow : OpenClaim := { program := "ytjgcpacdiiifjaa", sum := "068f961a88576096e2bf7bd50389ecca3f2597ff06492f219ae22a3a7d55af2c", func := "astragal/astragallaw14.Pcg64Advances", spec := "pcg64Advances", inPlace := ["math/bits.Add64"], unfollowed := true, recurses := true, apart := false, narrowed := true }
def Pcg64AdvancesUptoSaid : Prop := pcg64AdvancesUptoRow.holds Try.pinned (OpenSpec.upto pcg64AdvancesSpec)

/-- 'astragallaw01.WideProducts', WHERE WHAT IT READS IS OF BULK AT MOST 1048576: true; the input reads as it did. -/
def wideProductsUptoRow : OpenClaim := { program := "ytjgcpacdiiifjaa", sum := "068f961a88576096e2bf7bd50389ecca3f2597ff06492f219ae22a3a7d55af2c", func := "astragal/astragallaw01.WideProducts", spec := "wideProducts", inPlace := ["math/bits.Add64"], apart := false, narrowed := true }
def WideProductsUptoSaid : Prop := wideProductsUptoRow.holds Try.pinned (OpenSpec.upto wideProductsSpec)

/-- 'astragallaw14.Pcg64Tells', WHERE WHAT IT READS IS OF BULK AT MOST 1048576: true; the input reads as it did. -/
def pcg64TellsUptoRow : OpenClaim := { program := "ytjgcpacdiiifjaa", sum := "068f961a88576096e2bf7bd50389ecca3f2597ff06492f219ae22a3a7d55af2c", func := "astragal/astragallaw14.Pcg64Tells", spec := "pcg64Tells", inPlace := ["math/bits.Add64", "math/bits.Sub64"], apart := false, narrowed := true }
def Pcg64TellsUptoSaid : Prop := pcg64TellsUptoRow.holds Try.pinned (OpenSpec.upto pcg64TellsSpec)

/-- 'astragallaw14.Pcg64Period', WHERE WHAT IT READS IS OF BULK AT MOST 1048576: true; the input reads as it did. -/
def pcg64PeriodUptoRow : OpenClaim := { program := "ytjgcpacdiiifjaa", sum := "068f961a88576096e2bf7bd50389ecca3f2597ff06492f219ae22a3a7d55af2c", func := "astragal/astragallaw14.Pcg64Period", spec := "pcg64Period", inPlace := ["math/bits.Add64"], unfollowed := true, recurses := true, apart := false, narrowed := true }
def Pcg64PeriodUptoSaid : Prop := pcg64PeriodUptoRow.holds Try.pinned (OpenSpec.upto pcg64PeriodSpec)

/-- 'astragallaw01.WideFours', WHERE WHAT IT READS IS OF BULK AT MOST 1048576: true; the input reads as it did. -/
def wideFoursUptoRow : OpenClaim := { program := "ytjgcpacdiiifjaa", sum := "068f961a88576096e2bf7bd50389ecca3f2597ff06492f219ae22a3a7d55af2c", func := "astragal/astragallaw01.WideFours", spec := "wideFours", inPlace := ["math/bits.Add64", "math/bits.Sub64"], apart := false, narrowed := true }
def WideFoursUptoSaid : Prop := wideFoursUptoRow.holds Try.pinned (OpenSpec.upto wideFoursSpec)

/-- 'astragallaw01.WideTexts', WHERE WHAT IT READS IS OF BULK AT MOST 1048576: true; the input reads as it did. -/
def wideTextsUptoRow : OpenClaim := { program := "ytjgcpacdiiifjaa", sum := "068f961a88576096e2bf7bd50389ecca3f2597ff06492f219ae22a3a7d55af2c", func := "astragal/astragallaw01.WideTexts", spec := "wideTexts", inPlace := ["math/bits.Add64"], named := ["math/bits.divideError", "math/bits.overflowError"], apart := false, narrowed := true }
def WideTextsUptoSaid : Prop := wideTextsUptoRow.holds Try.pinned (OpenSpec.upto wideTextsSpec)

/-- 'astragallaw01.WideShifts', WHERE WHAT IT READS IS OF BULK AT MOST 1048576: true; the input reads as it did. -/
def wideShiftsUptoRow : OpenClaim := { program := "ytjgcpacdiiifjaa", sum := "068f961a88576096e2bf7bd50389ecca3f2597ff06492f219ae22a3a7d55af2c", func := "astragal/astragallaw01.WideShifts", spec := "wideShifts", inPlace := ["math/bits.Add64"], named := ["math/bits.divideError", "math/bits.overflowError"], apart := false, narrowed := true }
def WideShiftsUptoSaid : Prop := wideShiftsUptoRow.holds Try.pinned (OpenSpec.upto wideShiftsSpec)

end Rows
end Go.Proofs.Ytjgcpacdiiifjaa
