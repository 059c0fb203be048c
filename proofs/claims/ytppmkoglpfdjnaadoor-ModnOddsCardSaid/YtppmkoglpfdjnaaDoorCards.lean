/-
  DERIVED. GIVEN WITH THE SEED: THE CARDS: each row of YtppmkoglpfdjnaaDoorRows.lean that lists a variable, with what it lists TIED to the program's text (the seventh form; the later family's looks); each row that meets fmt, with fmt's text TOLD by the authors' own Lean function (tested against real Go, not proved from fmt's source: count such statements apart). THE CARD IS WHAT COUNTS. Prove the row's statement (the work); the ties are given (YtppmkoglpfdjnaaDoorTie.lean); close each card by the builder's one call (the guide's Derived/Test/ToyasCard.lean, 'card_holds'). Laid BY PROGRAM, IN A SANDBOX (cutbox-door.mjs). By AI agents, Wed Nov 11 2026. No macro, syntax, notation, axiom, sorry.
-/
import Derived.Test.YtppmkoglpfdjnaaDoorRows
import GoSem.ClaimSeven
namespace Go.Proofs.YtppmkoglpfdjnaaDoor
namespace Rows

/-- THE TIED CARD OF 'astragallaw03.ModnOdds'. -/
def modnOddsCard : Claim7 := { stood := { row := modnOddsRow, standIns := [], harness := (true, "18dda748ee18a980cecc5dddcd98b8c6a7ee2e95e0688cb9a0e8d25fdf623a4f"), looks := false }, kinds := [], alts := [], laidByText := true, laidKinds := [.data], laidTests := true, laidLooks := .later }
def ModnOddsCardSaid : Prop := Claim7.holds Tryd.pinned (.plain (OpenSpec.ofChange modnOddsSpec)) modnOddsCard

/-- THE SECOND FORM's CARD OF 'astragallaw03.ModnOdds'. -/
def modnOddsUptoCard : Claim7 := { stood := { row := modnOddsUptoRow, standIns := [], harness := (true, "18dda748ee18a980cecc5dddcd98b8c6a7ee2e95e0688cb9a0e8d25fdf623a4f"), looks := false }, kinds := [], alts := [], laidByText := true, laidKinds := [.data], laidTests := true, laidLooks := .later }
def ModnOddsUptoCardSaid : Prop := Claim7.holds Tryd.pinned (.plain (OpenSpec.upto modnOddsSpec)) modnOddsUptoCard
end Rows
end Go.Proofs.YtppmkoglpfdjnaaDoor
