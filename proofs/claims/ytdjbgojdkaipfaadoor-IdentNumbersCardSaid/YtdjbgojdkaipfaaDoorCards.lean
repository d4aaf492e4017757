/-
  DERIVED. GIVEN WITH THE SEED: THE CARDS: each row of YtdjbgojdkaipfaaDoorRows.lean that lists a variable, with what it lists TIED to the program's text (the seventh form; the later family's looks); each row that meets fmt, with fmt's text TOLD by the authors' own Lean function (tested against real Go, not proved from fmt's source: count such statements apart). THE CARD IS WHAT COUNTS. Prove the row's statement (the work); the ties are given (YtdjbgojdkaipfaaDoorTie.lean); close each card by the builder's one call (the guide's Derived/Test/ToyasCard.lean, 'card_holds'). Laid BY PROGRAM, IN A SANDBOX (cutbox-door.mjs). By AI agents, Wed Nov 11 2026. No macro, syntax, notation, axiom, sorry.
-/
import Derived.Test.YtdjbgojdkaipfaaDoorRows
import GoSem.ClaimSeven
namespace Go.Proofs.YtdjbgojdkaipfaaDoor
namespace Rows

/-- THE TIED CARD OF 'truchmanlaw16.PtagReads'. -/
def ptagReadsCard : Claim7 := { stood := { row := ptagReadsRow, standIns := [], harness := (true, "f9b6eef90425612da8de845bde9b654e78361d0adb0350adff2e2ffb13879c82"), looks := false }, kinds := [], alts := [], laidByText := true, laidKinds := [.data], laidTests := true, laidLooks := .later }
def PtagReadsCardSaid : Prop := Claim7.holds Tryd.pinned (.plain (OpenSpec.ofChange ptagReadsSpec)) ptagReadsCard

/-- THE TIED CARD OF 'truchmanlaw16.PtagBack'. -/
def ptagBackCard : Claim7 := { stood := { row := ptagBackRow, standIns := [], harness := (true, "f9b6eef90425612da8de845bde9b654e78361d0adb0350adff2e2ffb13879c82"), looks := false }, kinds := [], alts := [], laidByText := true, laidKinds := [.data], laidTests := true, laidLooks := .later }
def PtagBackCardSaid : Prop := Claim7.holds Tryd.pinned (.plain (OpenSpec.ofChange ptagBackSpec)) ptagBackCard

/-- THE TIED CARD OF 'truchmanlaw07.IdentNumbers'. -/
def identNumbersCard : Claim7 := { stood := { row := identNumbersRow, standIns := [], harness := (true, "f9b6eef90425612da8de845bde9b654e78361d0adb0350adff2e2ffb13879c82"), looks := false }, kinds := [], alts := [], laidByText := true, laidKinds := [.data], laidTests := true, laidLooks := .later }
def IdentNumbersCardSaid : Prop := Claim7.holds Tryd.pinned (.plain (OpenSpec.ofChange identNumbersSpec)) identNumbersCard

/-- THE SECOND FORM's CARD OF 'truchmanlaw16.PtagReads'. -/
def ptagReadsUptoCard : Claim7 := { stood := { row := ptagReadsUptoRow, standIns := [], harness := (true, "f9b6eef90425612da8de845bde9b654e78361d0adb0350adff2e2ffb13879c82"), looks := false }, kinds := [], alts := [], laidByText := true, laidKinds := [.data], laidTests := true, laidLooks := .later }
def PtagReadsUptoCardSaid : Prop := Claim7.holds Tryd.pinned (.plain (OpenSpec.upto ptagReadsSpec)) ptagReadsUptoCard

/-- THE SECOND FORM's CARD OF 'truchmanlaw16.PtagBack'. -/
def ptagBackUptoCard : Claim7 := { stood := { row := ptagBackUptoRow, standIns := [], harness := (true, "f9b6eef90425612da8de845bde9b654e78361d0adb0350adff2e2ffb13879c82"), looks := false }, kinds := [], alts := [], laidByText := true, laidKinds := [.data], laidTests := true, laidLooks := .later }
def PtagBackUptoCardSaid : Prop := Claim7.holds Tryd.pinned (.plain (OpenSpec.upto ptagBackSpec)) ptagBackUptoCard

/-- THE SECOND FORM's CARD OF 'truchmanlaw07.IdentNumbers'. -/
def identNumbersUptoCard : Claim7 := { stood := { row := identNumbersUptoRow, standIns := [], harness := (true, "f9b6eef90425612da8de845bde9b654e78361d0adb0350adff2e2ffb13879c82"), looks := false }, kinds := [], alts := [], laidByText := true, laidKinds := [.data], laidTests := true, laidLooks := .later }
def IdentNumbersUptoCardSaid : Prop := Claim7.holds Tryd.pinned (.plain (OpenSpec.upto identNumbersSpec)) identNumbersUptoCard
end Rows
end Go.Proofs.YtdjbgojdkaipfaaDoor
