/-
  DERIVED. GIVEN WITH THE SEED: THE CARDS: each row of YtgfdmdikiickpaaGreatDoorRows.lean that lists a variable, with what it lists TIED to the program's text (the seventh form; the later family's looks); each row that meets fmt, with fmt's text TOLD by the authors' own Lean function (tested against real Go, not proved from fmt's source: count such statements apart). THE CARD IS WHAT COUNTS. Prove the row's statement (the work); the ties are given (YtgfdmdikiickpaaGreatDoorTie.lean); close each card by the builder's one call (the guide's Derived/Test/ToyasCard.lean, 'card_holds'). Laid BY PROGRAM, IN A SANDBOX (cutbox-door.mjs). By AI agents, Wed Nov 11 2026. No macro, syntax, notation, axiom, sorry.
-/
import Derived.Test.YtgfdmdikiickpaaGreatDoorRows
import GoSem.ClaimSeven
namespace Go.Proofs.YtgfdmdikiickpaaGreatDoor
namespace Rows

/-- THE TIED CARD OF 'truchmanlaw46.CarryTakes'. -/
def carryTakesCard : Claim7 := { stood := { row := carryTakesRow, standIns := [], harness := (true, "974aae6ead509993fb7816ea0214b47360e40977b9ee7d2f2af3e7bd79c2a69d"), looks := true }, kinds := [], alts := [], laidByText := true, laidKinds := [.data, .pinned], laidTests := true, laidLooks := .later }
def CarryTakesCardSaid : Prop := Claim7.holds Tryz.pinned (.plain (OpenSpec.ofChange carryTakesSpec)) carryTakesCard

/-- THE TIED CARD OF 'truchmanlaw46.CarryPuts'. -/
def carryPutsCard : Claim7 := { stood := { row := carryPutsRow, standIns := [], harness := (true, "974aae6ead509993fb7816ea0214b47360e40977b9ee7d2f2af3e7bd79c2a69d"), looks := true }, kinds := [], alts := [], laidByText := true, laidKinds := [.data, .pinned], laidTests := true, laidLooks := .later }
def CarryPutsCardSaid : Prop := Claim7.holds Tryz.pinned (.plain (OpenSpec.ofChange carryPutsSpec)) carryPutsCard

/-- THE TIED CARD OF 'truchmanlaw46.CarryBack'. -/
def carryBackCard : Claim7 := { stood := { row := carryBackRow, standIns := [], harness := (true, "974aae6ead509993fb7816ea0214b47360e40977b9ee7d2f2af3e7bd79c2a69d"), looks := true }, kinds := [], alts := [], laidByText := true, laidKinds := [.data, .pinned], laidTests := true, laidLooks := .later }
def CarryBackCardSaid : Prop := Claim7.holds Tryz.pinned (.plain (OpenSpec.ofChange carryBackSpec)) carryBackCard

/-- THE SECOND FORM's CARD OF 'truchmanlaw46.CarryTakes'. -/
def carryTakesUptoCard : Claim7 := { stood := { row := carryTakesUptoRow, standIns := [], harness := (true, "974aae6ead509993fb7816ea0214b47360e40977b9ee7d2f2af3e7bd79c2a69d"), looks := true }, kinds := [], alts := [], laidByText := true, laidKinds := [.data, .pinned], laidTests := true, laidLooks := .later }
def CarryTakesUptoCardSaid : Prop := Claim7.holds Tryz.pinned (.plain (OpenSpec.upto carryTakesSpec)) carryTakesUptoCard

/-- THE SECOND FORM's CARD OF 'truchmanlaw46.CarryPuts'. -/
def carryPutsUptoCard : Claim7 := { stood := { row := carryPutsUptoRow, standIns := [], harness := (true, "974aae6ead509993fb7816ea0214b47360e40977b9ee7d2f2af3e7bd79c2a69d"), looks := true }, kinds := [], alts := [], laidByText := true, laidKinds := [.data, .pinned], laidTests := true, laidLooks := .later }
def CarryPutsUptoCardSaid : Prop := Claim7.holds Tryz.pinned (.plain (OpenSpec.upto carryPutsSpec)) carryPutsUptoCard

/-- THE SECOND FORM's CARD OF 'truchmanlaw46.CarryBack'. -/
def carryBackUptoCard : Claim7 := { stood := { row := carryBackUptoRow, standIns := [], harness := (true, "974aae6ead509993fb7816ea0214b47360e40977b9ee7d2f2af3e7bd79c2a69d"), looks := true }, kinds := [], alts := [], laidByText := true, laidKinds := [.data, .pinned], laidTests := true, laidLooks := .later }
def CarryBackUptoCardSaid : Prop := Claim7.holds Tryz.pinned (.plain (OpenSpec.upto carryBackSpec)) carryBackUptoCard
end Rows
end Go.Proofs.YtgfdmdikiickpaaGreatDoor
