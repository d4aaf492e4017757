/-
  DERIVED. GIVEN WITH THE SEED: THE CARDS: each row of YtgfdmdikiickpaaDoorRows.lean that lists a variable, with what it lists TIED to the program's text (the seventh form; the later family's looks); each row that meets fmt, with fmt's text TOLD by the authors' own Lean function (tested against real Go, not proved from fmt's source: count such statements apart). THE CARD IS WHAT COUNTS. Prove the row's statement (the work); the ties are given (YtgfdmdikiickpaaDoorTie.lean); close each card by the builder's one call (the guide's Derived/Test/ToyasCard.lean, 'card_holds'). Laid BY PROGRAM, IN A SANDBOX (cutbox-door.mjs). By AI agents, Wed Nov 11 2026. No macro, syntax, notation, axiom, sorry.
-/
import Derived.Test.YtgfdmdikiickpaaDoorRows
import GoSem.ClaimSeven
namespace Go.Proofs.YtgfdmdikiickpaaDoor
namespace Rows

/-- THE TIED CARD OF 'truchmanlaw45.BthreeReads'. -/
def bthreeReadsCard : Claim7 := { stood := { row := bthreeReadsRow, standIns := [], harness := (true, "626ce60fb896fd99999c13a8a36ee324f7fb78b929686cb1c220baf306b21e15"), looks := true }, kinds := [], alts := [], laidByText := true, laidKinds := [.data, .pinned], laidTests := true, laidLooks := .later }
def BthreeReadsCardSaid : Prop := Claim7.holds Tryd.pinned (.plain (OpenSpec.ofChange bthreeReadsSpec)) bthreeReadsCard

/-- THE TIED CARD OF 'truchmanlaw45.BthreeTexts'. -/
def bthreeTextsCard : Claim7 := { stood := { row := bthreeTextsRow, standIns := [], harness := (true, "626ce60fb896fd99999c13a8a36ee324f7fb78b929686cb1c220baf306b21e15"), looks := true }, kinds := [], alts := [], laidByText := true, laidKinds := [.data, .pinned], laidTests := true, laidLooks := .later }
def BthreeTextsCardSaid : Prop := Claim7.holds Tryd.pinned (.plain (OpenSpec.ofChange bthreeTextsSpec)) bthreeTextsCard

/-- THE TIED CARD OF 'truchmanlaw45.BthreeBack'. -/
def bthreeBackCard : Claim7 := { stood := { row := bthreeBackRow, standIns := [], harness := (true, "626ce60fb896fd99999c13a8a36ee324f7fb78b929686cb1c220baf306b21e15"), looks := true }, kinds := [], alts := [], laidByText := true, laidKinds := [.data, .pinned], laidTests := true, laidLooks := .later }
def BthreeBackCardSaid : Prop := Claim7.holds Tryd.pinned (.plain (OpenSpec.ofChange bthreeBackSpec)) bthreeBackCard

/-- THE TIED CARD OF 'truchmanlaw44.StateReads'. -/
def stateReadsCard : Claim7 := { stood := { row := stateReadsRow, standIns := [], harness := (true, "626ce60fb896fd99999c13a8a36ee324f7fb78b929686cb1c220baf306b21e15"), looks := true }, kinds := [], alts := [], laidByText := true, laidKinds := [.data, .pinned], laidTests := true, laidLooks := .later }
def StateReadsCardSaid : Prop := Claim7.holds Tryd.pinned (.plain (OpenSpec.ofChange stateReadsSpec)) stateReadsCard

/-- THE TIED CARD OF 'truchmanlaw44.StateBack'. -/
def stateBackCard : Claim7 := { stood := { row := stateBackRow, standIns := [], harness := (true, "626ce60fb896fd99999c13a8a36ee324f7fb78b929686cb1c220baf306b21e15"), looks := true }, kinds := [], alts := [], laidByText := true, laidKinds := [.data, .pinned], laidTests := true, laidLooks := .later }
def StateBackCardSaid : Prop := Claim7.holds Tryd.pinned (.plain (OpenSpec.ofChange stateBackSpec)) stateBackCard

/-- THE TIED CARD OF 'truchmanlaw44.StatePuts'. -/
def statePutsCard : Claim7 := { stood := { row := statePutsRow, standIns := [], harness := (true, "626ce60fb896fd99999c13a8a36ee324f7fb78b929686cb1c220baf306b21e15"), looks := true }, kinds := [], alts := [], laidByText := true, laidKinds := [.data, .pinned], laidTests := true, laidLooks := .later }
def StatePutsCardSaid : Prop := Claim7.holds Tryd.pinned (.plain (OpenSpec.ofChange statePutsSpec)) statePutsCard

/-- THE SECOND FORM's CARD OF 'truchmanlaw45.BthreeReads'. -/
def bthreeReadsUptoCard : Claim7 := { stood := { row := bthreeReadsUptoRow, standIns := [], harness := (true, "626ce60fb896fd99999c13a8a36ee324f7fb78b929686cb1c220baf306b21e15"), looks := true }, kinds := [], alts := [], laidByText := true, laidKinds := [.data, .pinned], laidTests := true, laidLooks := .later }
def BthreeReadsUptoCardSaid : Prop := Claim7.holds Tryd.pinned (.plain (OpenSpec.upto bthreeReadsSpec)) bthreeReadsUptoCard

/-- THE SECOND FORM's CARD OF 'truchmanlaw45.BthreeTexts'. -/
def bthreeTextsUptoCard : Claim7 := { stood := { row := bthreeTextsUptoRow, standIns := [], harness := (true, "626ce60fb896fd99999c13a8a36ee324f7fb78b929686cb1c220baf306b21e15"), looks := true }, kinds := [], alts := [], laidByText := true, laidKinds := [.data, .pinned], laidTests := true, laidLooks := .later }
def BthreeTextsUptoCardSaid : Prop := Claim7.holds Tryd.pinned (.plain (OpenSpec.upto bthreeTextsSpec)) bthreeTextsUptoCard

/-- THE SECOND FORM's CARD OF 'truchmanlaw45.BthreeBack'. -/
def bthreeBackUptoCard : Claim7 := { stood := { row := bthreeBackUptoRow, standIns := [], harness := (true, "626ce60fb896fd99999c13a8a36ee324f7fb78b929686cb1c220baf306b21e15"), looks := true }, kinds := [], alts := [], laidByText := true, laidKinds := [.data, .pinned], laidTests := true, laidLooks := .later }
def BthreeBackUptoCardSaid : Prop := Claim7.holds Tryd.pinned (.plain (OpenSpec.upto bthreeBackSpec)) bthreeBackUptoCard

/-- THE SECOND FORM's CARD OF 'truchmanlaw44.StateReads'. -/
def stateReadsUptoCard : Claim7 := { stood := { row := stateReadsUptoRow, standIns := [], harness := (true, "626ce60fb896fd99999c13a8a36ee324f7fb78b929686cb1c220baf306b21e15"), looks := true }, kinds := [], alts := [], laidByText := true, laidKinds := [.data, .pinned], laidTests := true, laidLooks := .later }
def StateReadsUptoCardSaid : Prop := Claim7.holds Tryd.pinned (.plain (OpenSpec.upto stateReadsSpec)) stateReadsUptoCard

/-- THE SECOND FORM's CARD OF 'truchmanlaw44.StateBack'. -/
def stateBackUptoCard : Claim7 := { stood := { row := stateBackUptoRow, standIns := [], harness := (true, "626ce60fb896fd99999c13a8a36ee324f7fb78b929686cb1c220baf306b21e15"), looks := true }, kinds := [], alts := [], laidByText := true, laidKinds := [.data, .pinned], laidTests := true, laidLooks := .later }
def StateBackUptoCardSaid : Prop := Claim7.holds Tryd.pinned (.plain (OpenSpec.upto stateBackSpec)) stateBackUptoCard

/-- THE SECOND FORM's CARD OF 'truchmanlaw44.StatePuts'. -/
def statePutsUptoCard : Claim7 := { stood := { row := statePutsUptoRow, standIns := [], harness := (true, "626ce60fb896fd99999c13a8a36ee324f7fb78b929686cb1c220baf306b21e15"), looks := true }, kinds := [], alts := [], laidByText := true, laidKinds := [.data, .pinned], laidTests := true, laidLooks := .later }
def StatePutsUptoCardSaid : Prop := Claim7.holds Tryd.pinned (.plain (OpenSpec.upto statePutsSpec)) statePutsUptoCard
end Rows
end Go.Proofs.YtgfdmdikiickpaaDoor
