/-
  DERIVED. GIVEN WITH THE SEED: THE CARDS: each row of YtlibnfkehcpdkaaDoorRows.lean that lists a variable, with what it lists TIED to the program's text (the seventh form; the later family's looks); each row that meets fmt, with fmt's text TOLD by the authors' own Lean function (tested against real Go, not proved from fmt's source: count such statements apart). THE CARD IS WHAT COUNTS. Prove the row's statement (the work); the ties are given (YtlibnfkehcpdkaaDoorTie.lean); close each card by the builder's one call (the guide's Derived/Test/ToyasCard.lean, 'card_holds'). Laid BY PROGRAM, IN A SANDBOX (cutbox-door.mjs). By AI agents, Wed Nov 11 2026. No macro, syntax, notation, axiom, sorry.
-/
import Derived.Test.YtlibnfkehcpdkaaDoorRows
import GoSem.ClaimSeven
namespace Go.Proofs.YtlibnfkehcpdkaaDoor
namespace Rows

/-- THE TIED CARD OF 'truchmanlaw02.WordFolds'. -/
def wordFoldsCard : Claim7 := { stood := { row := wordFoldsRow, standIns := [], harness := (true, "d44da5d0e75d217cc65f40c28235a5e8f70e6b484dad1800860dea3e6ee24587"), looks := false }, kinds := [], alts := [], laidByText := true, laidKinds := [.data], laidTests := true, laidLooks := .later }
def WordFoldsCardSaid : Prop := Claim7.holds Tryd.pinned (.plain (OpenSpec.ofChange wordFoldsSpec)) wordFoldsCard

/-- THE TIED CARD OF 'truchmanlaw02.WordFits'. -/
def wordFitsCard : Claim7 := { stood := { row := wordFitsRow, standIns := [], harness := (true, "d44da5d0e75d217cc65f40c28235a5e8f70e6b484dad1800860dea3e6ee24587"), looks := false }, kinds := [], alts := [], laidByText := true, laidKinds := [.data], laidTests := true, laidLooks := .later }
def WordFitsCardSaid : Prop := Claim7.holds Tryd.pinned (.plain (OpenSpec.ofChange wordFitsSpec)) wordFitsCard

/-- THE TIED CARD OF 'truchmanlaw02.WordReads'. -/
def wordReadsCard : Claim7 := { stood := { row := wordReadsRow, standIns := [], harness := (true, "d44da5d0e75d217cc65f40c28235a5e8f70e6b484dad1800860dea3e6ee24587"), looks := false }, kinds := [], alts := [], laidByText := true, laidKinds := [.data], laidTests := true, laidLooks := .later }
def WordReadsCardSaid : Prop := Claim7.holds Tryd.pinned (.plain (OpenSpec.ofChange wordReadsSpec)) wordReadsCard

/-- THE TIED CARD OF 'truchmanlaw02.WordLays'. -/
def wordLaysCard : Claim7 := { stood := { row := wordLaysRow, standIns := [], harness := (true, "d44da5d0e75d217cc65f40c28235a5e8f70e6b484dad1800860dea3e6ee24587"), looks := false }, kinds := [], alts := [], laidByText := true, laidKinds := [.data], laidTests := true, laidLooks := .later }
def WordLaysCardSaid : Prop := Claim7.holds Tryd.pinned (.plain (OpenSpec.ofChange wordLaysSpec)) wordLaysCard

/-- THE SECOND FORM's CARD OF 'truchmanlaw02.WordFolds'. -/
def wordFoldsUptoCard : Claim7 := { stood := { row := wordFoldsUptoRow, standIns := [], harness := (true, "d44da5d0e75d217cc65f40c28235a5e8f70e6b484dad1800860dea3e6ee24587"), looks := false }, kinds := [], alts := [], laidByText := true, laidKinds := [.data], laidTests := true, laidLooks := .later }
def WordFoldsUptoCardSaid : Prop := Claim7.holds Tryd.pinned (.plain (OpenSpec.upto wordFoldsSpec)) wordFoldsUptoCard

/-- THE SECOND FORM's CARD OF 'truchmanlaw02.WordFits'. -/
def wordFitsUptoCard : Claim7 := { stood := { row := wordFitsUptoRow, standIns := [], harness := (true, "d44da5d0e75d217cc65f40c28235a5e8f70e6b484dad1800860dea3e6ee24587"), looks := false }, kinds := [], alts := [], laidByText := true, laidKinds := [.data], laidTests := true, laidLooks := .later }
def WordFitsUptoCardSaid : Prop := Claim7.holds Tryd.pinned (.plain (OpenSpec.upto wordFitsSpec)) wordFitsUptoCard

/-- THE SECOND FORM's CARD OF 'truchmanlaw02.WordReads'. -/
def wordReadsUptoCard : Claim7 := { stood := { row := wordReadsUptoRow, standIns := [], harness := (true, "d44da5d0e75d217cc65f40c28235a5e8f70e6b484dad1800860dea3e6ee24587"), looks := false }, kinds := [], alts := [], laidByText := true, laidKinds := [.data], laidTests := true, laidLooks := .later }
def WordReadsUptoCardSaid : Prop := Claim7.holds Tryd.pinned (.plain (OpenSpec.upto wordReadsSpec)) wordReadsUptoCard

/-- THE SECOND FORM's CARD OF 'truchmanlaw02.WordLays'. -/
def wordLaysUptoCard : Claim7 := { stood := { row := wordLaysUptoRow, standIns := [], harness := (true, "d44da5d0e75d217cc65f40c28235a5e8f70e6b484dad1800860dea3e6ee24587"), looks := false }, kinds := [], alts := [], laidByText := true, laidKinds := [.data], laidTests := true, laidLooks := .later }
def WordLaysUptoCardSaid : Prop := Claim7.holds Tryd.pinned (.plain (OpenSpec.upto wordLaysSpec)) wordLaysUptoCard
end Rows
end Go.Proofs.YtlibnfkehcpdkaaDoor
