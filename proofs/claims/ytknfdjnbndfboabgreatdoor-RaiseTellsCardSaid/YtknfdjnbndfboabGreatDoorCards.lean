/-
  DERIVED. GIVEN WITH THE SEED: THE CARDS: each row of YtknfdjnbndfboabGreatDoorRows.lean that lists a variable, with what it lists TIED to the program's text (the seventh form; the later family's looks); each row that meets fmt, with fmt's text TOLD by the authors' own Lean function (tested against real Go, not proved from fmt's source: count such statements apart). THE CARD IS WHAT COUNTS. Prove the row's statement (the work); the ties are given (YtknfdjnbndfboabGreatDoorTie.lean); close each card by the builder's one call (the guide's Derived/Test/ToyasCard.lean, 'card_holds'). Laid BY PROGRAM, IN A SANDBOX (cutbox-door.mjs). By AI agents, Wed Nov 11 2026. No macro, syntax, notation, axiom, sorry.
-/
import Derived.Test.YtknfdjnbndfboabGreatDoorRows
import GoSem.ClaimSeven
namespace Go.Proofs.YtknfdjnbndfboabGreatDoor
namespace Rows

/-- THE TIED CARD OF 'taskmasterlaw17.RaiseTells'. -/
def raiseTellsCard : Claim7 := { stood := { row := raiseTellsRow, standIns := [], harness := (true, "5b4feb82cbb65bb81257f73a610c7bbc31f9baa13bc66195e6af38d49e76a5fc"), looks := false }, kinds := [], alts := [], laidByText := true, laidKinds := [.listed, .data], laidTests := true, laidLooks := .later }
def RaiseTellsCardSaid : Prop := Claim7.holds Tryz.pinned (.plain (OpenSpec.ofChange raiseTellsSpec)) raiseTellsCard

/-- THE TIED CARD OF 'taskmasterlaw17.RaiseAccepted'. -/
def raiseAcceptedCard : Claim7 := { stood := { row := raiseAcceptedRow, standIns := [], harness := (true, "5b4feb82cbb65bb81257f73a610c7bbc31f9baa13bc66195e6af38d49e76a5fc"), looks := false }, kinds := [], alts := [], laidByText := true, laidKinds := [.listed, .data], laidTests := true, laidLooks := .later }
def RaiseAcceptedCardSaid : Prop := Claim7.holds Tryz.pinned (.plain (OpenSpec.ofChange raiseAcceptedSpec)) raiseAcceptedCard

/-- THE TIED CARD OF 'taskmasterlaw17.RaiseMore'. -/
def raiseMoreCard : Claim7 := { stood := { row := raiseMoreRow, standIns := [], harness := (true, "5b4feb82cbb65bb81257f73a610c7bbc31f9baa13bc66195e6af38d49e76a5fc"), looks := false }, kinds := [], alts := [], laidByText := true, laidKinds := [.listed, .data], laidTests := true, laidLooks := .later }
def RaiseMoreCardSaid : Prop := Claim7.holds Tryz.pinned (.plain (OpenSpec.ofChange raiseMoreSpec)) raiseMoreCard

/-- THE SECOND FORM's CARD OF 'taskmasterlaw17.RaiseTells'. -/
def raiseTellsUptoCard : Claim7 := { stood := { row := raiseTellsUptoRow, standIns := [], harness := (true, "5b4feb82cbb65bb81257f73a610c7bbc31f9baa13bc66195e6af38d49e76a5fc"), looks := false }, kinds := [], alts := [], laidByText := true, laidKinds := [.listed, .data], laidTests := true, laidLooks := .later }
def RaiseTellsUptoCardSaid : Prop := Claim7.holds Tryz.pinned (.plain (OpenSpec.upto raiseTellsSpec)) raiseTellsUptoCard

/-- THE SECOND FORM's CARD OF 'taskmasterlaw17.RaiseAccepted'. -/
def raiseAcceptedUptoCard : Claim7 := { stood := { row := raiseAcceptedUptoRow, standIns := [], harness := (true, "5b4feb82cbb65bb81257f73a610c7bbc31f9baa13bc66195e6af38d49e76a5fc"), looks := false }, kinds := [], alts := [], laidByText := true, laidKinds := [.listed, .data], laidTests := true, laidLooks := .later }
def RaiseAcceptedUptoCardSaid : Prop := Claim7.holds Tryz.pinned (.plain (OpenSpec.upto raiseAcceptedSpec)) raiseAcceptedUptoCard

/-- THE SECOND FORM's CARD OF 'taskmasterlaw17.RaiseMore'. -/
def raiseMoreUptoCard : Claim7 := { stood := { row := raiseMoreUptoRow, standIns := [], harness := (true, "5b4feb82cbb65bb81257f73a610c7bbc31f9baa13bc66195e6af38d49e76a5fc"), looks := false }, kinds := [], alts := [], laidByText := true, laidKinds := [.listed, .data], laidTests := true, laidLooks := .later }
def RaiseMoreUptoCardSaid : Prop := Claim7.holds Tryz.pinned (.plain (OpenSpec.upto raiseMoreSpec)) raiseMoreUptoCard
end Rows
end Go.Proofs.YtknfdjnbndfboabGreatDoor
