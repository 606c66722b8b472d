/-
  DERIVED. GIVEN WITH THE SEED: THE CARDS: each row of YtniejidekflmiaaGreatDoorRows.lean that lists a variable, with what it lists TIED to the program's text (the seventh form; the later family's looks); each row that meets fmt, with fmt's text TOLD by the authors' own Lean function (tested against real Go, not proved from fmt's source: count such statements apart). THE CARD IS WHAT COUNTS. Prove the row's statement (the work); the ties are given (YtniejidekflmiaaGreatDoorTie.lean); close each card by the builder's one call (the guide's Derived/Test/ToyasCard.lean, 'card_holds'). Laid BY PROGRAM, IN A SANDBOX (cutbox-door.mjs). By AI agents, Wed Nov 11 2026. No macro, syntax, notation, axiom, sorry.
-/
import Derived.Test.YtniejidekflmiaaGreatDoorRows
import GoSem.ClaimSeven
namespace Go.Proofs.YtniejidekflmiaaGreatDoor
namespace Rows

/-- THE TIED CARD OF 'taskmasterlaw25.KernelBlocks'. -/
def kernelBlocksCard : Claim7 := { stood := { row := kernelBlocksRow, standIns := [], harness := (true, "02362807312445a8aa0b7f3e834f31f940eaa522f1cf6b1d31d49044b6b14f0e"), looks := false }, kinds := [], alts := [], laidByText := true, laidKinds := [.data, .listed, .data], laidTests := true, laidLooks := .later }
def KernelBlocksCardSaid : Prop := Claim7.holds Tryz.pinned (.plain (OpenSpec.ofChange kernelBlocksSpec)) kernelBlocksCard

/-- THE TIED CARD OF 'taskmasterlaw25.KernelTime'. -/
def kernelTimeCard : Claim7 := { stood := { row := kernelTimeRow, standIns := [], harness := (true, "02362807312445a8aa0b7f3e834f31f940eaa522f1cf6b1d31d49044b6b14f0e"), looks := false }, kinds := [], alts := [], laidByText := true, laidKinds := [.data, .listed, .data], laidTests := true, laidLooks := .later }
def KernelTimeCardSaid : Prop := Claim7.holds Tryz.pinned (.plain (OpenSpec.ofChange kernelTimeSpec)) kernelTimeCard

/-- THE TIED CARD OF 'taskmasterlaw25.KernelSteps'. -/
def kernelStepsCard : Claim7 := { stood := { row := kernelStepsRow, standIns := [], harness := (true, "02362807312445a8aa0b7f3e834f31f940eaa522f1cf6b1d31d49044b6b14f0e"), looks := false }, kinds := [], alts := [], laidByText := true, laidKinds := [.data, .listed, .data], laidTests := true, laidLooks := .later }
def KernelStepsCardSaid : Prop := Claim7.holds Tryz.pinned (.plain (OpenSpec.ofChange kernelStepsSpec)) kernelStepsCard

/-- THE SECOND FORM's CARD OF 'taskmasterlaw25.KernelBlocks'. -/
def kernelBlocksUptoCard : Claim7 := { stood := { row := kernelBlocksUptoRow, standIns := [], harness := (true, "02362807312445a8aa0b7f3e834f31f940eaa522f1cf6b1d31d49044b6b14f0e"), looks := false }, kinds := [], alts := [], laidByText := true, laidKinds := [.data, .listed, .data], laidTests := true, laidLooks := .later }
def KernelBlocksUptoCardSaid : Prop := Claim7.holds Tryz.pinned (.plain (OpenSpec.upto kernelBlocksSpec)) kernelBlocksUptoCard

/-- THE SECOND FORM's CARD OF 'taskmasterlaw25.KernelTime'. -/
def kernelTimeUptoCard : Claim7 := { stood := { row := kernelTimeUptoRow, standIns := [], harness := (true, "02362807312445a8aa0b7f3e834f31f940eaa522f1cf6b1d31d49044b6b14f0e"), looks := false }, kinds := [], alts := [], laidByText := true, laidKinds := [.data, .listed, .data], laidTests := true, laidLooks := .later }
def KernelTimeUptoCardSaid : Prop := Claim7.holds Tryz.pinned (.plain (OpenSpec.upto kernelTimeSpec)) kernelTimeUptoCard

/-- THE SECOND FORM's CARD OF 'taskmasterlaw25.KernelSteps'. -/
def kernelStepsUptoCard : Claim7 := { stood := { row := kernelStepsUptoRow, standIns := [], harness := (true, "02362807312445a8aa0b7f3e834f31f940eaa522f1cf6b1d31d49044b6b14f0e"), looks := false }, kinds := [], alts := [], laidByText := true, laidKinds := [.data, .listed, .data], laidTests := true, laidLooks := .later }
def KernelStepsUptoCardSaid : Prop := Claim7.holds Tryz.pinned (.plain (OpenSpec.upto kernelStepsSpec)) kernelStepsUptoCard
end Rows
end Go.Proofs.YtniejidekflmiaaGreatDoor
