/-
  DERIVED. GIVEN WITH THE SEED: THE CARDS: each row of YtniejidekflmiaaDoorRows.lean that lists a variable, with what it lists TIED to the program's text (the seventh form; the later family's looks); each row that meets fmt, with fmt's text TOLD by the authors' own Lean function (tested against real Go, not proved from fmt's source: count such statements apart). THE CARD IS WHAT COUNTS. Prove the row's statement (the work); the ties are given (YtniejidekflmiaaDoorTie.lean); close each card by the builder's one call (the guide's Derived/Test/ToyasCard.lean, 'card_holds'). Laid BY PROGRAM, IN A SANDBOX (cutbox-door.mjs). By AI agents, Wed Nov 11 2026. No macro, syntax, notation, axiom, sorry.
-/
import Derived.Test.YtniejidekflmiaaDoorRows
import GoSem.ClaimSeven
namespace Go.Proofs.YtniejidekflmiaaDoor
namespace Rows

/-- THE TIED CARD OF 'taskmasterlaw25.KernelFair'. -/
def kernelFairCard : Claim7 := { stood := { row := kernelFairRow, standIns := [], harness := (true, "64da0041b71d2ebc8b94b89c21d1218a8ba06721f6204e98f1389c82e50acce8"), looks := false }, kinds := [], alts := [], laidByText := true, laidKinds := [.data, .listed, .data], laidTests := true, laidLooks := .later }
def KernelFairCardSaid : Prop := Claim7.holds Tryd.pinned (.plain (OpenSpec.ofChange kernelFairSpec)) kernelFairCard

/-- THE TIED CARD OF 'taskmasterlaw25.KernelBusy'. -/
def kernelBusyCard : Claim7 := { stood := { row := kernelBusyRow, standIns := [], harness := (true, "64da0041b71d2ebc8b94b89c21d1218a8ba06721f6204e98f1389c82e50acce8"), looks := false }, kinds := [], alts := [], laidByText := true, laidKinds := [.data, .listed, .data], laidTests := true, laidLooks := .later }
def KernelBusyCardSaid : Prop := Claim7.holds Tryd.pinned (.plain (OpenSpec.ofChange kernelBusySpec)) kernelBusyCard

/-- THE TIED CARD OF 'taskmasterlaw25.KernelKnown'. -/
def kernelKnownCard : Claim7 := { stood := { row := kernelKnownRow, standIns := [], harness := (true, "64da0041b71d2ebc8b94b89c21d1218a8ba06721f6204e98f1389c82e50acce8"), looks := false }, kinds := [], alts := [], laidByText := true, laidKinds := [.data, .listed, .data], laidTests := true, laidLooks := .later }
def KernelKnownCardSaid : Prop := Claim7.holds Tryd.pinned (.plain (OpenSpec.ofChange kernelKnownSpec)) kernelKnownCard

/-- THE TIED CARD OF 'taskmasterlaw25.KernelRefuses'. -/
def kernelRefusesCard : Claim7 := { stood := { row := kernelRefusesRow, standIns := [], harness := (true, "64da0041b71d2ebc8b94b89c21d1218a8ba06721f6204e98f1389c82e50acce8"), looks := false }, kinds := [], alts := [], laidByText := true, laidKinds := [.data, .listed, .data], laidTests := true, laidLooks := .later }
def KernelRefusesCardSaid : Prop := Claim7.holds Tryd.pinned (.plain (OpenSpec.ofChange kernelRefusesSpec)) kernelRefusesCard

/-- THE TIED CARD OF 'taskmasterlaw25.KernelLoads'. -/
def kernelLoadsCard : Claim7 := { stood := { row := kernelLoadsRow, standIns := [], harness := (true, "64da0041b71d2ebc8b94b89c21d1218a8ba06721f6204e98f1389c82e50acce8"), looks := false }, kinds := [], alts := [], laidByText := true, laidKinds := [.data, .listed, .data], laidTests := true, laidLooks := .later }
def KernelLoadsCardSaid : Prop := Claim7.holds Tryd.pinned (.plain (OpenSpec.ofChange kernelLoadsSpec)) kernelLoadsCard

/-- THE TIED CARD OF 'taskmasterlaw25.KernelOnce'. -/
def kernelOnceCard : Claim7 := { stood := { row := kernelOnceRow, standIns := [], harness := (true, "64da0041b71d2ebc8b94b89c21d1218a8ba06721f6204e98f1389c82e50acce8"), looks := false }, kinds := [], alts := [], laidByText := true, laidKinds := [.data, .listed, .data], laidTests := true, laidLooks := .later }
def KernelOnceCardSaid : Prop := Claim7.holds Tryd.pinned (.plain (OpenSpec.ofChange kernelOnceSpec)) kernelOnceCard

/-- THE TIED CARD OF 'taskmasterlaw25.KernelWork'. -/
def kernelWorkCard : Claim7 := { stood := { row := kernelWorkRow, standIns := [], harness := (true, "64da0041b71d2ebc8b94b89c21d1218a8ba06721f6204e98f1389c82e50acce8"), looks := false }, kinds := [], alts := [], laidByText := true, laidKinds := [.data, .listed, .data], laidTests := true, laidLooks := .later }
def KernelWorkCardSaid : Prop := Claim7.holds Tryd.pinned (.plain (OpenSpec.ofChange kernelWorkSpec)) kernelWorkCard

/-- THE TIED CARD OF 'taskmasterlaw25.KernelNames'. -/
def kernelNamesCard : Claim7 := { stood := { row := kernelNamesRow, standIns := [], harness := (true, "64da0041b71d2ebc8b94b89c21d1218a8ba06721f6204e98f1389c82e50acce8"), looks := false }, kinds := [], alts := [], laidByText := true, laidKinds := [.data, .listed, .data], laidTests := true, laidLooks := .later }
def KernelNamesCardSaid : Prop := Claim7.holds Tryd.pinned (.plain (OpenSpec.ofChange kernelNamesSpec)) kernelNamesCard

/-- THE TIED CARD OF 'taskmasterlaw25.KernelStates'. -/
def kernelStatesCard : Claim7 := { stood := { row := kernelStatesRow, standIns := [], harness := (true, "64da0041b71d2ebc8b94b89c21d1218a8ba06721f6204e98f1389c82e50acce8"), looks := false }, kinds := [], alts := [], laidByText := true, laidKinds := [.data, .listed, .data], laidTests := true, laidLooks := .later }
def KernelStatesCardSaid : Prop := Claim7.holds Tryd.pinned (.plain (OpenSpec.ofChange kernelStatesSpec)) kernelStatesCard

/-- THE SECOND FORM's CARD OF 'taskmasterlaw25.KernelFair'. -/
def kernelFairUptoCard : Claim7 := { stood := { row := kernelFairUptoRow, standIns := [], harness := (true, "64da0041b71d2ebc8b94b89c21d1218a8ba06721f6204e98f1389c82e50acce8"), looks := false }, kinds := [], alts := [], laidByText := true, laidKinds := [.data, .listed, .data], laidTests := true, laidLooks := .later }
def KernelFairUptoCardSaid : Prop := Claim7.holds Tryd.pinned (.plain (OpenSpec.upto kernelFairSpec)) kernelFairUptoCard

/-- THE SECOND FORM's CARD OF 'taskmasterlaw25.KernelBusy'. -/
def kernelBusyUptoCard : Claim7 := { stood := { row := kernelBusyUptoRow, standIns := [], harness := (true, "64da0041b71d2ebc8b94b89c21d1218a8ba06721f6204e98f1389c82e50acce8"), looks := false }, kinds := [], alts := [], laidByText := true, laidKinds := [.data, .listed, .data], laidTests := true, laidLooks := .later }
def KernelBusyUptoCardSaid : Prop := Claim7.holds Tryd.pinned (.plain (OpenSpec.upto kernelBusySpec)) kernelBusyUptoCard

/-- THE SECOND FORM's CARD OF 'taskmasterlaw25.KernelKnown'. -/
def kernelKnownUptoCard : Claim7 := { stood := { row := kernelKnownUptoRow, standIns := [], harness := (true, "64da0041b71d2ebc8b94b89c21d1218a8ba06721f6204e98f1389c82e50acce8"), looks := false }, kinds := [], alts := [], laidByText := true, laidKinds := [.data, .listed, .data], laidTests := true, laidLooks := .later }
def KernelKnownUptoCardSaid : Prop := Claim7.holds Tryd.pinned (.plain (OpenSpec.upto kernelKnownSpec)) kernelKnownUptoCard

/-- THE SECOND FORM's CARD OF 'taskmasterlaw25.KernelRefuses'. -/
def kernelRefusesUptoCard : Claim7 := { stood := { row := kernelRefusesUptoRow, standIns := [], harness := (true, "64da0041b71d2ebc8b94b89c21d1218a8ba06721f6204e98f1389c82e50acce8"), looks := false }, kinds := [], alts := [], laidByText := true, laidKinds := [.data, .listed, .data], laidTests := true, laidLooks := .later }
def KernelRefusesUptoCardSaid : Prop := Claim7.holds Tryd.pinned (.plain (OpenSpec.upto kernelRefusesSpec)) kernelRefusesUptoCard

/-- THE SECOND FORM's CARD OF 'taskmasterlaw25.KernelLoads'. -/
def kernelLoadsUptoCard : Claim7 := { stood := { row := kernelLoadsUptoRow, standIns := [], harness := (true, "64da0041b71d2ebc8b94b89c21d1218a8ba06721f6204e98f1389c82e50acce8"), looks := false }, kinds := [], alts := [], laidByText := true, laidKinds := [.data, .listed, .data], laidTests := true, laidLooks := .later }
def KernelLoadsUptoCardSaid : Prop := Claim7.holds Tryd.pinned (.plain (OpenSpec.upto kernelLoadsSpec)) kernelLoadsUptoCard

/-- THE SECOND FORM's CARD OF 'taskmasterlaw25.KernelOnce'. -/
def kernelOnceUptoCard : Claim7 := { stood := { row := kernelOnceUptoRow, standIns := [], harness := (true, "64da0041b71d2ebc8b94b89c21d1218a8ba06721f6204e98f1389c82e50acce8"), looks := false }, kinds := [], alts := [], laidByText := true, laidKinds := [.data, .listed, .data], laidTests := true, laidLooks := .later }
def KernelOnceUptoCardSaid : Prop := Claim7.holds Tryd.pinned (.plain (OpenSpec.upto kernelOnceSpec)) kernelOnceUptoCard

/-- THE SECOND FORM's CARD OF 'taskmasterlaw25.KernelWork'. -/
def kernelWorkUptoCard : Claim7 := { stood := { row := kernelWorkUptoRow, standIns := [], harness := (true, "64da0041b71d2ebc8b94b89c21d1218a8ba06721f6204e98f1389c82e50acce8"), looks := false }, kinds := [], alts := [], laidByText := true, laidKinds := [.data, .listed, .data], laidTests := true, laidLooks := .later }
def KernelWorkUptoCardSaid : Prop := Claim7.holds Tryd.pinned (.plain (OpenSpec.upto kernelWorkSpec)) kernelWorkUptoCard

/-- THE SECOND FORM's CARD OF 'taskmasterlaw25.KernelNames'. -/
def kernelNamesUptoCard : Claim7 := { stood := { row := kernelNamesUptoRow, standIns := [], harness := (true, "64da0041b71d2ebc8b94b89c21d1218a8ba06721f6204e98f1389c82e50acce8"), looks := false }, kinds := [], alts := [], laidByText := true, laidKinds := [.data, .listed, .data], laidTests := true, laidLooks := .later }
def KernelNamesUptoCardSaid : Prop := Claim7.holds Tryd.pinned (.plain (OpenSpec.upto kernelNamesSpec)) kernelNamesUptoCard

/-- THE SECOND FORM's CARD OF 'taskmasterlaw25.KernelStates'. -/
def kernelStatesUptoCard : Claim7 := { stood := { row := kernelStatesUptoRow, standIns := [], harness := (true, "64da0041b71d2ebc8b94b89c21d1218a8ba06721f6204e98f1389c82e50acce8"), looks := false }, kinds := [], alts := [], laidByText := true, laidKinds := [.data, .listed, .data], laidTests := true, laidLooks := .later }
def KernelStatesUptoCardSaid : Prop := Claim7.holds Tryd.pinned (.plain (OpenSpec.upto kernelStatesSpec)) kernelStatesUptoCard
end Rows
end Go.Proofs.YtniejidekflmiaaDoor
