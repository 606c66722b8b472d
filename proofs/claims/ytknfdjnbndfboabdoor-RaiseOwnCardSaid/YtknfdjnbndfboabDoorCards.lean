/-
  DERIVED. GIVEN WITH THE SEED: THE CARDS: each row of YtknfdjnbndfboabDoorRows.lean that lists a variable, with what it lists TIED to the program's text (the seventh form; the later family's looks); each row that meets fmt, with fmt's text TOLD by the authors' own Lean function (tested against real Go, not proved from fmt's source: count such statements apart). THE CARD IS WHAT COUNTS. Prove the row's statement (the work); the ties are given (YtknfdjnbndfboabDoorTie.lean); close each card by the builder's one call (the guide's Derived/Test/ToyasCard.lean, 'card_holds'). Laid BY PROGRAM, IN A SANDBOX (cutbox-door.mjs). By AI agents, Wed Nov 11 2026. No macro, syntax, notation, axiom, sorry.
-/
import Derived.Test.YtknfdjnbndfboabDoorRows
import GoSem.ClaimSeven
namespace Go.Proofs.YtknfdjnbndfboabDoor
namespace Rows

/-- THE TIED CARD OF 'taskmasterlaw15.SpreadFall'. -/
def spreadFallCard : Claim7 := { stood := { row := spreadFallRow, standIns := [], harness := (true, "3887e1efc2466b654239198491083b086df216e868ea245a8e92539ce8ab53e6"), looks := false }, kinds := [], alts := [], laidByText := true, laidKinds := [.listed, .data], laidTests := true, laidLooks := .later }
def SpreadFallCardSaid : Prop := Claim7.holds Tryd.pinned (.plain (OpenSpec.ofChange spreadFallSpec)) spreadFallCard

/-- THE TIED CARD OF 'taskmasterlaw15.SpreadOwn'. -/
def spreadOwnCard : Claim7 := { stood := { row := spreadOwnRow, standIns := [], harness := (true, "3887e1efc2466b654239198491083b086df216e868ea245a8e92539ce8ab53e6"), looks := false }, kinds := [], alts := [], laidByText := true, laidKinds := [.listed, .data], laidTests := true, laidLooks := .later }
def SpreadOwnCardSaid : Prop := Claim7.holds Tryd.pinned (.plain (OpenSpec.ofChange spreadOwnSpec)) spreadOwnCard

/-- THE TIED CARD OF 'taskmasterlaw17.RaiseOwn'. -/
def raiseOwnCard : Claim7 := { stood := { row := raiseOwnRow, standIns := [], harness := (true, "3887e1efc2466b654239198491083b086df216e868ea245a8e92539ce8ab53e6"), looks := false }, kinds := [], alts := [], laidByText := true, laidKinds := [.listed, .data], laidTests := true, laidLooks := .later }
def RaiseOwnCardSaid : Prop := Claim7.holds Tryd.pinned (.plain (OpenSpec.ofChange raiseOwnSpec)) raiseOwnCard

/-- THE SECOND FORM's CARD OF 'taskmasterlaw15.SpreadFall'. -/
def spreadFallUptoCard : Claim7 := { stood := { row := spreadFallUptoRow, standIns := [], harness := (true, "3887e1efc2466b654239198491083b086df216e868ea245a8e92539ce8ab53e6"), looks := false }, kinds := [], alts := [], laidByText := true, laidKinds := [.listed, .data], laidTests := true, laidLooks := .later }
def SpreadFallUptoCardSaid : Prop := Claim7.holds Tryd.pinned (.plain (OpenSpec.upto spreadFallSpec)) spreadFallUptoCard

/-- THE SECOND FORM's CARD OF 'taskmasterlaw15.SpreadOwn'. -/
def spreadOwnUptoCard : Claim7 := { stood := { row := spreadOwnUptoRow, standIns := [], harness := (true, "3887e1efc2466b654239198491083b086df216e868ea245a8e92539ce8ab53e6"), looks := false }, kinds := [], alts := [], laidByText := true, laidKinds := [.listed, .data], laidTests := true, laidLooks := .later }
def SpreadOwnUptoCardSaid : Prop := Claim7.holds Tryd.pinned (.plain (OpenSpec.upto spreadOwnSpec)) spreadOwnUptoCard

/-- THE SECOND FORM's CARD OF 'taskmasterlaw17.RaiseOwn'. -/
def raiseOwnUptoCard : Claim7 := { stood := { row := raiseOwnUptoRow, standIns := [], harness := (true, "3887e1efc2466b654239198491083b086df216e868ea245a8e92539ce8ab53e6"), looks := false }, kinds := [], alts := [], laidByText := true, laidKinds := [.listed, .data], laidTests := true, laidLooks := .later }
def RaiseOwnUptoCardSaid : Prop := Claim7.holds Tryd.pinned (.plain (OpenSpec.upto raiseOwnSpec)) raiseOwnUptoCard
end Rows
end Go.Proofs.YtknfdjnbndfboabDoor
