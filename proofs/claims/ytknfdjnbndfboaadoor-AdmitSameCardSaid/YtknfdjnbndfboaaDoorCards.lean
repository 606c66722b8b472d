/-
  DERIVED. GIVEN WITH THE SEED: THE CARDS: each row of YtknfdjnbndfboaaDoorRows.lean that lists a variable, with what it lists TIED to the program's text (the seventh form; the later family's looks); each row that meets fmt, with fmt's text TOLD by the authors' own Lean function (tested against real Go, not proved from fmt's source: count such statements apart). THE CARD IS WHAT COUNTS. Prove the row's statement (the work); the ties are given (YtknfdjnbndfboaaDoorTie.lean); close each card by the builder's one call (the guide's Derived/Test/ToyasCard.lean, 'card_holds'). Laid BY PROGRAM, IN A SANDBOX (cutbox-door.mjs). By AI agents, Wed Nov 11 2026. No macro, syntax, notation, axiom, sorry.
-/
import Derived.Test.YtknfdjnbndfboaaDoorRows
import GoSem.ClaimSeven
namespace Go.Proofs.YtknfdjnbndfboaaDoor
namespace Rows

/-- THE TIED CARD OF 'taskmasterlaw14.TolerEdge'. -/
def tolerEdgeCard : Claim7 := { stood := { row := tolerEdgeRow, standIns := [], harness := (true, "ec758b288963e166ec13bc1c1f1e6df5f857185ebfdbe9ab7f7c1d88ae3fd33a"), looks := false }, kinds := [], alts := [], laidByText := true, laidKinds := [.listed, .data], laidTests := true, laidLooks := .later }
def TolerEdgeCardSaid : Prop := Claim7.holds Tryd.pinned (.plain (OpenSpec.ofChange tolerEdgeSpec)) tolerEdgeCard

/-- THE TIED CARD OF 'taskmasterlaw14.TolerMode'. -/
def tolerModeCard : Claim7 := { stood := { row := tolerModeRow, standIns := [], harness := (true, "ec758b288963e166ec13bc1c1f1e6df5f857185ebfdbe9ab7f7c1d88ae3fd33a"), looks := false }, kinds := [], alts := [], laidByText := true, laidKinds := [.listed, .data], laidTests := true, laidLooks := .later }
def TolerModeCardSaid : Prop := Claim7.holds Tryd.pinned (.plain (OpenSpec.ofChange tolerModeSpec)) tolerModeCard

/-- THE TIED CARD OF 'taskmasterlaw14.TolerLess'. -/
def tolerLessCard : Claim7 := { stood := { row := tolerLessRow, standIns := [], harness := (true, "ec758b288963e166ec13bc1c1f1e6df5f857185ebfdbe9ab7f7c1d88ae3fd33a"), looks := false }, kinds := [], alts := [], laidByText := true, laidKinds := [.listed, .data], laidTests := true, laidLooks := .later }
def TolerLessCardSaid : Prop := Claim7.holds Tryd.pinned (.plain (OpenSpec.ofChange tolerLessSpec)) tolerLessCard

/-- THE TIED CARD OF 'taskmasterlaw14.TolerTells'. -/
def tolerTellsCard : Claim7 := { stood := { row := tolerTellsRow, standIns := [], harness := (true, "ec758b288963e166ec13bc1c1f1e6df5f857185ebfdbe9ab7f7c1d88ae3fd33a"), looks := false }, kinds := [], alts := [], laidByText := true, laidKinds := [.listed, .data], laidTests := true, laidLooks := .later }
def TolerTellsCardSaid : Prop := Claim7.holds Tryd.pinned (.plain (OpenSpec.ofChange tolerTellsSpec)) tolerTellsCard

/-- THE TIED CARD OF 'taskmasterlaw13.AdmitOne'. -/
def admitOneCard : Claim7 := { stood := { row := admitOneRow, standIns := [], harness := (true, "ec758b288963e166ec13bc1c1f1e6df5f857185ebfdbe9ab7f7c1d88ae3fd33a"), looks := false }, kinds := [], alts := [], laidByText := true, laidKinds := [.listed, .data], laidTests := true, laidLooks := .later }
def AdmitOneCardSaid : Prop := Claim7.holds Tryd.pinned (.plain (OpenSpec.ofChange admitOneSpec)) admitOneCard

/-- THE TIED CARD OF 'taskmasterlaw13.AdmitBounds'. -/
def admitBoundsCard : Claim7 := { stood := { row := admitBoundsRow, standIns := [], harness := (true, "ec758b288963e166ec13bc1c1f1e6df5f857185ebfdbe9ab7f7c1d88ae3fd33a"), looks := false }, kinds := [], alts := [], laidByText := true, laidKinds := [.listed, .data], laidTests := true, laidLooks := .later }
def AdmitBoundsCardSaid : Prop := Claim7.holds Tryd.pinned (.plain (OpenSpec.ofChange admitBoundsSpec)) admitBoundsCard

/-- THE TIED CARD OF 'taskmasterlaw13.AdmitSame'. -/
def admitSameCard : Claim7 := { stood := { row := admitSameRow, standIns := [], harness := (true, "ec758b288963e166ec13bc1c1f1e6df5f857185ebfdbe9ab7f7c1d88ae3fd33a"), looks := false }, kinds := [], alts := [], laidByText := true, laidKinds := [.listed, .data], laidTests := true, laidLooks := .later }
def AdmitSameCardSaid : Prop := Claim7.holds Tryd.pinned (.plain (OpenSpec.ofChange admitSameSpec)) admitSameCard

/-- THE SECOND FORM's CARD OF 'taskmasterlaw14.TolerEdge'. -/
def tolerEdgeUptoCard : Claim7 := { stood := { row := tolerEdgeUptoRow, standIns := [], harness := (true, "ec758b288963e166ec13bc1c1f1e6df5f857185ebfdbe9ab7f7c1d88ae3fd33a"), looks := false }, kinds := [], alts := [], laidByText := true, laidKinds := [.listed, .data], laidTests := true, laidLooks := .later }
def TolerEdgeUptoCardSaid : Prop := Claim7.holds Tryd.pinned (.plain (OpenSpec.upto tolerEdgeSpec)) tolerEdgeUptoCard

/-- THE SECOND FORM's CARD OF 'taskmasterlaw14.TolerMode'. -/
def tolerModeUptoCard : Claim7 := { stood := { row := tolerModeUptoRow, standIns := [], harness := (true, "ec758b288963e166ec13bc1c1f1e6df5f857185ebfdbe9ab7f7c1d88ae3fd33a"), looks := false }, kinds := [], alts := [], laidByText := true, laidKinds := [.listed, .data], laidTests := true, laidLooks := .later }
def TolerModeUptoCardSaid : Prop := Claim7.holds Tryd.pinned (.plain (OpenSpec.upto tolerModeSpec)) tolerModeUptoCard

/-- THE SECOND FORM's CARD OF 'taskmasterlaw14.TolerLess'. -/
def tolerLessUptoCard : Claim7 := { stood := { row := tolerLessUptoRow, standIns := [], harness := (true, "ec758b288963e166ec13bc1c1f1e6df5f857185ebfdbe9ab7f7c1d88ae3fd33a"), looks := false }, kinds := [], alts := [], laidByText := true, laidKinds := [.listed, .data], laidTests := true, laidLooks := .later }
def TolerLessUptoCardSaid : Prop := Claim7.holds Tryd.pinned (.plain (OpenSpec.upto tolerLessSpec)) tolerLessUptoCard

/-- THE SECOND FORM's CARD OF 'taskmasterlaw14.TolerTells'. -/
def tolerTellsUptoCard : Claim7 := { stood := { row := tolerTellsUptoRow, standIns := [], harness := (true, "ec758b288963e166ec13bc1c1f1e6df5f857185ebfdbe9ab7f7c1d88ae3fd33a"), looks := false }, kinds := [], alts := [], laidByText := true, laidKinds := [.listed, .data], laidTests := true, laidLooks := .later }
def TolerTellsUptoCardSaid : Prop := Claim7.holds Tryd.pinned (.plain (OpenSpec.upto tolerTellsSpec)) tolerTellsUptoCard

/-- THE SECOND FORM's CARD OF 'taskmasterlaw13.AdmitOne'. -/
def admitOneUptoCard : Claim7 := { stood := { row := admitOneUptoRow, standIns := [], harness := (true, "ec758b288963e166ec13bc1c1f1e6df5f857185ebfdbe9ab7f7c1d88ae3fd33a"), looks := false }, kinds := [], alts := [], laidByText := true, laidKinds := [.listed, .data], laidTests := true, laidLooks := .later }
def AdmitOneUptoCardSaid : Prop := Claim7.holds Tryd.pinned (.plain (OpenSpec.upto admitOneSpec)) admitOneUptoCard

/-- THE SECOND FORM's CARD OF 'taskmasterlaw13.AdmitBounds'. -/
def admitBoundsUptoCard : Claim7 := { stood := { row := admitBoundsUptoRow, standIns := [], harness := (true, "ec758b288963e166ec13bc1c1f1e6df5f857185ebfdbe9ab7f7c1d88ae3fd33a"), looks := false }, kinds := [], alts := [], laidByText := true, laidKinds := [.listed, .data], laidTests := true, laidLooks := .later }
def AdmitBoundsUptoCardSaid : Prop := Claim7.holds Tryd.pinned (.plain (OpenSpec.upto admitBoundsSpec)) admitBoundsUptoCard

/-- THE SECOND FORM's CARD OF 'taskmasterlaw13.AdmitSame'. -/
def admitSameUptoCard : Claim7 := { stood := { row := admitSameUptoRow, standIns := [], harness := (true, "ec758b288963e166ec13bc1c1f1e6df5f857185ebfdbe9ab7f7c1d88ae3fd33a"), looks := false }, kinds := [], alts := [], laidByText := true, laidKinds := [.listed, .data], laidTests := true, laidLooks := .later }
def AdmitSameUptoCardSaid : Prop := Claim7.holds Tryd.pinned (.plain (OpenSpec.upto admitSameSpec)) admitSameUptoCard
end Rows
end Go.Proofs.YtknfdjnbndfboaaDoor
