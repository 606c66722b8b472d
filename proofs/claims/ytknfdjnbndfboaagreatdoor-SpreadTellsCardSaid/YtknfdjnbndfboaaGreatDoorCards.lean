/-
  DERIVED. GIVEN WITH THE SEED: THE CARDS: each row of YtknfdjnbndfboaaGreatDoorRows.lean that lists a variable, with what it lists TIED to the program's text (the seventh form; the later family's looks); each row that meets fmt, with fmt's text TOLD by the authors' own Lean function (tested against real Go, not proved from fmt's source: count such statements apart). THE CARD IS WHAT COUNTS. Prove the row's statement (the work); the ties are given (YtknfdjnbndfboaaGreatDoorTie.lean); close each card by the builder's one call (the guide's Derived/Test/ToyasCard.lean, 'card_holds'). Laid BY PROGRAM, IN A SANDBOX (cutbox-door.mjs). By AI agents, Wed Nov 11 2026. No macro, syntax, notation, axiom, sorry.
-/
import Derived.Test.YtknfdjnbndfboaaGreatDoorRows
import GoSem.ClaimSeven
namespace Go.Proofs.YtknfdjnbndfboaaGreatDoor
namespace Rows

/-- THE TIED CARD OF 'taskmasterlaw13.AdmitLess'. -/
def admitLessCard : Claim7 := { stood := { row := admitLessRow, standIns := [], harness := (true, "212e3d24310881cbd65741d26316300118f42cf77f9076128c20e26cc8c5b92c"), looks := false }, kinds := [], alts := [], laidByText := true, laidKinds := [.listed, .data], laidTests := true, laidLooks := .later }
def AdmitLessCardSaid : Prop := Claim7.holds Tryz.pinned (.plain (OpenSpec.ofChange admitLessSpec)) admitLessCard

/-- THE TIED CARD OF 'taskmasterlaw13.AdmitJudges'. -/
def admitJudgesCard : Claim7 := { stood := { row := admitJudgesRow, standIns := [], harness := (true, "212e3d24310881cbd65741d26316300118f42cf77f9076128c20e26cc8c5b92c"), looks := false }, kinds := [], alts := [], laidByText := true, laidKinds := [.listed, .data], laidTests := true, laidLooks := .later }
def AdmitJudgesCardSaid : Prop := Claim7.holds Tryz.pinned (.plain (OpenSpec.ofChange admitJudgesSpec)) admitJudgesCard

/-- THE TIED CARD OF 'taskmasterlaw15.SpreadTells'. -/
def spreadTellsCard : Claim7 := { stood := { row := spreadTellsRow, standIns := [], harness := (true, "212e3d24310881cbd65741d26316300118f42cf77f9076128c20e26cc8c5b92c"), looks := false }, kinds := [], alts := [], laidByText := true, laidKinds := [.listed, .data], laidTests := true, laidLooks := .later }
def SpreadTellsCardSaid : Prop := Claim7.holds Tryz.pinned (.plain (OpenSpec.ofChange spreadTellsSpec)) spreadTellsCard

/-- THE TIED CARD OF 'taskmasterlaw15.SpreadAccepted'. -/
def spreadAcceptedCard : Claim7 := { stood := { row := spreadAcceptedRow, standIns := [], harness := (true, "212e3d24310881cbd65741d26316300118f42cf77f9076128c20e26cc8c5b92c"), looks := false }, kinds := [], alts := [], laidByText := true, laidKinds := [.listed, .data], laidTests := true, laidLooks := .later }
def SpreadAcceptedCardSaid : Prop := Claim7.holds Tryz.pinned (.plain (OpenSpec.ofChange spreadAcceptedSpec)) spreadAcceptedCard

/-- THE TIED CARD OF 'taskmasterlaw15.SpreadMore'. -/
def spreadMoreCard : Claim7 := { stood := { row := spreadMoreRow, standIns := [], harness := (true, "212e3d24310881cbd65741d26316300118f42cf77f9076128c20e26cc8c5b92c"), looks := false }, kinds := [], alts := [], laidByText := true, laidKinds := [.listed, .data], laidTests := true, laidLooks := .later }
def SpreadMoreCardSaid : Prop := Claim7.holds Tryz.pinned (.plain (OpenSpec.ofChange spreadMoreSpec)) spreadMoreCard

/-- THE SECOND FORM's CARD OF 'taskmasterlaw13.AdmitLess'. -/
def admitLessUptoCard : Claim7 := { stood := { row := admitLessUptoRow, standIns := [], harness := (true, "212e3d24310881cbd65741d26316300118f42cf77f9076128c20e26cc8c5b92c"), looks := false }, kinds := [], alts := [], laidByText := true, laidKinds := [.listed, .data], laidTests := true, laidLooks := .later }
def AdmitLessUptoCardSaid : Prop := Claim7.holds Tryz.pinned (.plain (OpenSpec.upto admitLessSpec)) admitLessUptoCard

/-- THE SECOND FORM's CARD OF 'taskmasterlaw13.AdmitJudges'. -/
def admitJudgesUptoCard : Claim7 := { stood := { row := admitJudgesUptoRow, standIns := [], harness := (true, "212e3d24310881cbd65741d26316300118f42cf77f9076128c20e26cc8c5b92c"), looks := false }, kinds := [], alts := [], laidByText := true, laidKinds := [.listed, .data], laidTests := true, laidLooks := .later }
def AdmitJudgesUptoCardSaid : Prop := Claim7.holds Tryz.pinned (.plain (OpenSpec.upto admitJudgesSpec)) admitJudgesUptoCard

/-- THE SECOND FORM's CARD OF 'taskmasterlaw15.SpreadTells'. -/
def spreadTellsUptoCard : Claim7 := { stood := { row := spreadTellsUptoRow, standIns := [], harness := (true, "212e3d24310881cbd65741d26316300118f42cf77f9076128c20e26cc8c5b92c"), looks := false }, kinds := [], alts := [], laidByText := true, laidKinds := [.listed, .data], laidTests := true, laidLooks := .later }
def SpreadTellsUptoCardSaid : Prop := Claim7.holds Tryz.pinned (.plain (OpenSpec.upto spreadTellsSpec)) spreadTellsUptoCard

/-- THE SECOND FORM's CARD OF 'taskmasterlaw15.SpreadAccepted'. -/
def spreadAcceptedUptoCard : Claim7 := { stood := { row := spreadAcceptedUptoRow, standIns := [], harness := (true, "212e3d24310881cbd65741d26316300118f42cf77f9076128c20e26cc8c5b92c"), looks := false }, kinds := [], alts := [], laidByText := true, laidKinds := [.listed, .data], laidTests := true, laidLooks := .later }
def SpreadAcceptedUptoCardSaid : Prop := Claim7.holds Tryz.pinned (.plain (OpenSpec.upto spreadAcceptedSpec)) spreadAcceptedUptoCard

/-- THE SECOND FORM's CARD OF 'taskmasterlaw15.SpreadMore'. -/
def spreadMoreUptoCard : Claim7 := { stood := { row := spreadMoreUptoRow, standIns := [], harness := (true, "212e3d24310881cbd65741d26316300118f42cf77f9076128c20e26cc8c5b92c"), looks := false }, kinds := [], alts := [], laidByText := true, laidKinds := [.listed, .data], laidTests := true, laidLooks := .later }
def SpreadMoreUptoCardSaid : Prop := Claim7.holds Tryz.pinned (.plain (OpenSpec.upto spreadMoreSpec)) spreadMoreUptoCard
end Rows
end Go.Proofs.YtknfdjnbndfboaaGreatDoor
