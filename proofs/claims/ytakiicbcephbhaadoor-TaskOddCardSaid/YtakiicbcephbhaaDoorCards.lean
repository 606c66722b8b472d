/-
  DERIVED. GIVEN WITH THE SEED: THE CARDS: each row of YtakiicbcephbhaaDoorRows.lean that lists a variable, with what it lists TIED to the program's text (the seventh form; the later family's looks); each row that meets fmt, with fmt's text TOLD by the authors' own Lean function (tested against real Go, not proved from fmt's source: count such statements apart). THE CARD IS WHAT COUNTS. Prove the row's statement (the work); the ties are given (YtakiicbcephbhaaDoorTie.lean); close each card by the builder's one call (the guide's Derived/Test/ToyasCard.lean, 'card_holds'). Laid BY PROGRAM, IN A SANDBOX (cutbox-door.mjs). By AI agents, Wed Nov 11 2026. No macro, syntax, notation, axiom, sorry.
-/
import Derived.Test.YtakiicbcephbhaaDoorRows
import GoSem.ClaimSeven
namespace Go.Proofs.YtakiicbcephbhaaDoor
namespace Rows

/-- THE TIED CARD OF 'taskmasterlaw4.LexTokens'. -/
def lexTokensCard : Claim7 := { stood := { row := lexTokensRow, standIns := [], harness := (true, "58b38f7ca4d73288b480092f532149c966a8822f2fe5d3c4a0c31030fdaada28"), looks := false }, kinds := [], alts := [], laidByText := true, laidKinds := [.listed, .data], laidTests := true, laidLooks := .later }
def LexTokensCardSaid : Prop := Claim7.holds Tryd.pinned (.plain (OpenSpec.ofChange lexTokensSpec)) lexTokensCard

/-- THE TIED CARD OF 'taskmasterlaw4.LexNotes'. -/
def lexNotesCard : Claim7 := { stood := { row := lexNotesRow, standIns := [], harness := (true, "58b38f7ca4d73288b480092f532149c966a8822f2fe5d3c4a0c31030fdaada28"), looks := false }, kinds := [], alts := [], laidByText := true, laidKinds := [.listed, .data], laidTests := true, laidLooks := .later }
def LexNotesCardSaid : Prop := Claim7.holds Tryd.pinned (.plain (OpenSpec.ofChange lexNotesSpec)) lexNotesCard

/-- THE TIED CARD OF 'taskmasterlaw4.LexEnds'. -/
def lexEndsCard : Claim7 := { stood := { row := lexEndsRow, standIns := [], harness := (true, "58b38f7ca4d73288b480092f532149c966a8822f2fe5d3c4a0c31030fdaada28"), looks := false }, kinds := [], alts := [], laidByText := true, laidKinds := [.listed, .data], laidTests := true, laidLooks := .later }
def LexEndsCardSaid : Prop := Claim7.holds Tryd.pinned (.plain (OpenSpec.ofChange lexEndsSpec)) lexEndsCard

/-- THE TIED CARD OF 'taskmasterlaw4.LexOdd'. -/
def lexOddCard : Claim7 := { stood := { row := lexOddRow, standIns := [], harness := (true, "58b38f7ca4d73288b480092f532149c966a8822f2fe5d3c4a0c31030fdaada28"), looks := false }, kinds := [], alts := [], laidByText := true, laidKinds := [.listed, .data], laidTests := true, laidLooks := .later }
def LexOddCardSaid : Prop := Claim7.holds Tryd.pinned (.plain (OpenSpec.ofChange lexOddSpec)) lexOddCard

/-- THE TIED CARD OF 'taskmasterlaw4.LexWords'. -/
def lexWordsCard : Claim7 := { stood := { row := lexWordsRow, standIns := [], harness := (true, "58b38f7ca4d73288b480092f532149c966a8822f2fe5d3c4a0c31030fdaada28"), looks := false }, kinds := [], alts := [], laidByText := true, laidKinds := [.listed, .data], laidTests := true, laidLooks := .later }
def LexWordsCardSaid : Prop := Claim7.holds Tryd.pinned (.plain (OpenSpec.ofChange lexWordsSpec)) lexWordsCard

/-- THE TIED CARD OF 'taskmasterlaw4.LexJoin'. -/
def lexJoinCard : Claim7 := { stood := { row := lexJoinRow, standIns := [], harness := (true, "58b38f7ca4d73288b480092f532149c966a8822f2fe5d3c4a0c31030fdaada28"), looks := false }, kinds := [], alts := [], laidByText := true, laidKinds := [.listed, .data], laidTests := true, laidLooks := .later }
def LexJoinCardSaid : Prop := Claim7.holds Tryd.pinned (.plain (OpenSpec.ofChange lexJoinSpec)) lexJoinCard

/-- THE TIED CARD OF 'taskmasterlaw5.TaskIs'. -/
def taskIsCard : Claim7 := { stood := { row := taskIsRow, standIns := [], harness := (true, "58b38f7ca4d73288b480092f532149c966a8822f2fe5d3c4a0c31030fdaada28"), looks := false }, kinds := [], alts := [], laidByText := true, laidKinds := [.listed, .data], laidTests := true, laidLooks := .later }
def TaskIsCardSaid : Prop := Claim7.holds Tryd.pinned (.plain (OpenSpec.ofChange taskIsSpec)) taskIsCard

/-- THE TIED CARD OF 'taskmasterlaw5.TaskPriority'. -/
def taskPriorityCard : Claim7 := { stood := { row := taskPriorityRow, standIns := [], harness := (true, "58b38f7ca4d73288b480092f532149c966a8822f2fe5d3c4a0c31030fdaada28"), looks := false }, kinds := [], alts := [], laidByText := true, laidKinds := [.listed, .data], laidTests := true, laidLooks := .later }
def TaskPriorityCardSaid : Prop := Claim7.holds Tryd.pinned (.plain (OpenSpec.ofChange taskPrioritySpec)) taskPriorityCard

/-- THE TIED CARD OF 'taskmasterlaw5.TaskAll'. -/
def taskAllCard : Claim7 := { stood := { row := taskAllRow, standIns := [], harness := (true, "58b38f7ca4d73288b480092f532149c966a8822f2fe5d3c4a0c31030fdaada28"), looks := false }, kinds := [], alts := [], laidByText := true, laidKinds := [.listed, .data], laidTests := true, laidLooks := .later }
def TaskAllCardSaid : Prop := Claim7.holds Tryd.pinned (.plain (OpenSpec.ofChange taskAllSpec)) taskAllCard

/-- THE TIED CARD OF 'taskmasterlaw5.TaskOdd'. -/
def taskOddCard : Claim7 := { stood := { row := taskOddRow, standIns := [], harness := (true, "58b38f7ca4d73288b480092f532149c966a8822f2fe5d3c4a0c31030fdaada28"), looks := false }, kinds := [], alts := [], laidByText := true, laidKinds := [.listed, .data], laidTests := true, laidLooks := .later }
def TaskOddCardSaid : Prop := Claim7.holds Tryd.pinned (.plain (OpenSpec.ofChange taskOddSpec)) taskOddCard

/-- THE TIED CARD OF 'taskmasterlaw5.TaskSame'. -/
def taskSameCard : Claim7 := { stood := { row := taskSameRow, standIns := [], harness := (true, "58b38f7ca4d73288b480092f532149c966a8822f2fe5d3c4a0c31030fdaada28"), looks := false }, kinds := [], alts := [], laidByText := true, laidKinds := [.listed, .data], laidTests := true, laidLooks := .later }
def TaskSameCardSaid : Prop := Claim7.holds Tryd.pinned (.plain (OpenSpec.ofChange taskSameSpec)) taskSameCard

/-- THE TIED CARD OF 'taskmasterlaw5.TaskNames'. -/
def taskNamesCard : Claim7 := { stood := { row := taskNamesRow, standIns := [], harness := (true, "58b38f7ca4d73288b480092f532149c966a8822f2fe5d3c4a0c31030fdaada28"), looks := false }, kinds := [], alts := [], laidByText := true, laidKinds := [.listed, .data], laidTests := true, laidLooks := .later }
def TaskNamesCardSaid : Prop := Claim7.holds Tryd.pinned (.plain (OpenSpec.ofChange taskNamesSpec)) taskNamesCard

/-- THE SECOND FORM's CARD OF 'taskmasterlaw4.LexTokens'. -/
def lexTokensUptoCard : Claim7 := { stood := { row := lexTokensUptoRow, standIns := [], harness := (true, "58b38f7ca4d73288b480092f532149c966a8822f2fe5d3c4a0c31030fdaada28"), looks := false }, kinds := [], alts := [], laidByText := true, laidKinds := [.listed, .data], laidTests := true, laidLooks := .later }
def LexTokensUptoCardSaid : Prop := Claim7.holds Tryd.pinned (.plain (OpenSpec.upto lexTokensSpec)) lexTokensUptoCard

/-- THE SECOND FORM's CARD OF 'taskmasterlaw4.LexNotes'. -/
def lexNotesUptoCard : Claim7 := { stood := { row := lexNotesUptoRow, standIns := [], harness := (true, "58b38f7ca4d73288b480092f532149c966a8822f2fe5d3c4a0c31030fdaada28"), looks := false }, kinds := [], alts := [], laidByText := true, laidKinds := [.listed, .data], laidTests := true, laidLooks := .later }
def LexNotesUptoCardSaid : Prop := Claim7.holds Tryd.pinned (.plain (OpenSpec.upto lexNotesSpec)) lexNotesUptoCard

/-- THE SECOND FORM's CARD OF 'taskmasterlaw4.LexEnds'. -/
def lexEndsUptoCard : Claim7 := { stood := { row := lexEndsUptoRow, standIns := [], harness := (true, "58b38f7ca4d73288b480092f532149c966a8822f2fe5d3c4a0c31030fdaada28"), looks := false }, kinds := [], alts := [], laidByText := true, laidKinds := [.listed, .data], laidTests := true, laidLooks := .later }
def LexEndsUptoCardSaid : Prop := Claim7.holds Tryd.pinned (.plain (OpenSpec.upto lexEndsSpec)) lexEndsUptoCard

/-- THE SECOND FORM's CARD OF 'taskmasterlaw4.LexOdd'. -/
def lexOddUptoCard : Claim7 := { stood := { row := lexOddUptoRow, standIns := [], harness := (true, "58b38f7ca4d73288b480092f532149c966a8822f2fe5d3c4a0c31030fdaada28"), looks := false }, kinds := [], alts := [], laidByText := true, laidKinds := [.listed, .data], laidTests := true, laidLooks := .later }
def LexOddUptoCardSaid : Prop := Claim7.holds Tryd.pinned (.plain (OpenSpec.upto lexOddSpec)) lexOddUptoCard

/-- THE SECOND FORM's CARD OF 'taskmasterlaw4.LexWords'. -/
def lexWordsUptoCard : Claim7 := { stood := { row := lexWordsUptoRow, standIns := [], harness := (true, "58b38f7ca4d73288b480092f532149c966a8822f2fe5d3c4a0c31030fdaada28"), looks := false }, kinds := [], alts := [], laidByText := true, laidKinds := [.listed, .data], laidTests := true, laidLooks := .later }
def LexWordsUptoCardSaid : Prop := Claim7.holds Tryd.pinned (.plain (OpenSpec.upto lexWordsSpec)) lexWordsUptoCard

/-- THE SECOND FORM's CARD OF 'taskmasterlaw4.LexJoin'. -/
def lexJoinUptoCard : Claim7 := { stood := { row := lexJoinUptoRow, standIns := [], harness := (true, "58b38f7ca4d73288b480092f532149c966a8822f2fe5d3c4a0c31030fdaada28"), looks := false }, kinds := [], alts := [], laidByText := true, laidKinds := [.listed, .data], laidTests := true, laidLooks := .later }
def LexJoinUptoCardSaid : Prop := Claim7.holds Tryd.pinned (.plain (OpenSpec.upto lexJoinSpec)) lexJoinUptoCard

/-- THE SECOND FORM's CARD OF 'taskmasterlaw5.TaskIs'. -/
def taskIsUptoCard : Claim7 := { stood := { row := taskIsUptoRow, standIns := [], harness := (true, "58b38f7ca4d73288b480092f532149c966a8822f2fe5d3c4a0c31030fdaada28"), looks := false }, kinds := [], alts := [], laidByText := true, laidKinds := [.listed, .data], laidTests := true, laidLooks := .later }
def TaskIsUptoCardSaid : Prop := Claim7.holds Tryd.pinned (.plain (OpenSpec.upto taskIsSpec)) taskIsUptoCard

/-- THE SECOND FORM's CARD OF 'taskmasterlaw5.TaskPriority'. -/
def taskPriorityUptoCard : Claim7 := { stood := { row := taskPriorityUptoRow, standIns := [], harness := (true, "58b38f7ca4d73288b480092f532149c966a8822f2fe5d3c4a0c31030fdaada28"), looks := false }, kinds := [], alts := [], laidByText := true, laidKinds := [.listed, .data], laidTests := true, laidLooks := .later }
def TaskPriorityUptoCardSaid : Prop := Claim7.holds Tryd.pinned (.plain (OpenSpec.upto taskPrioritySpec)) taskPriorityUptoCard

/-- THE SECOND FORM's CARD OF 'taskmasterlaw5.TaskAll'. -/
def taskAllUptoCard : Claim7 := { stood := { row := taskAllUptoRow, standIns := [], harness := (true, "58b38f7ca4d73288b480092f532149c966a8822f2fe5d3c4a0c31030fdaada28"), looks := false }, kinds := [], alts := [], laidByText := true, laidKinds := [.listed, .data], laidTests := true, laidLooks := .later }
def TaskAllUptoCardSaid : Prop := Claim7.holds Tryd.pinned (.plain (OpenSpec.upto taskAllSpec)) taskAllUptoCard

/-- THE SECOND FORM's CARD OF 'taskmasterlaw5.TaskOdd'. -/
def taskOddUptoCard : Claim7 := { stood := { row := taskOddUptoRow, standIns := [], harness := (true, "58b38f7ca4d73288b480092f532149c966a8822f2fe5d3c4a0c31030fdaada28"), looks := false }, kinds := [], alts := [], laidByText := true, laidKinds := [.listed, .data], laidTests := true, laidLooks := .later }
def TaskOddUptoCardSaid : Prop := Claim7.holds Tryd.pinned (.plain (OpenSpec.upto taskOddSpec)) taskOddUptoCard

/-- THE SECOND FORM's CARD OF 'taskmasterlaw5.TaskSame'. -/
def taskSameUptoCard : Claim7 := { stood := { row := taskSameUptoRow, standIns := [], harness := (true, "58b38f7ca4d73288b480092f532149c966a8822f2fe5d3c4a0c31030fdaada28"), looks := false }, kinds := [], alts := [], laidByText := true, laidKinds := [.listed, .data], laidTests := true, laidLooks := .later }
def TaskSameUptoCardSaid : Prop := Claim7.holds Tryd.pinned (.plain (OpenSpec.upto taskSameSpec)) taskSameUptoCard

/-- THE SECOND FORM's CARD OF 'taskmasterlaw5.TaskNames'. -/
def taskNamesUptoCard : Claim7 := { stood := { row := taskNamesUptoRow, standIns := [], harness := (true, "58b38f7ca4d73288b480092f532149c966a8822f2fe5d3c4a0c31030fdaada28"), looks := false }, kinds := [], alts := [], laidByText := true, laidKinds := [.listed, .data], laidTests := true, laidLooks := .later }
def TaskNamesUptoCardSaid : Prop := Claim7.holds Tryd.pinned (.plain (OpenSpec.upto taskNamesSpec)) taskNamesUptoCard
end Rows
end Go.Proofs.YtakiicbcephbhaaDoor
