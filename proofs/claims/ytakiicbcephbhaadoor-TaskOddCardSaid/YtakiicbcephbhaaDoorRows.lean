/-
  NARROWER THAN 'FOR EVERY INPUT', by the rows' own cells (each row's printed sentence says how): LexTokens: laid · LexNotes: laid · LexEnds: laid · LexOdd: laid · LexWords: laid · LexJoin: laid · TaskIs: laid · TaskPriority: laid · TaskAll: laid · TaskOdd: laid · TaskSame: laid · TaskNames: laid.
  DERIVED. THE GIVEN ROWS OF THIS SEAT. 12 by the template 'for every input the law returns true; each argument reads behind the call as it read before'; 0 by the template 'total and deterministic' (their statements: YtakiicbcephbhaaDoorTotals.lean).
  GIVEN WITH THE SEED: the statements are not yours to turn. If you find one false, say at which input.
  Laid BY PROGRAM, IN A SANDBOX (cutbox-rows.mjs): the forced cells as the released guide's own fill.sh prints them over the translation ce63753cd9f83d6c… (all of the seat's roots in one cut). By AI agents, Wed Nov 11 2026. No macro, syntax, notation, axiom, sorry.
-/
import Derived.Test.YtakiicbcephbhaaDoorChecked
import GoSem.Claim
import GoSem.ClaimJoined
import GoSem.ClaimMapViews
import Derived.JoinedTies
import Derived.KernelRfl
namespace Go.Proofs.YtakiicbcephbhaaDoor
/- THE CELL 'sum', in the pinned program and in every row, IS THE sha256 OF THE DUMP (.gsa) THAT YtakiicbcephbhaaDoorProg.lean LOADS. Nothing in Lean hashes anything: it is a label: what it is worth is what the hold of that sum in a sandbox is worth. -/
noncomputable def Tryd.pinned : Pinned := { name := "ytakiicbcephbhaadoor", sum := "ce63753cd9f83d6c67da1965c3119cfc9916799d87ee7a9c59c23bda84368ed2", checked := Tryd.checked }
namespace Rows
def none {H : Type} : Left H := { results := [], args := [] }

/- WHAT THE LISTED PACKAGE-LEVEL VARIABLES READ AS WHEN THE CALL BEGINS. Each datum BY PROGRAM (the guide's laid-datum.mjs) off the statement by which the dump's own 'gosem.cut.vars' lays the variable. In a bare row this is a premise. The card (YtakiicbcephbhaaDoorCards.lean) ties it to the program's text. -/
def laid_unicode_White_Space {H : Type} : DataW H := .ptr (.agg [.slice [.agg [.lit (.int .u16 9), .lit (.int .u16 13), .lit (.int .u16 1)], .agg [.lit (.int .u16 32), .lit (.int .u16 133), .lit (.int .u16 101)], .agg [.lit (.int .u16 160), .lit (.int .u16 5760), .lit (.int .u16 5600)], .agg [.lit (.int .u16 8192), .lit (.int .u16 8202), .lit (.int .u16 1)], .agg [.lit (.int .u16 8232), .lit (.int .u16 8233), .lit (.int .u16 1)], .agg [.lit (.int .u16 8239), .lit (.int .u16 8287), .lit (.int .u16 48)], .agg [.lit (.int .u16 12288), .lit (.int .u16 12288), .lit (.int .u16 1)]] [], .nil, .lit (.int .i64 2)])
def laid_strings_asciiSpace {H : Type} : DataW H := .agg [.lit (.int .u8 0), .lit (.int .u8 0), .lit (.int .u8 0), .lit (.int .u8 0), .lit (.int .u8 0), .lit (.int .u8 0), .lit (.int .u8 0), .lit (.int .u8 0), .lit (.int .u8 0), .lit (.int .u8 1), .lit (.int .u8 1), .lit (.int .u8 1), .lit (.int .u8 1), .lit (.int .u8 1), .lit (.int .u8 0), .lit (.int .u8 0), .lit (.int .u8 0), .lit (.int .u8 0), .lit (.int .u8 0), .lit (.int .u8 0), .lit (.int .u8 0), .lit (.int .u8 0), .lit (.int .u8 0), .lit (.int .u8 0), .lit (.int .u8 0), .lit (.int .u8 0), .lit (.int .u8 0), .lit (.int .u8 0), .lit (.int .u8 0), .lit (.int .u8 0), .lit (.int .u8 0), .lit (.int .u8 0), .lit (.int .u8 1), .lit (.int .u8 0), .lit (.int .u8 0), .lit (.int .u8 0), .lit (.int .u8 0), .lit (.int .u8 0), .lit (.int .u8 0), .lit (.int .u8 0), .lit (.int .u8 0), .lit (.int .u8 0), .lit (.int .u8 0), .lit (.int .u8 0), .lit (.int .u8 0), .lit (.int .u8 0), .lit (.int .u8 0), .lit (.int .u8 0), .lit (.int .u8 0), .lit (.int .u8 0), .lit (.int .u8 0), .lit (.int .u8 0), .lit (.int .u8 0), .lit (.int .u8 0), .lit (.int .u8 0), .lit (.int .u8 0), .lit (.int .u8 0), .lit (.int .u8 0), .lit (.int .u8 0), .lit (.int .u8 0), .lit (.int .u8 0), .lit (.int .u8 0), .lit (.int .u8 0), .lit (.int .u8 0), .lit (.int .u8 0), .lit (.int .u8 0), .lit (.int .u8 0), .lit (.int .u8 0), .lit (.int .u8 0), .lit (.int .u8 0), .lit (.int .u8 0), .lit (.int .u8 0), .lit (.int .u8 0), .lit (.int .u8 0), .lit (.int .u8 0), .lit (.int .u8 0), .lit (.int .u8 0), .lit (.int .u8 0), .lit (.int .u8 0), .lit (.int .u8 0), .lit (.int .u8 0), .lit (.int .u8 0), .lit (.int .u8 0), .lit (.int .u8 0), .lit (.int .u8 0), .lit (.int .u8 0), .lit (.int .u8 0), .lit (.int .u8 0), .lit (.int .u8 0), .lit (.int .u8 0), .lit (.int .u8 0), .lit (.int .u8 0), .lit (.int .u8 0), .lit (.int .u8 0), .lit (.int .u8 0), .lit (.int .u8 0), .lit (.int .u8 0), .lit (.int .u8 0), .lit (.int .u8 0), .lit (.int .u8 0), .lit (.int .u8 0), .lit (.int .u8 0), .lit (.int .u8 0), .lit (.int .u8 0), .lit (.int .u8 0), .lit (.int .u8 0), .lit (.int .u8 0), .lit (.int .u8 0), .lit (.int .u8 0), .lit (.int .u8 0), .lit (.int .u8 0), .lit (.int .u8 0), .lit (.int .u8 0), .lit (.int .u8 0), .lit (.int .u8 0), .lit (.int .u8 0), .lit (.int .u8 0), .lit (.int .u8 0), .lit (.int .u8 0), .lit (.int .u8 0), .lit (.int .u8 0), .lit (.int .u8 0), .lit (.int .u8 0), .lit (.int .u8 0), .lit (.int .u8 0), .lit (.int .u8 0), .lit (.int .u8 0), .lit (.int .u8 0), .lit (.int .u8 0), .lit (.int .u8 0), .lit (.int .u8 0), .lit (.int .u8 0), .lit (.int .u8 0), .lit (.int .u8 0), .lit (.int .u8 0), .lit (.int .u8 0), .lit (.int .u8 0), .lit (.int .u8 0), .lit (.int .u8 0), .lit (.int .u8 0), .lit (.int .u8 0), .lit (.int .u8 0), .lit (.int .u8 0), .lit (.int .u8 0), .lit (.int .u8 0), .lit (.int .u8 0), .lit (.int .u8 0), .lit (.int .u8 0), .lit (.int .u8 0), .lit (.int .u8 0), .lit (.int .u8 0), .lit (.int .u8 0), .lit (.int .u8 0), .lit (.int .u8 0), .lit (.int .u8 0), .lit (.int .u8 0), .lit (.int .u8 0), .lit (.int .u8 0), .lit (.int .u8 0), .lit (.int .u8 0), .lit (.int .u8 0), .lit (.int .u8 0), .lit (.int .u8 0), .lit (.int .u8 0), .lit (.int .u8 0), .lit (.int .u8 0), .lit (.int .u8 0), .lit (.int .u8 0), .lit (.int .u8 0), .lit (.int .u8 0), .lit (.int .u8 0), .lit (.int .u8 0), .lit (.int .u8 0), .lit (.int .u8 0), .lit (.int .u8 0), .lit (.int .u8 0), .lit (.int .u8 0), .lit (.int .u8 0), .lit (.int .u8 0), .lit (.int .u8 0), .lit (.int .u8 0), .lit (.int .u8 0), .lit (.int .u8 0), .lit (.int .u8 0), .lit (.int .u8 0), .lit (.int .u8 0), .lit (.int .u8 0), .lit (.int .u8 0), .lit (.int .u8 0), .lit (.int .u8 0), .lit (.int .u8 0), .lit (.int .u8 0), .lit (.int .u8 0), .lit (.int .u8 0), .lit (.int .u8 0), .lit (.int .u8 0), .lit (.int .u8 0), .lit (.int .u8 0), .lit (.int .u8 0), .lit (.int .u8 0), .lit (.int .u8 0), .lit (.int .u8 0), .lit (.int .u8 0), .lit (.int .u8 0), .lit (.int .u8 0), .lit (.int .u8 0), .lit (.int .u8 0), .lit (.int .u8 0), .lit (.int .u8 0), .lit (.int .u8 0), .lit (.int .u8 0), .lit (.int .u8 0), .lit (.int .u8 0), .lit (.int .u8 0), .lit (.int .u8 0), .lit (.int .u8 0), .lit (.int .u8 0), .lit (.int .u8 0), .lit (.int .u8 0), .lit (.int .u8 0), .lit (.int .u8 0), .lit (.int .u8 0), .lit (.int .u8 0), .lit (.int .u8 0), .lit (.int .u8 0), .lit (.int .u8 0), .lit (.int .u8 0), .lit (.int .u8 0), .lit (.int .u8 0), .lit (.int .u8 0), .lit (.int .u8 0), .lit (.int .u8 0), .lit (.int .u8 0), .lit (.int .u8 0), .lit (.int .u8 0), .lit (.int .u8 0), .lit (.int .u8 0), .lit (.int .u8 0), .lit (.int .u8 0), .lit (.int .u8 0), .lit (.int .u8 0), .lit (.int .u8 0), .lit (.int .u8 0), .lit (.int .u8 0), .lit (.int .u8 0), .lit (.int .u8 0), .lit (.int .u8 0), .lit (.int .u8 0), .lit (.int .u8 0), .lit (.int .u8 0), .lit (.int .u8 0), .lit (.int .u8 0), .lit (.int .u8 0), .lit (.int .u8 0), .lit (.int .u8 0), .lit (.int .u8 0)]

/-- 'taskmasterlaw4.LexTokens': WHATEVER THE INPUT: true; the input reads as it did. -/
def lexTokensSpec : ChangeSpec := { name := "lexTokens", fn := fun _ => fun
  | [d] => { results := [.lit (.bool true)], args := [d] }
  | _ => none }
def lexTokensRow : OpenClaim := { program := "ytakiicbcephbhaadoor", sum := "ce63753cd9f83d6c67da1965c3119cfc9916799d87ee7a9c59c23bda84368ed2", func := "taskmaster/taskmasterlaw4.LexTokens", spec := "lexTokens", unfollowed := true, recurses := true, named := ["strings.asciiSpace", "unicode.White_Space"], apart := false, laid := [("unicode.White_Space", laid_unicode_White_Space), ("strings.asciiSpace", laid_strings_asciiSpace)] }
def LexTokensSaid : Prop := lexTokensRow.holds Tryd.pinned (OpenSpec.ofChange lexTokensSpec)

/-- ITS FALSE NEIGHBOUR: 'it returns false'. Refute it at one input. -/
def lexTokensWrong : ChangeSpec := { name := "lexTokens", fn := fun _ => fun
  | [d] => { results := [.lit (.bool false)], args := [d] }
  | _ => none }
def LexTokensWrongFalsely : Prop := lexTokensRow.holds Tryd.pinned (OpenSpec.ofChange lexTokensWrong)

/-- 'taskmasterlaw4.LexNotes': WHATEVER THE INPUT: true; the input reads as it did. -/
def lexNotesSpec : ChangeSpec := { name := "lexNotes", fn := fun _ => fun
  | [d1, d2] => { results := [.lit (.bool true)], args := [d1, d2] }
  | _ => none }
def lexNotesRow : OpenClaim := { program := "ytakiicbcephbhaadoor", sum := "ce63753cd9f83d6c67da1965c3119cfc9916799d87ee7a9c59c23bda84368ed2", func := "taskmaster/taskmasterlaw4.LexNotes", spec := "lexNotes", unfollowed := true, recurses := true, named := ["strings.asciiSpace", "unicode.White_Space"], apart := false, laid := [("unicode.White_Space", laid_unicode_White_Space), ("strings.asciiSpace", laid_strings_asciiSpace)] }
def LexNotesSaid : Prop := lexNotesRow.holds Tryd.pinned (OpenSpec.ofChange lexNotesSpec)

/-- ITS FALSE NEIGHBOUR: 'it returns false'. Refute it at one input. -/
def lexNotesWrong : ChangeSpec := { name := "lexNotes", fn := fun _ => fun
  | [d1, d2] => { results := [.lit (.bool false)], args := [d1, d2] }
  | _ => none }
def LexNotesWrongFalsely : Prop := lexNotesRow.holds Tryd.pinned (OpenSpec.ofChange lexNotesWrong)

/-- 'taskmasterlaw4.LexEnds': WHATEVER THE INPUT: true; the input reads as it did. -/
def lexEndsSpec : ChangeSpec := { name := "lexEnds", fn := fun _ => fun
  | [d1, d2] => { results := [.lit (.bool true)], args := [d1, d2] }
  | _ => none }
def lexEndsRow : OpenClaim := { program := "ytakiicbcephbhaadoor", sum := "ce63753cd9f83d6c67da1965c3119cfc9916799d87ee7a9c59c23bda84368ed2", func := "taskmaster/taskmasterlaw4.LexEnds", spec := "lexEnds", unfollowed := true, recurses := true, named := ["strings.asciiSpace", "unicode.White_Space"], apart := false, laid := [("unicode.White_Space", laid_unicode_White_Space), ("strings.asciiSpace", laid_strings_asciiSpace)] }
def LexEndsSaid : Prop := lexEndsRow.holds Tryd.pinned (OpenSpec.ofChange lexEndsSpec)

/-- ITS FALSE NEIGHBOUR: 'it returns false'. Refute it at one input. -/
def lexEndsWrong : ChangeSpec := { name := "lexEnds", fn := fun _ => fun
  | [d1, d2] => { results := [.lit (.bool false)], args := [d1, d2] }
  | _ => none }
def LexEndsWrongFalsely : Prop := lexEndsRow.holds Tryd.pinned (OpenSpec.ofChange lexEndsWrong)

/-- 'taskmasterlaw4.LexOdd': WHATEVER THE INPUT: true; the input reads as it did. -/
def lexOddSpec : ChangeSpec := { name := "lexOdd", fn := fun _ => fun
  | [d] => { results := [.lit (.bool true)], args := [d] }
  | _ => none }
def lexOddRow : OpenClaim := { program := "ytakiicbcephbhaadoor", sum := "ce63753cd9f83d6c67da1965c3119cfc9916799d87ee7a9c59c23bda84368ed2", func := "taskmaster/taskmasterlaw4.LexOdd", spec := "lexOdd", unfollowed := true, recurses := true, named := ["strings.asciiSpace", "unicode.White_Space"], apart := false, laid := [("unicode.White_Space", laid_unicode_White_Space), ("strings.asciiSpace", laid_strings_asciiSpace)] }
def LexOddSaid : Prop := lexOddRow.holds Tryd.pinned (OpenSpec.ofChange lexOddSpec)

/-- ITS FALSE NEIGHBOUR: 'it returns false'. Refute it at one input. -/
def lexOddWrong : ChangeSpec := { name := "lexOdd", fn := fun _ => fun
  | [d] => { results := [.lit (.bool false)], args := [d] }
  | _ => none }
def LexOddWrongFalsely : Prop := lexOddRow.holds Tryd.pinned (OpenSpec.ofChange lexOddWrong)

/-- 'taskmasterlaw4.LexWords': WHATEVER THE INPUT: true; the input reads as it did. -/
def lexWordsSpec : ChangeSpec := { name := "lexWords", fn := fun _ => fun
  | [d] => { results := [.lit (.bool true)], args := [d] }
  | _ => none }
def lexWordsRow : OpenClaim := { program := "ytakiicbcephbhaadoor", sum := "ce63753cd9f83d6c67da1965c3119cfc9916799d87ee7a9c59c23bda84368ed2", func := "taskmaster/taskmasterlaw4.LexWords", spec := "lexWords", unfollowed := true, recurses := true, named := ["strings.asciiSpace", "unicode.White_Space"], apart := false, laid := [("unicode.White_Space", laid_unicode_White_Space), ("strings.asciiSpace", laid_strings_asciiSpace)] }
def LexWordsSaid : Prop := lexWordsRow.holds Tryd.pinned (OpenSpec.ofChange lexWordsSpec)

/-- ITS FALSE NEIGHBOUR: 'it returns false'. Refute it at one input. -/
def lexWordsWrong : ChangeSpec := { name := "lexWords", fn := fun _ => fun
  | [d] => { results := [.lit (.bool false)], args := [d] }
  | _ => none }
def LexWordsWrongFalsely : Prop := lexWordsRow.holds Tryd.pinned (OpenSpec.ofChange lexWordsWrong)

/-- 'taskmasterlaw4.LexJoin': WHATEVER THE INPUT: true; the input reads as it did. -/
def lexJoinSpec : ChangeSpec := { name := "lexJoin", fn := fun _ => fun
  | [d1, d2] => { results := [.lit (.bool true)], args := [d1, d2] }
  | _ => none }
def lexJoinRow : OpenClaim := { program := "ytakiicbcephbhaadoor", sum := "ce63753cd9f83d6c67da1965c3119cfc9916799d87ee7a9c59c23bda84368ed2", func := "taskmaster/taskmasterlaw4.LexJoin", spec := "lexJoin", unfollowed := true, recurses := true, named := ["strings.asciiSpace", "unicode.White_Space"], apart := false, laid := [("unicode.White_Space", laid_unicode_White_Space), ("strings.asciiSpace", laid_strings_asciiSpace)] }
def LexJoinSaid : Prop := lexJoinRow.holds Tryd.pinned (OpenSpec.ofChange lexJoinSpec)

/-- ITS FALSE NEIGHBOUR: 'it returns false'. Refute it at one input. -/
def lexJoinWrong : ChangeSpec := { name := "lexJoin", fn := fun _ => fun
  | [d1, d2] => { results := [.lit (.bool false)], args := [d1, d2] }
  | _ => none }
def LexJoinWrongFalsely : Prop := lexJoinRow.holds Tryd.pinned (OpenSpec.ofChange lexJoinWrong)

/-- 'taskmasterlaw5.TaskIs': WHATEVER THE INPUT: true; the input reads as it did. -/
def taskIsSpec : ChangeSpec := { name := "taskIs", fn := fun _ => fun
  | [d1, d2] => { results := [.lit (.bool true)], args := [d1, d2] }
  | _ => none }
def taskIsRow : OpenClaim := { program := "ytakiicbcephbhaadoor", sum := "ce63753cd9f83d6c67da1965c3119cfc9916799d87ee7a9c59c23bda84368ed2", func := "taskmaster/taskmasterlaw5.TaskIs", spec := "taskIs", unfollowed := true, recurses := true, named := ["strings.asciiSpace", "unicode.White_Space"], apart := false, laid := [("unicode.White_Space", laid_unicode_White_Space), ("strings.asciiSpace", laid_strings_asciiSpace)] }
def TaskIsSaid : Prop := taskIsRow.holds Tryd.pinned (OpenSpec.ofChange taskIsSpec)

/-- ITS FALSE NEIGHBOUR: 'it returns false'. Refute it at one input. -/
def taskIsWrong : ChangeSpec := { name := "taskIs", fn := fun _ => fun
  | [d1, d2] => { results := [.lit (.bool false)], args := [d1, d2] }
  | _ => none }
def TaskIsWrongFalsely : Prop := taskIsRow.holds Tryd.pinned (OpenSpec.ofChange taskIsWrong)

/-- 'taskmasterlaw5.TaskPriority': WHATEVER THE INPUT: true; the input reads as it did. -/
def taskPrioritySpec : ChangeSpec := { name := "taskPriority", fn := fun _ => fun
  | [d1, d2, d3] => { results := [.lit (.bool true)], args := [d1, d2, d3] }
  | _ => none }
def taskPriorityRow : OpenClaim := { program := "ytakiicbcephbhaadoor", sum := "ce63753cd9f83d6c67da1965c3119cfc9916799d87ee7a9c59c23bda84368ed2", func := "taskmaster/taskmasterlaw5.TaskPriority", spec := "taskPriority", unfollowed := true, recurses := true, named := ["strings.asciiSpace", "unicode.White_Space"], apart := false, laid := [("unicode.White_Space", laid_unicode_White_Space), ("strings.asciiSpace", laid_strings_asciiSpace)] }
def TaskPrioritySaid : Prop := taskPriorityRow.holds Tryd.pinned (OpenSpec.ofChange taskPrioritySpec)

/-- ITS FALSE NEIGHBOUR: 'it returns false'. Refute it at one input. -/
def taskPriorityWrong : ChangeSpec := { name := "taskPriority", fn := fun _ => fun
  | [d1, d2, d3] => { results := [.lit (.bool false)], args := [d1, d2, d3] }
  | _ => none }
def TaskPriorityWrongFalsely : Prop := taskPriorityRow.holds Tryd.pinned (OpenSpec.ofChange taskPriorityWrong)

/-- 'taskmasterlaw5.TaskAll': WHATEVER THE INPUT: true; the input reads as it did. -/
def taskAllSpec : ChangeSpec := { name := "taskAll", fn := fun _ => fun
  | [d] => { results := [.lit (.bool true)], args := [d] }
  | _ => none }
def taskAllRow : OpenClaim := { program := "ytakiicbcephbhaadoor", sum := "ce63753cd9f83d6c67da1965c3119cfc9916799d87ee7a9c59c23bda84368ed2", func := "taskmaster/taskmasterlaw5.TaskAll", spec := "taskAll", unfollowed := true, recurses := true, named := ["strings.asciiSpace", "unicode.White_Space"], apart := false, laid := [("unicode.White_Space", laid_unicode_White_Space), ("strings.asciiSpace", laid_strings_asciiSpace)] }
def TaskAllSaid : Prop := taskAllRow.holds Tryd.pinned (OpenSpec.ofChange taskAllSpec)

/-- ITS FALSE NEIGHBOUR: 'it returns false'. Refute it at one input. -/
def taskAllWrong : ChangeSpec := { name := "taskAll", fn := fun _ => fun
  | [d] => { results := [.lit (.bool false)], args := [d] }
  | _ => none }
def TaskAllWrongFalsely : Prop := taskAllRow.holds Tryd.pinned (OpenSpec.ofChange taskAllWrong)

/-- 'taskmasterlaw5.TaskOdd': WHATEVER THE INPUT: true; the input reads as it did. -/
def taskOddSpec : ChangeSpec := { name := "taskOdd", fn := fun _ => fun
  | [d] => { results := [.lit (.bool true)], args := [d] }
  | _ => none }
def taskOddRow : OpenClaim := { program := "ytakiicbcephbhaadoor", sum := "ce63753cd9f83d6c67da1965c3119cfc9916799d87ee7a9c59c23bda84368ed2", func := "taskmaster/taskmasterlaw5.TaskOdd", spec := "taskOdd", unfollowed := true, recurses := true, named := ["strings.asciiSpace", "unicode.White_Space"], apart := false, laid := [("unicode.White_Space", laid_unicode_White_Space), ("strings.asciiSpace", laid_strings_asciiSpace)] }
def TaskOddSaid : Prop := taskOddRow.holds Tryd.pinned (OpenSpec.ofChange taskOddSpec)

/-- ITS FALSE NEIGHBOUR: 'it returns false'. Refute it at one input. -/
def taskOddWrong : ChangeSpec := { name := "taskOdd", fn := fun _ => fun
  | [d] => { results := [.lit (.bool false)], args := [d] }
  | _ => none }
def TaskOddWrongFalsely : Prop := taskOddRow.holds Tryd.pinned (OpenSpec.ofChange taskOddWrong)

/-- 'taskmasterlaw5.TaskSame': WHATEVER THE INPUT: true; the input reads as it did. -/
def taskSameSpec : ChangeSpec := { name := "taskSame", fn := fun _ => fun
  | [d1, d2] => { results := [.lit (.bool true)], args := [d1, d2] }
  | _ => none }
def taskSameRow : OpenClaim := { program := "ytakiicbcephbhaadoor", sum := "ce63753cd9f83d6c67da1965c3119cfc9916799d87ee7a9c59c23bda84368ed2", func := "taskmaster/taskmasterlaw5.TaskSame", spec := "taskSame", unfollowed := true, recurses := true, named := ["strings.asciiSpace", "unicode.White_Space"], apart := false, laid := [("unicode.White_Space", laid_unicode_White_Space), ("strings.asciiSpace", laid_strings_asciiSpace)] }
def TaskSameSaid : Prop := taskSameRow.holds Tryd.pinned (OpenSpec.ofChange taskSameSpec)

/-- ITS FALSE NEIGHBOUR: 'it returns false'. Refute it at one input. -/
def taskSameWrong : ChangeSpec := { name := "taskSame", fn := fun _ => fun
  | [d1, d2] => { results := [.lit (.bool false)], args := [d1, d2] }
  | _ => none }
def TaskSameWrongFalsely : Prop := taskSameRow.holds Tryd.pinned (OpenSpec.ofChange taskSameWrong)

/-- 'taskmasterlaw5.TaskNames': WHATEVER THE INPUT: true; the input reads as it did. -/
def taskNamesSpec : ChangeSpec := { name := "taskNames", fn := fun _ => fun
  | [d1, d2, d3] => { results := [.lit (.bool true)], args := [d1, d2, d3] }
  | _ => none }
def taskNamesRow : OpenClaim := { program := "ytakiicbcephbhaadoor", sum := "ce63753cd9f83d6c67da1965c3119cfc9916799d87ee7a9c59c23bda84368ed2", func := "taskmaster/taskmasterlaw5.TaskNames", spec := "taskNames", unfollowed := true, recurses := true, named := ["strings.asciiSpace", "unicode.White_Space"], apart := false, laid := [("unicode.White_Space", laid_unicode_White_Space), ("strings.asciiSpace", laid_strings_asciiSpace)] }
def TaskNamesSaid : Prop := taskNamesRow.holds Tryd.pinned (OpenSpec.ofChange taskNamesSpec)

/-- ITS FALSE NEIGHBOUR: 'it returns false'. Refute it at one input. -/
def taskNamesWrong : ChangeSpec := { name := "taskNames", fn := fun _ => fun
  | [d1, d2, d3] => { results := [.lit (.bool false)], args := [d1, d2, d3] }
  | _ => none }
def TaskNamesWrongFalsely : Prop := taskNamesRow.holds Tryd.pinned (OpenSpec.ofChange taskNamesWrong)

/- THE SECOND FORM. 'bulk': how many values and letters a reading holds, each counted each time it is reached (what is shared counts as often as it is met; a slice's spare places count too). A statement '..UptoSaid' is the law's where the arguments, and the package variables that the reading takes, are together of bulk at most 1048576: NARROWER than '..Said'. Prove '..Said' where nothing that the law and all that it calls make is longer than what came in: it says more and counts as full. Else prove '..UptoSaid'. A law counts once. -/
mutual
def uptoBulk {H : Type} : DataW H → Nat
  | .lit (.string bytes) => bytes.length + 1
  | .lit _ => 1
  | .nil => 1
  | .ptr d => uptoBulk d + 1
  | .slice elems spare => uptoBulkAll elems + uptoBulkAll spare + 1
  | .agg parts => uptoBulkAll parts + 1
  | .iface _ d => uptoBulk d + 1
  | .map entries => uptoBulkEntries entries + 1
  | .held _ => 1
def uptoBulkAll {H : Type} : List (DataW H) → Nat
  | [] => 0
  | d :: r => uptoBulk d + uptoBulkAll r
def uptoBulkEntries {H : Type} : List (Lit × DataW H) → Nat
  | [] => 0
  | x :: r => uptoBulkEntry x + uptoBulkEntries r
def uptoBulkEntry {H : Type} : Lit × DataW H → Nat
  | (.string bytes, d) => bytes.length + uptoBulk d + 1
  | (_, d) => uptoBulk d + 1
 end
def uptoSmall : (H : Type) → List (DataW H) → Bool := fun _ ds => decide (uptoBulkAll ds ≤ 1048576)
def OpenSpec.upto (s : _root_.Go.ChangeSpec) : _root_.Go.OpenSpec := { _root_.Go.OpenSpec.ofChange s with cond := some uptoSmall }

/-- 'taskmasterlaw4.LexTokens', WHERE WHAT IT READS IS OF BULK AT MOST 1048576: true; the input reads as it did. -/
def lexTokensUptoRow : OpenClaim := { program := "ytakiicbcephbhaadoor", sum := "ce63753cd9f83d6c67da1965c3119cfc9916799d87ee7a9c59c23bda84368ed2", func := "taskmaster/taskmasterlaw4.LexTokens", spec := "lexTokens", unfollowed := true, recurses := true, named := ["strings.asciiSpace", "unicode.White_Space"], apart := false, laid := [("unicode.White_Space", laid_unicode_White_Space), ("strings.asciiSpace", laid_strings_asciiSpace)], narrowed := true }
def LexTokensUptoSaid : Prop := lexTokensUptoRow.holds Tryd.pinned (OpenSpec.upto lexTokensSpec)

/-- 'taskmasterlaw4.LexNotes', WHERE WHAT IT READS IS OF BULK AT MOST 1048576: true; the input reads as it did. -/
def lexNotesUptoRow : OpenClaim := { program := "ytakiicbcephbhaadoor", sum := "ce63753cd9f83d6c67da1965c3119cfc9916799d87ee7a9c59c23bda84368ed2", func := "taskmaster/taskmasterlaw4.LexNotes", spec := "lexNotes", unfollowed := true, recurses := true, named := ["strings.asciiSpace", "unicode.White_Space"], apart := false, laid := [("unicode.White_Space", laid_unicode_White_Space), ("strings.asciiSpace", laid_strings_asciiSpace)], narrowed := true }
def LexNotesUptoSaid : Prop := lexNotesUptoRow.holds Tryd.pinned (OpenSpec.upto lexNotesSpec)

/-- 'taskmasterlaw4.LexEnds', WHERE WHAT IT READS IS OF BULK AT MOST 1048576: true; the input reads as it did. -/
def lexEndsUptoRow : OpenClaim := { program := "ytakiicbcephbhaadoor", sum := "ce63753cd9f83d6c67da1965c3119cfc9916799d87ee7a9c59c23bda84368ed2", func := "taskmaster/taskmasterlaw4.LexEnds", spec := "lexEnds", unfollowed := true, recurses := true, named := ["strings.asciiSpace", "unicode.White_Space"], apart := false, laid := [("unicode.White_Space", laid_unicode_White_Space), ("strings.asciiSpace", laid_strings_asciiSpace)], narrowed := true }
def LexEndsUptoSaid : Prop := lexEndsUptoRow.holds Tryd.pinned (OpenSpec.upto lexEndsSpec)

/-- 'taskmasterlaw4.LexOdd', WHERE WHAT IT READS IS OF BULK AT MOST 1048576: true; the input reads as it did. -/
def lexOddUptoRow : OpenClaim := { program := "ytakiicbcephbhaadoor", sum := "ce63753cd9f83d6c67da1965c3119cfc9916799d87ee7a9c59c23bda84368ed2", func := "taskmaster/taskmasterlaw4.LexOdd", spec := "lexOdd", unfollowed := true, recurses := true, named := ["strings.asciiSpace", "unicode.White_Space"], apart := false, laid := [("unicode.White_Space", laid_unicode_White_Space), ("strings.asciiSpace", laid_strings_asciiSpace)], narrowed := true }
def LexOddUptoSaid : Prop := lexOddUptoRow.holds Tryd.pinned (OpenSpec.upto lexOddSpec)

/-- 'taskmasterlaw4.LexWords', WHERE WHAT IT READS IS OF BULK AT MOST 1048576: true; the input reads as it did. -/
def lexWordsUptoRow : OpenClaim := { program := "ytakiicbcephbhaadoor", sum := "ce63753cd9f83d6c67da1965c3119cfc9916799d87ee7a9c59c23bda84368ed2", func := "taskmaster/taskmasterlaw4.LexWords", spec := "lexWords", unfollowed := true, recurses := true, named := ["strings.asciiSpace", "unicode.White_Space"], apart := false, laid := [("unicode.White_Space", laid_unicode_White_Space), ("strings.asciiSpace", laid_strings_asciiSpace)], narrowed := true }
def LexWordsUptoSaid : Prop := lexWordsUptoRow.holds Tryd.pinned (OpenSpec.upto lexWordsSpec)

/-- 'taskmasterlaw4.LexJoin', WHERE WHAT IT READS IS OF BULK AT MOST 1048576: true; the input reads as it did. -/
def lexJoinUptoRow : OpenClaim := { program := "ytakiicbcephbhaadoor", sum := "ce63753cd9f83d6c67da1965c3119cfc9916799d87ee7a9c59c23bda84368ed2", func := "taskmaster/taskmasterlaw4.LexJoin", spec := "lexJoin", unfollowed := true, recurses := true, named := ["strings.asciiSpace", "unicode.White_Space"], apart := false, laid := [("unicode.White_Space", laid_unicode_White_Space), ("strings.asciiSpace", laid_strings_asciiSpace)], narrowed := true }
def LexJoinUptoSaid : Prop := lexJoinUptoRow.holds Tryd.pinned (OpenSpec.upto lexJoinSpec)

/-- 'taskmasterlaw5.TaskIs', WHERE WHAT IT READS IS OF BULK AT MOST 1048576: true; the input reads as it did. -/
def taskIsUptoRow : OpenClaim := { program := "ytakiicbcephbhaadoor", sum := "ce63753cd9f83d6c67da1965c3119cfc9916799d87ee7a9c59c23bda84368ed2", func := "taskmaster/taskmasterlaw5.TaskIs", spec := "taskIs", unfollowed := true, recurses := true, named := ["strings.asciiSpace", "unicode.White_Space"], apart := false, laid := [("unicode.White_Space", laid_unicode_White_Space), ("strings.asciiSpace", laid_strings_asciiSpace)], narrowed := true }
def TaskIsUptoSaid : Prop := taskIsUptoRow.holds Tryd.pinned (OpenSpec.upto taskIsSpec)

/-- 'taskmasterlaw5.TaskPriority', WHERE WHAT IT READS IS OF BULK AT MOST 1048576: true; the input reads as it did. -/
def taskPriorityUptoRow : OpenClaim := { program := "ytakiicbcephbhaadoor", sum := "ce63753cd9f83d6c67da1965c3119cfc9916799d87ee7a9c59c23bda84368ed2", func := "taskmaster/taskmasterlaw5.TaskPriority", spec := "taskPriority", unfollowed := true, recurses := true, named := ["strings.asciiSpace", "unicode.White_Space"], apart := false, laid := [("unicode.White_Space", laid_unicode_White_Space), ("strings.asciiSpace", laid_strings_asciiSpace)], narrowed := true }
def TaskPriorityUptoSaid : Prop := taskPriorityUptoRow.holds Tryd.pinned (OpenSpec.upto taskPrioritySpec)

/-- 'taskmasterlaw5.TaskAll', WHERE WHAT IT READS IS OF BULK AT MOST 1048576: true; the input reads as it did. -/
def taskAllUptoRow : OpenClaim := { program := "ytakiicbcephbhaadoor", sum := "ce63753cd9f83d6c67da1965c3119cfc9916799d87ee7a9c59c23bda84368ed2", func := "taskmaster/taskmasterlaw5.TaskAll", spec := "taskAll", unfollowed := true, recurses := true, named := ["strings.asciiSpace", "unicode.White_Space"], apart := false, laid := [("unicode.White_Space", laid_unicode_White_Space), ("strings.asciiSpace", laid_strings_asciiSpace)], narrowed := true }
def TaskAllUptoSaid : Prop := taskAllUptoRow.holds Tryd.pinned (OpenSpec.upto taskAllSpec)

/-- 'taskmasterlaw5.TaskOdd', WHERE WHAT IT READS IS OF BULK AT MOST 1048576: true; the input reads as it did. -/
def taskOddUptoRow : OpenClaim := { program := "ytakiicbcephbhaadoor", sum := "ce63753cd9f83d6c67da1965c3119cfc9916799d87ee7a9c59c23bda84368ed2", func := "taskmaster/taskmasterlaw5.TaskOdd", spec := "taskOdd", unfollowed := true, recurses := true, named := ["strings.asciiSpace", "unicode.White_Space"], apart := false, laid := [("unicode.White_Space", laid_unicode_White_Space), ("strings.asciiSpace", laid_strings_asciiSpace)], narrowed := true }
def TaskOddUptoSaid : Prop := taskOddUptoRow.holds Tryd.pinned (OpenSpec.upto taskOddSpec)

/-- 'taskmasterlaw5.TaskSame', WHERE WHAT IT READS IS OF BULK AT MOST 1048576: true; the input reads as it did. -/
def taskSameUptoRow : OpenClaim := { program := "ytakiicbcephbhaadoor", sum := "ce63753cd9f83d6c67da1965c3119cfc9916799d87ee7a9c59c23bda84368ed2", func := "taskmaster/taskmasterlaw5.TaskSame", spec := "taskSame", unfollowed := true, recurses := true, named := ["strings.asciiSpace", "unicode.White_Space"], apart := false, laid := [("unicode.White_Space", laid_unicode_White_Space), ("strings.asciiSpace", laid_strings_asciiSpace)], narrowed := true }
def TaskSameUptoSaid : Prop := taskSameUptoRow.holds Tryd.pinned (OpenSpec.upto taskSameSpec)

/-- 'taskmasterlaw5.TaskNames', WHERE WHAT IT READS IS OF BULK AT MOST 1048576: true; the input reads as it did. -/
def taskNamesUptoRow : OpenClaim := { program := "ytakiicbcephbhaadoor", sum := "ce63753cd9f83d6c67da1965c3119cfc9916799d87ee7a9c59c23bda84368ed2", func := "taskmaster/taskmasterlaw5.TaskNames", spec := "taskNames", unfollowed := true, recurses := true, named := ["strings.asciiSpace", "unicode.White_Space"], apart := false, laid := [("unicode.White_Space", laid_unicode_White_Space), ("strings.asciiSpace", laid_strings_asciiSpace)], narrowed := true }
def TaskNamesUptoSaid : Prop := taskNamesUptoRow.holds Tryd.pinned (OpenSpec.upto taskNamesSpec)

end Rows
end Go.Proofs.YtakiicbcephbhaaDoor
