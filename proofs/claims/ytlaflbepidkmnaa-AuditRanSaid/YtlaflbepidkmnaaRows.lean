/-
  No cell of these rows narrows 'for every input' (looked for: loops, veiled, ifaces, maps, wideKeys, modest, calm, conditions, laid).
  DERIVED. THE GIVEN ROWS OF THIS SEAT. 3 by the template 'for every input the law returns true; each argument reads behind the call as it read before'; 0 by the template 'total and deterministic' (their statements: YtlaflbepidkmnaaTotals.lean).
  GIVEN WITH THE SEED: the statements are not yours to turn. If you find one false, say at which input.
  Laid BY PROGRAM, IN A SANDBOX (cutbox-rows.mjs): the forced cells as the released guide's own fill.sh prints them over the translation 1e44a6e920d2c45a… (all of the seat's roots in one cut). By AI agents, Wed Nov 11 2026. No macro, syntax, notation, axiom, sorry.
-/
import Derived.Test.YtlaflbepidkmnaaChecked
import GoSem.Claim
import GoSem.ClaimJoined
import GoSem.ClaimMapViews
import Derived.JoinedTies
import Derived.KernelRfl
namespace Go.Proofs.Ytlaflbepidkmnaa
/- THE CELL 'sum', in the pinned program and in every row, IS THE sha256 OF THE DUMP (.gsa) THAT YtlaflbepidkmnaaProg.lean LOADS. Nothing in Lean hashes anything: it is a label: what it is worth is what the hold of that sum in a sandbox is worth. -/
noncomputable def Try.pinned : Pinned := { name := "ytlaflbepidkmnaa", sum := "1e44a6e920d2c45a0b8bc6d2476030f2ab8a4b997d4bf567230e1fa0b2d3476f", checked := Try.checked }
namespace Rows
def none {H : Type} : Left H := { results := [], args := [] }

/-- 'taskmasterlaw27.AuditTurned': WHATEVER THE INPUT: true; the input reads as it did. -/
def auditTurnedSpec : ChangeSpec := { name := "auditTurned", fn := fun _ => fun
  | [d1, d2, d3, d4] => { results := [.lit (.bool true)], args := [d1, d2, d3, d4] }
  | _ => none }
def auditTurnedRow : OpenClaim := { program := "ytlaflbepidkmnaa", sum := "1e44a6e920d2c45a0b8bc6d2476030f2ab8a4b997d4bf567230e1fa0b2d3476f", func := "taskmaster/taskmasterlaw27.AuditTurned", spec := "auditTurned", unfollowed := true, recurses := true, apart := false }
def AuditTurnedSaid : Prop := auditTurnedRow.holds Try.pinned (OpenSpec.ofChange auditTurnedSpec)

/-- ITS FALSE NEIGHBOUR: 'it returns false'. Refute it at one input. -/
def auditTurnedWrong : ChangeSpec := { name := "auditTurned", fn := fun _ => fun
  | [d1, d2, d3, d4] => { results := [.lit (.bool false)], args := [d1, d2, d3, d4] }
  | _ => none }
def AuditTurnedWrongFalsely : Prop := auditTurnedRow.holds Try.pinned (OpenSpec.ofChange auditTurnedWrong)

/-- 'taskmasterlaw27.AuditJudges': WHATEVER THE INPUT: true; the input reads as it did. -/
def auditJudgesSpec : ChangeSpec := { name := "auditJudges", fn := fun _ => fun
  | [d1, d2, d3] => { results := [.lit (.bool true)], args := [d1, d2, d3] }
  | _ => none }
def auditJudgesRow : OpenClaim := { program := "ytlaflbepidkmnaa", sum := "1e44a6e920d2c45a0b8bc6d2476030f2ab8a4b997d4bf567230e1fa0b2d3476f", func := "taskmaster/taskmasterlaw27.AuditJudges", spec := "auditJudges", unfollowed := true, recurses := true, apart := false }
def AuditJudgesSaid : Prop := auditJudgesRow.holds Try.pinned (OpenSpec.ofChange auditJudgesSpec)

/-- ITS FALSE NEIGHBOUR: 'it returns false'. Refute it at one input. -/
def auditJudgesWrong : ChangeSpec := { name := "auditJudges", fn := fun _ => fun
  | [d1, d2, d3] => { results := [.lit (.bool false)], args := [d1, d2, d3] }
  | _ => none }
def AuditJudgesWrongFalsely : Prop := auditJudgesRow.holds Try.pinned (OpenSpec.ofChange auditJudgesWrong)

/-- 'taskmasterlaw27.AuditRan': WHATEVER THE INPUT: true; the input reads as it did. -/
def auditRanSpec : ChangeSpec := { name := "auditRan", fn := fun _ => fun
  | [d1, d2] => { results := [.lit (.bool true)], args := [d1, d2] }
  | _ => none }
def auditRanRow : OpenClaim := { program := "ytlaflbepidkmnaa", sum := "1e44a6e920d2c45a0b8bc6d2476030f2ab8a4b997d4bf567230e1fa0b2d3476f", func := "taskmaster/taskmasterlaw27.AuditRan", spec := "auditRan", unfollowed := true, recurses := true, apart := false }
def AuditRanSaid : Prop := auditRanRow.holds Try.pinned (OpenSpec.ofChange auditRanSpec)

/-- ITS FALSE NEIGHBOUR: 'it returns false'. Refute it at one input. -/
def auditRanWrong : ChangeSpec := { name := "auditRan", fn := fun _ => fun
  | [d1, d2] => { results := [.lit (.bool false)], args := [d1, d2] }
  | _ => none }
def AuditRanWrongFalsely : Prop := auditRanRow.holds Try.pinned (OpenSpec.ofChange auditRanWrong)

/- THE SECOND FORM. 'bulk': how many values and letters a reading holds, each counted each time it is reached (what is shared counts as often as it is met; a slice's spare places count too). A statement '..UptoSaid' is the law's where the arguments, and the package variables that the reading takes, are together of bulk at most 1048576: NARROWER than '..Said'. Prove '..Said' where nothing that the law and all that it calls make is longer than what came in: it says more and counts as full. Else prove '..UptoSaid'. A law counts once. -/
mutual
def uptoBulk {H : Type} : DataW H → Nat
  | .lit (.string bytes) => bytes.length + 1
  | .lit _ => 1
  | .nil => 1
  | .ptr d => uptoBulk d + 1
  | .slice elems spare => uptoBulkAll elems + uptoBulkAll spare + 1
  | .agg parts => uptoBulkAll parts + 1
  | .iface _ d => uptoBulk d + 1
  | .map entries => uptoBulkEntries entries + 1
  | .held _ => 1
def uptoBulkAll {H : Type} : List (DataW H) → Nat
  | [] => 0
  | d :: r => uptoBulk d + uptoBulkAll r
def uptoBulkEntries {H : Type} : List (Lit × DataW H) → Nat
  | [] => 0
  | x :: r => uptoBulkEntry x + uptoBulkEntries r
def uptoBulkEntry {H : Type} : Lit × DataW H → Nat
  | (.string bytes, d) => bytes.length + uptoBulk d + 1
  | (_, d) => uptoBulk d + 1
 end
def uptoSmall : (H : Type) → List (DataW H) → Bool := fun _ ds => decide (uptoBulkAll ds ≤ 1048576)
def OpenSpec.upto (s : _root_.Go.ChangeSpec) : _root_.Go.OpenSpec := { _root_.Go.OpenSpec.ofChange s with cond := some uptoSmall }

/-- 'taskmasterlaw27.AuditTurned', WHERE WHAT IT READS IS OF BULK AT MOST 1048576: true; the input reads as it did. -/
def auditTurnedUptoRow : OpenClaim := { program := "ytlaflbepidkmnaa", sum := "1e44a6e920d2c45a0b8bc6d2476030f2ab8a4b997d4bf567230e1fa0b2d3476f", func := "taskmaster/taskmasterlaw27.AuditTurned", spec := "auditTurned", unfollowed := true, recurses := true, apart := false, narrowed := true }
def AuditTurnedUptoSaid : Prop := auditTurnedUptoRow.holds Try.pinned (OpenSpec.upto auditTurnedSpec)

/-- 'taskmasterlaw27.AuditJudges', WHERE WHAT IT READS IS OF BULK AT MOST 1048576: true; the input reads as it did. -/
def auditJudgesUptoRow : OpenClaim := { program := "ytlaflbepidkmnaa", sum := "1e44a6e920d2c45a0b8bc6d2476030f2ab8a4b997d4bf567230e1fa0b2d3476f", func := "taskmaster/taskmasterlaw27.AuditJudges", spec := "auditJudges", unfollowed := true, recurses := true, apart := false, narrowed := true }
def AuditJudgesUptoSaid : Prop := auditJudgesUptoRow.holds Try.pinned (OpenSpec.upto auditJudgesSpec)

/-- 'taskmasterlaw27.AuditRan', WHERE WHAT IT READS IS OF BULK AT MOST 1048576: true; the input reads as it did. -/
def auditRanUptoRow : OpenClaim := { program := "ytlaflbepidkmnaa", sum := "1e44a6e920d2c45a0b8bc6d2476030f2ab8a4b997d4bf567230e1fa0b2d3476f", func := "taskmaster/taskmasterlaw27.AuditRan", spec := "auditRan", unfollowed := true, recurses := true, apart := false, narrowed := true }
def AuditRanUptoSaid : Prop := auditRanUptoRow.holds Try.pinned (OpenSpec.upto auditRanSpec)

end Rows
end Go.Proofs.Ytlaflbepidkmnaa
