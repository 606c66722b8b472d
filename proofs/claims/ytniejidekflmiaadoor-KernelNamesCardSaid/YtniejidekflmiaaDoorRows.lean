/-
  NARROWER THAN 'FOR EVERY INPUT', by the rows' own cells (each row's printed sentence says how): KernelFair: laid · KernelBusy: laid · KernelKnown: laid · KernelRefuses: laid · KernelLoads: laid · KernelOnce: laid · KernelWork: laid · KernelNames: laid · KernelStates: laid.
  DERIVED. THE GIVEN ROWS OF THIS SEAT. 9 by the template 'for every input the law returns true; each argument reads behind the call as it read before'; 0 by the template 'total and deterministic' (their statements: YtniejidekflmiaaDoorTotals.lean).
  GIVEN WITH THE SEED: the statements are not yours to turn. If you find one false, say at which input.
  Laid BY PROGRAM, IN A SANDBOX (cutbox-rows.mjs): the forced cells as the released guide's own fill.sh prints them over the translation 32beafeee6ed64df… (all of the seat's roots in one cut). By AI agents, Wed Nov 11 2026. No macro, syntax, notation, axiom, sorry.
-/
import Derived.Test.YtniejidekflmiaaDoorChecked
import GoSem.Claim
import GoSem.ClaimJoined
import GoSem.ClaimMapViews
import Derived.JoinedTies
import Derived.KernelRfl
namespace Go.Proofs.YtniejidekflmiaaDoor
/- THE CELL 'sum', in the pinned program and in every row, IS THE sha256 OF THE DUMP (.gsa) THAT YtniejidekflmiaaDoorProg.lean LOADS. Nothing in Lean hashes anything: it is a label: what it is worth is what the hold of that sum in a sandbox is worth. -/
noncomputable def Tryd.pinned : Pinned := { name := "ytniejidekflmiaadoor", sum := "32beafeee6ed64df70b35d4a25556fde8c59ea72f084ec2c4b3e0574f64d3e62", checked := Tryd.checked }
namespace Rows
def none {H : Type} : Left H := { results := [], args := [] }

/- WHAT THE LISTED PACKAGE-LEVEL VARIABLES READ AS WHEN THE CALL BEGINS. Each datum BY PROGRAM (the guide's laid-datum.mjs) off the statement by which the dump's own 'gosem.cut.vars' lays the variable. In a bare row this is a premise. The card (YtniejidekflmiaaDoorCards.lean) ties it to the program's text. -/
def laid_math_bits_deBruijn64tab {H : Type} : DataW H := .agg [.lit (.int .u8 0), .lit (.int .u8 1), .lit (.int .u8 56), .lit (.int .u8 2), .lit (.int .u8 57), .lit (.int .u8 49), .lit (.int .u8 28), .lit (.int .u8 3), .lit (.int .u8 61), .lit (.int .u8 58), .lit (.int .u8 42), .lit (.int .u8 50), .lit (.int .u8 38), .lit (.int .u8 29), .lit (.int .u8 17), .lit (.int .u8 4), .lit (.int .u8 62), .lit (.int .u8 47), .lit (.int .u8 59), .lit (.int .u8 36), .lit (.int .u8 45), .lit (.int .u8 43), .lit (.int .u8 51), .lit (.int .u8 22), .lit (.int .u8 53), .lit (.int .u8 39), .lit (.int .u8 33), .lit (.int .u8 30), .lit (.int .u8 24), .lit (.int .u8 18), .lit (.int .u8 12), .lit (.int .u8 5), .lit (.int .u8 63), .lit (.int .u8 55), .lit (.int .u8 48), .lit (.int .u8 27), .lit (.int .u8 60), .lit (.int .u8 41), .lit (.int .u8 37), .lit (.int .u8 16), .lit (.int .u8 46), .lit (.int .u8 35), .lit (.int .u8 44), .lit (.int .u8 21), .lit (.int .u8 52), .lit (.int .u8 32), .lit (.int .u8 23), .lit (.int .u8 11), .lit (.int .u8 54), .lit (.int .u8 26), .lit (.int .u8 40), .lit (.int .u8 15), .lit (.int .u8 34), .lit (.int .u8 20), .lit (.int .u8 31), .lit (.int .u8 10), .lit (.int .u8 25), .lit (.int .u8 14), .lit (.int .u8 19), .lit (.int .u8 9), .lit (.int .u8 13), .lit (.int .u8 8), .lit (.int .u8 7), .lit (.int .u8 6)]
def laid_unicode_White_Space {H : Type} : DataW H := .ptr (.agg [.slice [.agg [.lit (.int .u16 9), .lit (.int .u16 13), .lit (.int .u16 1)], .agg [.lit (.int .u16 32), .lit (.int .u16 133), .lit (.int .u16 101)], .agg [.lit (.int .u16 160), .lit (.int .u16 5760), .lit (.int .u16 5600)], .agg [.lit (.int .u16 8192), .lit (.int .u16 8202), .lit (.int .u16 1)], .agg [.lit (.int .u16 8232), .lit (.int .u16 8233), .lit (.int .u16 1)], .agg [.lit (.int .u16 8239), .lit (.int .u16 8287), .lit (.int .u16 48)], .agg [.lit (.int .u16 12288), .lit (.int .u16 12288), .lit (.int .u16 1)]] [], .nil, .lit (.int .i64 2)])
def laid_strings_asciiSpace {H : Type} : DataW H := .agg [.lit (.int .u8 0), .lit (.int .u8 0), .lit (.int .u8 0), .lit (.int .u8 0), .lit (.int .u8 0), .lit (.int .u8 0), .lit (.int .u8 0), .lit (.int .u8 0), .lit (.int .u8 0), .lit (.int .u8 1), .lit (.int .u8 1), .lit (.int .u8 1), .lit (.int .u8 1), .lit (.int .u8 1), .lit (.int .u8 0), .lit (.int .u8 0), .lit (.int .u8 0), .lit (.int .u8 0), .lit (.int .u8 0), .lit (.int .u8 0), .lit (.int .u8 0), .lit (.int .u8 0), .lit (.int .u8 0), .lit (.int .u8 0), .lit (.int .u8 0), .lit (.int .u8 0), .lit (.int .u8 0), .lit (.int .u8 0), .lit (.int .u8 0), .lit (.int .u8 0), .lit (.int .u8 0), .lit (.int .u8 0), .lit (.int .u8 1), .lit (.int .u8 0), .lit (.int .u8 0), .lit (.int .u8 0), .lit (.int .u8 0), .lit (.int .u8 0), .lit (.int .u8 0), .lit (.int .u8 0), .lit (.int .u8 0), .lit (.int .u8 0), .lit (.int .u8 0), .lit (.int .u8 0), .lit (.int .u8 0), .lit (.int .u8 0), .lit (.int .u8 0), .lit (.int .u8 0), .lit (.int .u8 0), .lit (.int .u8 0), .lit (.int .u8 0), .lit (.int .u8 0), .lit (.int .u8 0), .lit (.int .u8 0), .lit (.int .u8 0), .lit (.int .u8 0), .lit (.int .u8 0), .lit (.int .u8 0), .lit (.int .u8 0), .lit (.int .u8 0), .lit (.int .u8 0), .lit (.int .u8 0), .lit (.int .u8 0), .lit (.int .u8 0), .lit (.int .u8 0), .lit (.int .u8 0), .lit (.int .u8 0), .lit (.int .u8 0), .lit (.int .u8 0), .lit (.int .u8 0), .lit (.int .u8 0), .lit (.int .u8 0), .lit (.int .u8 0), .lit (.int .u8 0), .lit (.int .u8 0), .lit (.int .u8 0), .lit (.int .u8 0), .lit (.int .u8 0), .lit (.int .u8 0), .lit (.int .u8 0), .lit (.int .u8 0), .lit (.int .u8 0), .lit (.int .u8 0), .lit (.int .u8 0), .lit (.int .u8 0), .lit (.int .u8 0), .lit (.int .u8 0), .lit (.int .u8 0), .lit (.int .u8 0), .lit (.int .u8 0), .lit (.int .u8 0), .lit (.int .u8 0), .lit (.int .u8 0), .lit (.int .u8 0), .lit (.int .u8 0), .lit (.int .u8 0), .lit (.int .u8 0), .lit (.int .u8 0), .lit (.int .u8 0), .lit (.int .u8 0), .lit (.int .u8 0), .lit (.int .u8 0), .lit (.int .u8 0), .lit (.int .u8 0), .lit (.int .u8 0), .lit (.int .u8 0), .lit (.int .u8 0), .lit (.int .u8 0), .lit (.int .u8 0), .lit (.int .u8 0), .lit (.int .u8 0), .lit (.int .u8 0), .lit (.int .u8 0), .lit (.int .u8 0), .lit (.int .u8 0), .lit (.int .u8 0), .lit (.int .u8 0), .lit (.int .u8 0), .lit (.int .u8 0), .lit (.int .u8 0), .lit (.int .u8 0), .lit (.int .u8 0), .lit (.int .u8 0), .lit (.int .u8 0), .lit (.int .u8 0), .lit (.int .u8 0), .lit (.int .u8 0), .lit (.int .u8 0), .lit (.int .u8 0), .lit (.int .u8 0), .lit (.int .u8 0), .lit (.int .u8 0), .lit (.int .u8 0), .lit (.int .u8 0), .lit (.int .u8 0), .lit (.int .u8 0), .lit (.int .u8 0), .lit (.int .u8 0), .lit (.int .u8 0), .lit (.int .u8 0), .lit (.int .u8 0), .lit (.int .u8 0), .lit (.int .u8 0), .lit (.int .u8 0), .lit (.int .u8 0), .lit (.int .u8 0), .lit (.int .u8 0), .lit (.int .u8 0), .lit (.int .u8 0), .lit (.int .u8 0), .lit (.int .u8 0), .lit (.int .u8 0), .lit (.int .u8 0), .lit (.int .u8 0), .lit (.int .u8 0), .lit (.int .u8 0), .lit (.int .u8 0), .lit (.int .u8 0), .lit (.int .u8 0), .lit (.int .u8 0), .lit (.int .u8 0), .lit (.int .u8 0), .lit (.int .u8 0), .lit (.int .u8 0), .lit (.int .u8 0), .lit (.int .u8 0), .lit (.int .u8 0), .lit (.int .u8 0), .lit (.int .u8 0), .lit (.int .u8 0), .lit (.int .u8 0), .lit (.int .u8 0), .lit (.int .u8 0), .lit (.int .u8 0), .lit (.int .u8 0), .lit (.int .u8 0), .lit (.int .u8 0), .lit (.int .u8 0), .lit (.int .u8 0), .lit (.int .u8 0), .lit (.int .u8 0), .lit (.int .u8 0), .lit (.int .u8 0), .lit (.int .u8 0), .lit (.int .u8 0), .lit (.int .u8 0), .lit (.int .u8 0), .lit (.int .u8 0), .lit (.int .u8 0), .lit (.int .u8 0), .lit (.int .u8 0), .lit (.int .u8 0), .lit (.int .u8 0), .lit (.int .u8 0), .lit (.int .u8 0), .lit (.int .u8 0), .lit (.int .u8 0), .lit (.int .u8 0), .lit (.int .u8 0), .lit (.int .u8 0), .lit (.int .u8 0), .lit (.int .u8 0), .lit (.int .u8 0), .lit (.int .u8 0), .lit (.int .u8 0), .lit (.int .u8 0), .lit (.int .u8 0), .lit (.int .u8 0), .lit (.int .u8 0), .lit (.int .u8 0), .lit (.int .u8 0), .lit (.int .u8 0), .lit (.int .u8 0), .lit (.int .u8 0), .lit (.int .u8 0), .lit (.int .u8 0), .lit (.int .u8 0), .lit (.int .u8 0), .lit (.int .u8 0), .lit (.int .u8 0), .lit (.int .u8 0), .lit (.int .u8 0), .lit (.int .u8 0), .lit (.int .u8 0), .lit (.int .u8 0), .lit (.int .u8 0), .lit (.int .u8 0), .lit (.int .u8 0), .lit (.int .u8 0), .lit (.int .u8 0), .lit (.int .u8 0), .lit (.int .u8 0), .lit (.int .u8 0), .lit (.int .u8 0), .lit (.int .u8 0), .lit (.int .u8 0), .lit (.int .u8 0), .lit (.int .u8 0), .lit (.int .u8 0), .lit (.int .u8 0), .lit (.int .u8 0), .lit (.int .u8 0), .lit (.int .u8 0), .lit (.int .u8 0), .lit (.int .u8 0), .lit (.int .u8 0), .lit (.int .u8 0), .lit (.int .u8 0), .lit (.int .u8 0), .lit (.int .u8 0), .lit (.int .u8 0), .lit (.int .u8 0), .lit (.int .u8 0), .lit (.int .u8 0), .lit (.int .u8 0), .lit (.int .u8 0)]

/-- 'taskmasterlaw25.KernelFair': WHATEVER THE INPUT: true; the input reads as it did. -/
def kernelFairSpec : ChangeSpec := { name := "kernelFair", fn := fun _ => fun
  | [d1, d2] => { results := [.lit (.bool true)], args := [d1, d2] }
  | _ => none }
def kernelFairRow : OpenClaim := { program := "ytniejidekflmiaadoor", sum := "32beafeee6ed64df70b35d4a25556fde8c59ea72f084ec2c4b3e0574f64d3e62", func := "taskmaster/taskmasterlaw25.KernelFair", spec := "kernelFair", unfollowed := true, recurses := true, named := ["strings.asciiSpace", "unicode.White_Space", "math/bits.deBruijn64tab"], apart := false, laid := [("math/bits.deBruijn64tab", laid_math_bits_deBruijn64tab), ("unicode.White_Space", laid_unicode_White_Space), ("strings.asciiSpace", laid_strings_asciiSpace)] }
def KernelFairSaid : Prop := kernelFairRow.holds Tryd.pinned (OpenSpec.ofChange kernelFairSpec)

/-- ITS FALSE NEIGHBOUR: 'it returns false'. Refute it at one input. -/
def kernelFairWrong : ChangeSpec := { name := "kernelFair", fn := fun _ => fun
  | [d1, d2] => { results := [.lit (.bool false)], args := [d1, d2] }
  | _ => none }
def KernelFairWrongFalsely : Prop := kernelFairRow.holds Tryd.pinned (OpenSpec.ofChange kernelFairWrong)

/-- 'taskmasterlaw25.KernelBusy': WHATEVER THE INPUT: true; the input reads as it did. -/
def kernelBusySpec : ChangeSpec := { name := "kernelBusy", fn := fun _ => fun
  | [d1, d2] => { results := [.lit (.bool true)], args := [d1, d2] }
  | _ => none }
def kernelBusyRow : OpenClaim := { program := "ytniejidekflmiaadoor", sum := "32beafeee6ed64df70b35d4a25556fde8c59ea72f084ec2c4b3e0574f64d3e62", func := "taskmaster/taskmasterlaw25.KernelBusy", spec := "kernelBusy", unfollowed := true, recurses := true, named := ["strings.asciiSpace", "unicode.White_Space", "math/bits.deBruijn64tab"], apart := false, laid := [("math/bits.deBruijn64tab", laid_math_bits_deBruijn64tab), ("unicode.White_Space", laid_unicode_White_Space), ("strings.asciiSpace", laid_strings_asciiSpace)] }
def KernelBusySaid : Prop := kernelBusyRow.holds Tryd.pinned (OpenSpec.ofChange kernelBusySpec)

/-- ITS FALSE NEIGHBOUR: 'it returns false'. Refute it at one input. -/
def kernelBusyWrong : ChangeSpec := { name := "kernelBusy", fn := fun _ => fun
  | [d1, d2] => { results := [.lit (.bool false)], args := [d1, d2] }
  | _ => none }
def KernelBusyWrongFalsely : Prop := kernelBusyRow.holds Tryd.pinned (OpenSpec.ofChange kernelBusyWrong)

/-- 'taskmasterlaw25.KernelKnown': WHATEVER THE INPUT: true; the input reads as it did. -/
def kernelKnownSpec : ChangeSpec := { name := "kernelKnown", fn := fun _ => fun
  | [d] => { results := [.lit (.bool true)], args := [d] }
  | _ => none }
def kernelKnownRow : OpenClaim := { program := "ytniejidekflmiaadoor", sum := "32beafeee6ed64df70b35d4a25556fde8c59ea72f084ec2c4b3e0574f64d3e62", func := "taskmaster/taskmasterlaw25.KernelKnown", spec := "kernelKnown", unfollowed := true, recurses := true, named := ["strings.asciiSpace", "unicode.White_Space", "math/bits.deBruijn64tab"], apart := false, laid := [("math/bits.deBruijn64tab", laid_math_bits_deBruijn64tab), ("unicode.White_Space", laid_unicode_White_Space), ("strings.asciiSpace", laid_strings_asciiSpace)] }
def KernelKnownSaid : Prop := kernelKnownRow.holds Tryd.pinned (OpenSpec.ofChange kernelKnownSpec)

/-- ITS FALSE NEIGHBOUR: 'it returns false'. Refute it at one input. -/
def kernelKnownWrong : ChangeSpec := { name := "kernelKnown", fn := fun _ => fun
  | [d] => { results := [.lit (.bool false)], args := [d] }
  | _ => none }
def KernelKnownWrongFalsely : Prop := kernelKnownRow.holds Tryd.pinned (OpenSpec.ofChange kernelKnownWrong)

/-- 'taskmasterlaw25.KernelRefuses': WHATEVER THE INPUT: true; the input reads as it did. -/
def kernelRefusesSpec : ChangeSpec := { name := "kernelRefuses", fn := fun _ => fun
  | [d] => { results := [.lit (.bool true)], args := [d] }
  | _ => none }
def kernelRefusesRow : OpenClaim := { program := "ytniejidekflmiaadoor", sum := "32beafeee6ed64df70b35d4a25556fde8c59ea72f084ec2c4b3e0574f64d3e62", func := "taskmaster/taskmasterlaw25.KernelRefuses", spec := "kernelRefuses", unfollowed := true, recurses := true, named := ["strings.asciiSpace", "unicode.White_Space", "math/bits.deBruijn64tab"], apart := false, laid := [("math/bits.deBruijn64tab", laid_math_bits_deBruijn64tab), ("unicode.White_Space", laid_unicode_White_Space), ("strings.asciiSpace", laid_strings_asciiSpace)] }
def KernelRefusesSaid : Prop := kernelRefusesRow.holds Tryd.pinned (OpenSpec.ofChange kernelRefusesSpec)

/-- ITS FALSE NEIGHBOUR: 'it returns false'. Refute it at one input. -/
def kernelRefusesWrong : ChangeSpec := { name := "kernelRefuses", fn := fun _ => fun
  | [d] => { results := [.lit (.bool false)], args := [d] }
  | _ => none }
def KernelRefusesWrongFalsely : Prop := kernelRefusesRow.holds Tryd.pinned (OpenSpec.ofChange kernelRefusesWrong)

/-- 'taskmasterlaw25.KernelLoads': WHATEVER THE INPUT: true; the input reads as it did. -/
def kernelLoadsSpec : ChangeSpec := { name := "kernelLoads", fn := fun _ => fun
  | [d1, d2] => { results := [.lit (.bool true)], args := [d1, d2] }
  | _ => none }
def kernelLoadsRow : OpenClaim := { program := "ytniejidekflmiaadoor", sum := "32beafeee6ed64df70b35d4a25556fde8c59ea72f084ec2c4b3e0574f64d3e62", func := "taskmaster/taskmasterlaw25.KernelLoads", spec := "kernelLoads", unfollowed := true, recurses := true, named := ["strings.asciiSpace", "unicode.White_Space", "math/bits.deBruijn64tab"], apart := false, laid := [("math/bits.deBruijn64tab", laid_math_bits_deBruijn64tab), ("unicode.White_Space", laid_unicode_White_Space), ("strings.asciiSpace", laid_strings_asciiSpace)] }
def KernelLoadsSaid : Prop := kernelLoadsRow.holds Tryd.pinned (OpenSpec.ofChange kernelLoadsSpec)

/-- ITS FALSE NEIGHBOUR: 'it returns false'. Refute it at one input. -/
def kernelLoadsWrong : ChangeSpec := { name := "kernelLoads", fn := fun _ => fun
  | [d1, d2] => { results := [.lit (.bool false)], args := [d1, d2] }
  | _ => none }
def KernelLoadsWrongFalsely : Prop := kernelLoadsRow.holds Tryd.pinned (OpenSpec.ofChange kernelLoadsWrong)

/-- 'taskmasterlaw25.KernelOnce': WHATEVER THE INPUT: true; the input reads as it did. -/
def kernelOnceSpec : ChangeSpec := { name := "kernelOnce", fn := fun _ => fun
  | [d1, d2] => { results := [.lit (.bool true)], args := [d1, d2] }
  | _ => none }
def kernelOnceRow : OpenClaim := { program := "ytniejidekflmiaadoor", sum := "32beafeee6ed64df70b35d4a25556fde8c59ea72f084ec2c4b3e0574f64d3e62", func := "taskmaster/taskmasterlaw25.KernelOnce", spec := "kernelOnce", unfollowed := true, recurses := true, named := ["strings.asciiSpace", "unicode.White_Space", "math/bits.deBruijn64tab"], apart := false, laid := [("math/bits.deBruijn64tab", laid_math_bits_deBruijn64tab), ("unicode.White_Space", laid_unicode_White_Space), ("strings.asciiSpace", laid_strings_asciiSpace)] }
def KernelOnceSaid : Prop := kernelOnceRow.holds Tryd.pinned (OpenSpec.ofChange kernelOnceSpec)

/-- ITS FALSE NEIGHBOUR: 'it returns false'. Refute it at one input. -/
def kernelOnceWrong : ChangeSpec := { name := "kernelOnce", fn := fun _ => fun
  | [d1, d2] => { results := [.lit (.bool false)], args := [d1, d2] }
  | _ => none }
def KernelOnceWrongFalsely : Prop := kernelOnceRow.holds Tryd.pinned (OpenSpec.ofChange kernelOnceWrong)

/-- 'taskmasterlaw25.KernelWork': WHATEVER THE INPUT: true; the input reads as it did. -/
def kernelWorkSpec : ChangeSpec := { name := "kernelWork", fn := fun _ => fun
  | [d1, d2, d3] => { results := [.lit (.bool true)], args := [d1, d2, d3] }
  | _ => none }
def kernelWorkRow : OpenClaim := { program := "ytniejidekflmiaadoor", sum := "32beafeee6ed64df70b35d4a25556fde8c59ea72f084ec2c4b3e0574f64d3e62", func := "taskmaster/taskmasterlaw25.KernelWork", spec := "kernelWork", unfollowed := true, recurses := true, named := ["strings.asciiSpace", "unicode.White_Space", "math/bits.deBruijn64tab"], apart := false, laid := [("math/bits.deBruijn64tab", laid_math_bits_deBruijn64tab), ("unicode.White_Space", laid_unicode_White_Space), ("strings.asciiSpace", laid_strings_asciiSpace)] }
def KernelWorkSaid : Prop := kernelWorkRow.holds Tryd.pinned (OpenSpec.ofChange kernelWorkSpec)

/-- ITS FALSE NEIGHBOUR: 'it returns false'. Refute it at one input. -/
def kernelWorkWrong : ChangeSpec := { name := "kernelWork", fn := fun _ => fun
  | [d1, d2, d3] => { results := [.lit (.bool false)], args := [d1, d2, d3] }
  | _ => none }
def KernelWorkWrongFalsely : Prop := kernelWorkRow.holds Tryd.pinned (OpenSpec.ofChange kernelWorkWrong)

/-- 'taskmasterlaw25.KernelNames': WHATEVER THE INPUT: true; the input reads as it did. -/
def kernelNamesSpec : ChangeSpec := { name := "kernelNames", fn := fun _ => fun
  | [d1, d2] => { results := [.lit (.bool true)], args := [d1, d2] }
  | _ => none }
def kernelNamesRow : OpenClaim := { program := "ytniejidekflmiaadoor", sum := "32beafeee6ed64df70b35d4a25556fde8c59ea72f084ec2c4b3e0574f64d3e62", func := "taskmaster/taskmasterlaw25.KernelNames", spec := "kernelNames", unfollowed := true, recurses := true, named := ["strings.asciiSpace", "unicode.White_Space", "math/bits.deBruijn64tab"], apart := false, laid := [("math/bits.deBruijn64tab", laid_math_bits_deBruijn64tab), ("unicode.White_Space", laid_unicode_White_Space), ("strings.asciiSpace", laid_strings_asciiSpace)] }
def KernelNamesSaid : Prop := kernelNamesRow.holds Tryd.pinned (OpenSpec.ofChange kernelNamesSpec)

/-- ITS FALSE NEIGHBOUR: 'it returns false'. Refute it at one input. -/
def kernelNamesWrong : ChangeSpec := { name := "kernelNames", fn := fun _ => fun
  | [d1, d2] => { results := [.lit (.bool false)], args := [d1, d2] }
  | _ => none }
def KernelNamesWrongFalsely : Prop := kernelNamesRow.holds Tryd.pinned (OpenSpec.ofChange kernelNamesWrong)

/-- 'taskmasterlaw25.KernelStates': WHATEVER THE INPUT: true; the input reads as it did. -/
def kernelStatesSpec : ChangeSpec := { name := "kernelStates", fn := fun _ => fun
  | [d1, d2] => { results := [.lit (.bool true)], args := [d1, d2] }
  | _ => none }
def kernelStatesRow : OpenClaim := { program := "ytniejidekflmiaadoor", sum := "32beafeee6ed64df70b35d4a25556fde8c59ea72f084ec2c4b3e0574f64d3e62", func := "taskmaster/taskmasterlaw25.KernelStates", spec := "kernelStates", unfollowed := true, recurses := true, named := ["strings.asciiSpace", "unicode.White_Space", "math/bits.deBruijn64tab"], apart := false, laid := [("math/bits.deBruijn64tab", laid_math_bits_deBruijn64tab), ("unicode.White_Space", laid_unicode_White_Space), ("strings.asciiSpace", laid_strings_asciiSpace)] }
def KernelStatesSaid : Prop := kernelStatesRow.holds Tryd.pinned (OpenSpec.ofChange kernelStatesSpec)

/-- ITS FALSE NEIGHBOUR: 'it returns false'. Refute it at one input. -/
def kernelStatesWrong : ChangeSpec := { name := "kernelStates", fn := fun _ => fun
  | [d1, d2] => { results := [.lit (.bool false)], args := [d1, d2] }
  | _ => none }
def KernelStatesWrongFalsely : Prop := kernelStatesRow.holds Tryd.pinned (OpenSpec.ofChange kernelStatesWrong)

/- THE SECOND FORM. 'bulk': how many values and letters a reading holds, each counted each time it is reached (what is shared counts as often as it is met; a slice's spare places count too). A statement '..UptoSaid' is the law's where the arguments, and the package variables that the reading takes, are together of bulk at most 1048576: NARROWER than '..Said'. Prove '..Said' where nothing that the law and all that it calls make is longer than what came in: it says more and counts as full. Else prove '..UptoSaid'. A law counts once. -/
mutual
def uptoBulk {H : Type} : DataW H → Nat
  | .lit (.string bytes) => bytes.length + 1
  | .lit _ => 1
  | .nil => 1
  | .ptr d => uptoBulk d + 1
  | .slice elems spare => uptoBulkAll elems + uptoBulkAll spare + 1
  | .agg parts => uptoBulkAll parts + 1
  | .iface _ d => uptoBulk d + 1
  | .map entries => uptoBulkEntries entries + 1
  | .held _ => 1
def uptoBulkAll {H : Type} : List (DataW H) → Nat
  | [] => 0
  | d :: r => uptoBulk d + uptoBulkAll r
def uptoBulkEntries {H : Type} : List (Lit × DataW H) → Nat
  | [] => 0
  | x :: r => uptoBulkEntry x + uptoBulkEntries r
def uptoBulkEntry {H : Type} : Lit × DataW H → Nat
  | (.string bytes, d) => bytes.length + uptoBulk d + 1
  | (_, d) => uptoBulk d + 1
 end
def uptoSmall : (H : Type) → List (DataW H) → Bool := fun _ ds => decide (uptoBulkAll ds ≤ 1048576)
def OpenSpec.upto (s : _root_.Go.ChangeSpec) : _root_.Go.OpenSpec := { _root_.Go.OpenSpec.ofChange s with cond := some uptoSmall }

/-- 'taskmasterlaw25.KernelFair', WHERE WHAT IT READS IS OF BULK AT MOST 1048576: true; the input reads as it did. -/
def kernelFairUptoRow : OpenClaim := { program := "ytniejidekflmiaadoor", sum := "32beafeee6ed64df70b35d4a25556fde8c59ea72f084ec2c4b3e0574f64d3e62", func := "taskmaster/taskmasterlaw25.KernelFair", spec := "kernelFair", unfollowed := true, recurses := true, named := ["strings.asciiSpace", "unicode.White_Space", "math/bits.deBruijn64tab"], apart := false, laid := [("math/bits.deBruijn64tab", laid_math_bits_deBruijn64tab), ("unicode.White_Space", laid_unicode_White_Space), ("strings.asciiSpace", laid_strings_asciiSpace)], narrowed := true }
def KernelFairUptoSaid : Prop := kernelFairUptoRow.holds Tryd.pinned (OpenSpec.upto kernelFairSpec)

/-- 'taskmasterlaw25.KernelBusy', WHERE WHAT IT READS IS OF BULK AT MOST 1048576: true; the input reads as it did. -/
def kernelBusyUptoRow : OpenClaim := { program := "ytniejidekflmiaadoor", sum := "32beafeee6ed64df70b35d4a25556fde8c59ea72f084ec2c4b3e0574f64d3e62", func := "taskmaster/taskmasterlaw25.KernelBusy", spec := "kernelBusy", unfollowed := true, recurses := true, named := ["strings.asciiSpace", "unicode.White_Space", "math/bits.deBruijn64tab"], apart := false, laid := [("math/bits.deBruijn64tab", laid_math_bits_deBruijn64tab), ("unicode.White_Space", laid_unicode_White_Space), ("strings.asciiSpace", laid_strings_asciiSpace)], narrowed := true }
def KernelBusyUptoSaid : Prop := kernelBusyUptoRow.holds Tryd.pinned (OpenSpec.upto kernelBusySpec)

/-- 'taskmasterlaw25.KernelKnown', WHERE WHAT IT READS IS OF BULK AT MOST 1048576: true; the input reads as it did. -/
def kernelKnownUptoRow : OpenClaim := { program := "ytniejidekflmiaadoor", sum := "32beafeee6ed64df70b35d4a25556fde8c59ea72f084ec2c4b3e0574f64d3e62", func := "taskmaster/taskmasterlaw25.KernelKnown", spec := "kernelKnown", unfollowed := true, recurses := true, named := ["strings.asciiSpace", "unicode.White_Space", "math/bits.deBruijn64tab"], apart := false, laid := [("math/bits.deBruijn64tab", laid_math_bits_deBruijn64tab), ("unicode.White_Space", laid_unicode_White_Space), ("strings.asciiSpace", laid_strings_asciiSpace)], narrowed := true }
def KernelKnownUptoSaid : Prop := kernelKnownUptoRow.holds Tryd.pinned (OpenSpec.upto kernelKnownSpec)

/-- 'taskmasterlaw25.KernelRefuses', WHERE WHAT IT READS IS OF BULK AT MOST 1048576: true; the input reads as it did. -/
def kernelRefusesUptoRow : OpenClaim := { program := "ytniejidekflmiaadoor", sum := "32beafeee6ed64df70b35d4a25556fde8c59ea72f084ec2c4b3e0574f64d3e62", func := "taskmaster/taskmasterlaw25.KernelRefuses", spec := "kernelRefuses", unfollowed := true, recurses := true, named := ["strings.asciiSpace", "unicode.White_Space", "math/bits.deBruijn64tab"], apart := false, laid := [("math/bits.deBruijn64tab", laid_math_bits_deBruijn64tab), ("unicode.White_Space", laid_unicode_White_Space), ("strings.asciiSpace", laid_strings_asciiSpace)], narrowed := true }
def KernelRefusesUptoSaid : Prop := kernelRefusesUptoRow.holds Tryd.pinned (OpenSpec.upto kernelRefusesSpec)

/-- 'taskmasterlaw25.KernelLoads', WHERE WHAT IT READS IS OF BULK AT MOST 1048576: true; the input reads as it did. -/
def kernelLoadsUptoRow : OpenClaim := { program := "ytniejidekflmiaadoor", sum := "32beafeee6ed64df70b35d4a25556fde8c59ea72f084ec2c4b3e0574f64d3e62", func := "taskmaster/taskmasterlaw25.KernelLoads", spec := "kernelLoads", unfollowed := true, recurses := true, named := ["strings.asciiSpace", "unicode.White_Space", "math/bits.deBruijn64tab"], apart := false, laid := [("math/bits.deBruijn64tab", laid_math_bits_deBruijn64tab), ("unicode.White_Space", laid_unicode_White_Space), ("strings.asciiSpace", laid_strings_asciiSpace)], narrowed := true }
def KernelLoadsUptoSaid : Prop := kernelLoadsUptoRow.holds Tryd.pinned (OpenSpec.upto kernelLoadsSpec)

/-- 'taskmasterlaw25.KernelOnce', WHERE WHAT IT READS IS OF BULK AT MOST 1048576: true; the input reads as it did. -/
def kernelOnceUptoRow : OpenClaim := { program := "ytniejidekflmiaadoor", sum := "32beafeee6ed64df70b35d4a25556fde8c59ea72f084ec2c4b3e0574f64d3e62", func := "taskmaster/taskmasterlaw25.KernelOnce", spec := "kernelOnce", unfollowed := true, recurses := true, named := ["strings.asciiSpace", "unicode.White_Space", "math/bits.deBruijn64tab"], apart := false, laid := [("math/bits.deBruijn64tab", laid_math_bits_deBruijn64tab), ("unicode.White_Space", laid_unicode_White_Space), ("strings.asciiSpace", laid_strings_asciiSpace)], narrowed := true }
def KernelOnceUptoSaid : Prop := kernelOnceUptoRow.holds Tryd.pinned (OpenSpec.upto kernelOnceSpec)

/-- 'taskmasterlaw25.KernelWork', WHERE WHAT IT READS IS OF BULK AT MOST 1048576: true; the input reads as it did. -/
def kernelWorkUptoRow : OpenClaim := { program := "ytniejidekflmiaadoor", sum := "32beafeee6ed64df70b35d4a25556fde8c59ea72f084ec2c4b3e0574f64d3e62", func := "taskmaster/taskmasterlaw25.KernelWork", spec := "kernelWork", unfollowed := true, recurses := true, named := ["strings.asciiSpace", "unicode.White_Space", "math/bits.deBruijn64tab"], apart := false, laid := [("math/bits.deBruijn64tab", laid_math_bits_deBruijn64tab), ("unicode.White_Space", laid_unicode_White_Space), ("strings.asciiSpace", laid_strings_asciiSpace)], narrowed := true }
def KernelWorkUptoSaid : Prop := kernelWorkUptoRow.holds Tryd.pinned (OpenSpec.upto kernelWorkSpec)

/-- 'taskmasterlaw25.KernelNames', WHERE WHAT IT READS IS OF BULK AT MOST 1048576: true; the input reads as it did. -/
def kernelNamesUptoRow : OpenClaim := { program := "ytniejidekflmiaadoor", sum := "32beafeee6ed64df70b35d4a25556fde8c59ea72f084ec2c4b3e0574f64d3e62", func := "taskmaster/taskmasterlaw25.KernelNames", spec := "kernelNames", unfollowed := true, recurses := true, named := ["strings.asciiSpace", "unicode.White_Space", "math/bits.deBruijn64tab"], apart := false, laid := [("math/bits.deBruijn64tab", laid_math_bits_deBruijn64tab), ("unicode.White_Space", laid_unicode_White_Space), ("strings.asciiSpace", laid_strings_asciiSpace)], narrowed := true }
def KernelNamesUptoSaid : Prop := kernelNamesUptoRow.holds Tryd.pinned (OpenSpec.upto kernelNamesSpec)

/-- 'taskmasterlaw25.KernelStates', WHERE WHAT IT READS IS OF BULK AT MOST 1048576: true; the input reads as it did. -/
def kernelStatesUptoRow : OpenClaim := { program := "ytniejidekflmiaadoor", sum := "32beafeee6ed64df70b35d4a25556fde8c59ea72f084ec2c4b3e0574f64d3e62", func := "taskmaster/taskmasterlaw25.KernelStates", spec := "kernelStates", unfollowed := true, recurses := true, named := ["strings.asciiSpace", "unicode.White_Space", "math/bits.deBruijn64tab"], apart := false, laid := [("math/bits.deBruijn64tab", laid_math_bits_deBruijn64tab), ("unicode.White_Space", laid_unicode_White_Space), ("strings.asciiSpace", laid_strings_asciiSpace)], narrowed := true }
def KernelStatesUptoSaid : Prop := kernelStatesUptoRow.holds Tryd.pinned (OpenSpec.upto kernelStatesSpec)

end Rows
end Go.Proofs.YtniejidekflmiaaDoor
