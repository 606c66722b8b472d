import Derived.Test.YtenamokjbbiecaaProg
import Derived.Test.YtenamokjbbiecaaBase
import Derived.Test.YtenamokjbbiecaaLexM
import Derived.Test.YtenamokjbbiecaaLex1
import Derived.Test.YtenamokjbbiecaaLex3
import Derived.Test.YtenamokjbbiecaaTskM
import Derived.Test.YtenamokjbbiecaaTsk1
import Derived.Test.YtenamokjbbiecaaTsk2
import Derived.Test.YtenamokjbbiecaaHeldX
import Derived.BigQuiet
import Derived.Deep.QuietTactic
namespace Go.Proofs.Ytenamokjbbiecaa
open Go.RowKit
attribute [local go_sem] setCell_twice ByteArray.toList_eq str_list
set_option linter.unusedSimpArgs false

/-- may a task be? -/
def isB (t : Tsk) (p : Int) : Bool := nameB t.name.data.toList && (regsB t.regs && (decide (workL t.regs ≤ t.D) && (decide (t.D ≤ t.T) && ((decide (t.T ≥ 0) && decide (t.T ≤ 10000)) && (modeB t p && (bits BinOp.andNot IntKind.u64 t.ucb t.ecb == 0))))))
end Go.Proofs.Ytenamokjbbiecaa
