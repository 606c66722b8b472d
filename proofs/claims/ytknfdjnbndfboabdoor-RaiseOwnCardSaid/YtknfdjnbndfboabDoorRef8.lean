/- The document's costs (ref8): Work. -/
import Derived.Test.YtknfdjnbndfboabDoorProg
import Derived.Test.YtknfdjnbndfboabDoorBase
import Derived.Test.YtknfdjnbndfboabDoorHeldX
import Derived.Test.YtknfdjnbndfboabDoorTsk1
import Derived.Test.YtknfdjnbndfboabDoorTsk3
import Derived.Test.YtknfdjnbndfboabDoorTskZ
import Derived.Test.YtknfdjnbndfboabDoorNumP
import Derived.Test.YtknfdjnbndfboabDoorBit
import Derived.Test.YtknfdjnbndfboabDoorAgain
import Derived.Deep.Cut
import Derived.Lib.Hide
import Derived.Laws.Bits64b
namespace Go.Proofs.YtknfdjnbndfboabDoor
open Go.RowKit
attribute [local go_sem] setCell_twice ByteArray.toList_eq str_list Ext.alloc Ext.drew
set_option linter.unusedSimpArgs false
set_option maxRecDepth 100000
set_option maxHeartbeats 6400000

end Go.Proofs.YtknfdjnbndfboabDoor
/- ref8.Made. -/
namespace Go.Proofs.YtknfdjnbndfboabDoor
open Go.RowKit
attribute [local go_sem] setCell_twice ByteArray.toList_eq str_list Ext.alloc Ext.drew
set_option linter.unusedSimpArgs false
set_option maxRecDepth 100000
set_option maxHeartbeats 6400000
attribute [local irreducible] popN

end Go.Proofs.YtknfdjnbndfboabDoor
