/- Closed parts, run by the evaluator. -/
import Derived.Test.YtacpigichlicnaaGreatDoorAmExt
import Derived.Test.YtacpigichlicnaaGreatDoorUsedOrc
import Derived.Test.YtacpigichlicnaaGreatDoorSorted
import Derived.Test.YtacpigichlicnaaGreatDoorSortedI
import Derived.Test.YtacpigichlicnaaGreatDoorShaOrc
import Derived.Test.YtacpigichlicnaaGreatDoorMoreOrc
import Derived.Test.YtacpigichlicnaaGreatDoorExtStr
import Derived.KernelRfl
namespace Go.Proofs.YtacpigichlicnaaGreatDoor.awake
open Go.RowKit
noncomputable def envE179 : Am.Env := Am.envOf Tryz.prog (Am.T.set (Am.T.set (Am.T.set (Am.T.set (Am.T.set (Am.T.set .E 280 (Am.usedM)) 134 (Am.keysM 204)) 133 (Am.sortedM 204)) 180 (Am.keysM 237)) 173 (Am.nextM)) 289 (Am.moreM)) (Am.T.set (Am.T.set .E 258 Am.add64) 353 Am.idxS)
theorem envE179_ok : Am.EnvOK envE179 := Am.envOf_all Tryz.prog (by kernel_rfl) (((((((Am.OrcT.E _).set (Am.orc_used)).set (Am.orc_keys)).set (Am.orc_sorted)).set (Am.orc_keysI)).set (Am.orc_next)).set (Am.orc_more)) (((Am.ExtT.E _).set (Am.ext_add64 Tryz.func258 (by kernel_rfl) (by kernel_rfl) (by kernel_rfl) (by kernel_rfl))).set (Am.ext_idxS Tryz.func353 (by kernel_rfl) (by kernel_rfl) (by kernel_rfl) (by kernel_rfl)))
noncomputable def envC6 : Am.Env := Am.envOf Tryz.prog (Am.T.set (Am.T.set (Am.T.set (Am.T.set (Am.T.set (Am.T.set (Am.T.set .E 280 (Am.usedM)) 134 (Am.keysM 204)) 133 (Am.sortedM 204)) 180 (Am.keysM 237)) 173 (Am.nextM)) 289 (Am.moreM)) 179 (Am.elseM (Am.isClo 237) (Am.sortedIM 237) envE179 1000000 179)) (Am.T.set (Am.T.set .E 258 Am.add64) 353 Am.idxS)
theorem envC6_ok : Am.EnvOK envC6 := Am.envOf_all Tryz.prog (by kernel_rfl) ((((((((Am.OrcT.E _).set (Am.orc_used)).set (Am.orc_keys)).set (Am.orc_sorted)).set (Am.orc_keysI)).set (Am.orc_next)).set (Am.orc_more)).set (Am.orc_else envE179_ok 1000000 179 (by kernel_rfl) (Am.isClo 237) Am.orc_sortedI)) (((Am.ExtT.E _).set (Am.ext_add64 Tryz.func258 (by kernel_rfl) (by kernel_rfl) (by kernel_rfl) (by kernel_rfl))).set (Am.ext_idxS Tryz.func353 (by kernel_rfl) (by kernel_rfl) (by kernel_rfl) (by kernel_rfl)))
theorem c6_run : Am.valR (Am.callF envC6 1000000 6 [] Am.st0) = some (.bool true) := by kernel_rfl

end Go.Proofs.YtacpigichlicnaaGreatDoor.awake
