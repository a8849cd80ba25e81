/- Closed parts, run by the evaluator. -/
import Derived.Test.YtkgncjlgmnbfoaaGreatDoorAmExt
import Derived.Test.YtkgncjlgmnbfoaaGreatDoorUsedOrc
import Derived.Test.YtkgncjlgmnbfoaaGreatDoorSorted
import Derived.Test.YtkgncjlgmnbfoaaGreatDoorSortedI
import Derived.Test.YtkgncjlgmnbfoaaGreatDoorShaOrc
import Derived.Test.YtkgncjlgmnbfoaaGreatDoorMoreOrc
import Derived.Test.YtkgncjlgmnbfoaaGreatDoorExtStr
import Derived.KernelRfl
namespace Go.Proofs.YtkgncjlgmnbfoaaGreatDoor.awake
open Go.RowKit
noncomputable def envE190 : Am.Env := Am.envOf Tryz.prog (Am.T.set (Am.T.set (Am.T.set (Am.T.set (Am.T.set (Am.T.set .E 297 (Am.usedM)) 108 (Am.keysM 179)) 107 (Am.sortedM 179)) 210 (Am.keysM 256)) 148 (Am.nextM)) 275 (Am.moreM)) (Am.T.set (Am.T.set .E 226 Am.add64) 350 Am.idxS)
theorem envE190_ok : Am.EnvOK envE190 := Am.envOf_all Tryz.prog (by kernel_rfl) (((((((Am.OrcT.E _).set (Am.orc_used)).set (Am.orc_keys)).set (Am.orc_sorted)).set (Am.orc_keysI)).set (Am.orc_next)).set (Am.orc_more)) (((Am.ExtT.E _).set (Am.ext_add64 Tryz.func226 (by kernel_rfl) (by kernel_rfl) (by kernel_rfl) (by kernel_rfl))).set (Am.ext_idxS Tryz.func350 (by kernel_rfl) (by kernel_rfl) (by kernel_rfl) (by kernel_rfl)))
noncomputable def envC12 : Am.Env := Am.envOf Tryz.prog (Am.T.set (Am.T.set (Am.T.set (Am.T.set (Am.T.set (Am.T.set (Am.T.set .E 297 (Am.usedM)) 108 (Am.keysM 179)) 107 (Am.sortedM 179)) 210 (Am.keysM 256)) 148 (Am.nextM)) 275 (Am.moreM)) 190 (Am.elseM (Am.isClo 256) (Am.sortedIM 256) envE190 1000000 190)) (Am.T.set (Am.T.set .E 226 Am.add64) 350 Am.idxS)
theorem envC12_ok : Am.EnvOK envC12 := Am.envOf_all Tryz.prog (by kernel_rfl) ((((((((Am.OrcT.E _).set (Am.orc_used)).set (Am.orc_keys)).set (Am.orc_sorted)).set (Am.orc_keysI)).set (Am.orc_next)).set (Am.orc_more)).set (Am.orc_else envE190_ok 1000000 190 (by kernel_rfl) (Am.isClo 256) Am.orc_sortedI)) (((Am.ExtT.E _).set (Am.ext_add64 Tryz.func226 (by kernel_rfl) (by kernel_rfl) (by kernel_rfl) (by kernel_rfl))).set (Am.ext_idxS Tryz.func350 (by kernel_rfl) (by kernel_rfl) (by kernel_rfl) (by kernel_rfl)))
theorem c12_run : Am.valR (Am.callF envC12 1000000 12 [] Am.st0) = some (.bool true) := by kernel_rfl

end Go.Proofs.YtkgncjlgmnbfoaaGreatDoor.awake
