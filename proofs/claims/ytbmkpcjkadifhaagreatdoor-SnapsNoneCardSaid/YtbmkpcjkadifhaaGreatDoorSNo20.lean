/- The evaluator's tables of this seat. -/
import Derived.Test.YtbmkpcjkadifhaaGreatDoorSNo10
import Derived.Test.YtbmkpcjkadifhaaGreatDoorSNo13
import Derived.Test.YtbmkpcjkadifhaaGreatDoorSNo19
import Derived.Test.YtbmkpcjkadifhaaGreatDoorSNo07
import Derived.KernelRfl
namespace Go.Proofs.YtbmkpcjkadifhaaGreatDoor.Am
open Go.RowKit
noncomputable def envC : Env := envOf Tryz.prog (T.set (T.set (T.set (T.set .E 104 (keysM 139)) 103 (sortedM 139)) 92 usedM) 129 nextM) (T.set .E 135 add64)
theorem envC_ok : EnvOK envC := envOf_all Tryz.prog (by kernel_rfl) (((((OrcT.E _).set orc_keys).set orc_sorted).set orc_used).set orc_next) ((ExtT.E _).set (ext_add64 Tryz.func135 (by kernel_rfl) (by kernel_rfl) (by kernel_rfl) (by kernel_rfl)))
theorem awake_run : valR (callF envC 1000000 5 [] st0) = some (.bool true) := by kernel_rfl
noncomputable def envS : Env := envOf Tryz.prog (T.set (T.set (T.set (T.set (T.set .E 104 (keysM 139)) 103 (sortedM 139)) 92 usedM) 129 nextM) 5 (closedM (.bool true))) (T.set .E 135 add64)
theorem envS_ok : EnvOK envS := envOf_all Tryz.prog (by kernel_rfl) ((((((OrcT.E _).set orc_keys).set orc_sorted).set orc_used).set orc_next).set (orc_closed envC_ok (by kernel_rfl) (by kernel_rfl) awake_run rfl)) ((ExtT.E _).set (ext_add64 Tryz.func135 (by kernel_rfl) (by kernel_rfl) (by kernel_rfl) (by kernel_rfl)))
end Go.Proofs.YtbmkpcjkadifhaaGreatDoor.Am
