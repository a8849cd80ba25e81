/- Closed parts, run by the evaluator. -/
import Derived.Test.YtieohifdhplgbaaGreatDoorANo06
import Derived.Test.YtieohifdhplgbaaGreatDoorANo10
import Derived.Test.YtieohifdhplgbaaGreatDoorANo13
import Derived.Test.YtieohifdhplgbaaGreatDoorANo19
import Derived.Test.YtieohifdhplgbaaGreatDoorANo20
import Derived.KernelRfl
namespace Go.Proofs.YtieohifdhplgbaaGreatDoor.awake
open Go.RowKit
noncomputable def envC6 : Am.Env := Am.envOf Tryz.prog (Am.T.set (Am.T.set (Am.T.set (Am.T.set (Am.T.set .E 144 (Am.usedM)) 133 (Am.keysM 184)) 132 (Am.sortedM 184)) 284 (Am.nextM)) 110 (Am.moreM)) (Am.T.set (Am.T.set .E 210 Am.add64) 293 Am.idxS)
theorem envC6_ok : Am.EnvOK envC6 := Am.envOf_all Tryz.prog (by kernel_rfl) ((((((Am.OrcT.E _).set (Am.orc_used)).set (Am.orc_keys)).set (Am.orc_sorted)).set (Am.orc_next)).set (Am.orc_more)) (((Am.ExtT.E _).set (Am.ext_add64 Tryz.func210 (by kernel_rfl) (by kernel_rfl) (by kernel_rfl) (by kernel_rfl))).set (Am.ext_idxS Tryz.func293 (by kernel_rfl) (by kernel_rfl) (by kernel_rfl) (by kernel_rfl)))
theorem c6_run : Am.valR (Am.callF envC6 1000000 6 [] Am.st0) = some (.bool true) := by kernel_rfl

end Go.Proofs.YtieohifdhplgbaaGreatDoor.awake
