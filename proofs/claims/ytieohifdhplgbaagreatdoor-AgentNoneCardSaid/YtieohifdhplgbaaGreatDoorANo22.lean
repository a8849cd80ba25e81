/- The evaluator's tables of this seat. -/
import Derived.Test.YtieohifdhplgbaaGreatDoorANo21
import Derived.Test.YtieohifdhplgbaaGreatDoorANo07
import Derived.KernelRfl
namespace Go.Proofs.YtieohifdhplgbaaGreatDoor.Am
open Go.RowKit awake
noncomputable def envS : Env := envOf Tryz.prog (T.set (T.set (T.set (T.set (T.set (T.set .E 144 usedM) 133 (keysM 184)) 132 (sortedM 184)) 284 nextM) 110 moreM) 6 (closedM (.bool true))) (T.set (T.set .E 210 add64) 293 idxS)
theorem envS_ok : EnvOK envS := envOf_all Tryz.prog (by kernel_rfl) (((((((OrcT.E _).set (orc_used)).set (orc_keys)).set (orc_sorted)).set (orc_next)).set (orc_more)).set (orc_closed envC6_ok (by kernel_rfl) (by kernel_rfl) c6_run rfl)) (((ExtT.E _).set (ext_add64 Tryz.func210 (by kernel_rfl) (by kernel_rfl) (by kernel_rfl) (by kernel_rfl))).set (ext_idxS Tryz.func293 (by kernel_rfl) (by kernel_rfl) (by kernel_rfl) (by kernel_rfl)))
end Go.Proofs.YtieohifdhplgbaaGreatDoor.Am
