/- The evaluator's tables of the World rows' walks: the closed part alone. -/
import Derived.Test.YtapojfiplajfaaaGreatDoorWnn37
import Derived.Test.YtapojfiplajfaaaGreatDoorWnn21
import Derived.KernelRfl
namespace Go.Proofs.YtapojfiplajfaaaGreatDoor.Am
open Go.RowKit
noncomputable def envS : Env := envOf Tryz.prog (T.set .E 11 (closedM (.bool true))) .E
theorem envS_ok : EnvOK envS := envOf_all Tryz.prog (by kernel_rfl) ((OrcT.E _).set orc_awakeW) (ExtT.E _)
end Go.Proofs.YtapojfiplajfaaaGreatDoor.Am
