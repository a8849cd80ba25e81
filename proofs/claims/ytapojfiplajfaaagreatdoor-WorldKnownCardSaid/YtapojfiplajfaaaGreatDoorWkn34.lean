/- The recorded calls. -/
import Derived.Test.YtapojfiplajfaaaGreatDoorWkn31
import Derived.Test.YtapojfiplajfaaaGreatDoorWkn32
import Derived.Test.YtapojfiplajfaaaGreatDoorWkn33
namespace Go.Proofs.YtapojfiplajfaaaGreatDoor.Am
open Go.RowKit
noncomputable def memo39 : List Value → M Value := (byNext 915 MemoA.memo (byNext 19216 MemoB.memo MemoC.memo))
theorem orc_memo39 : OrcOK Tryz.prog 39 memo39 := (orc_byNext MemoA.orc (orc_byNext MemoB.orc MemoC.orc))
end Go.Proofs.YtapojfiplajfaaaGreatDoor.Am
