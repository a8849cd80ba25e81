/- The recorded calls. -/
import Derived.Test.YtapojfiplajfaaaGreatDoorWnn33
import Derived.Test.YtapojfiplajfaaaGreatDoorWnn34
namespace Go.Proofs.YtapojfiplajfaaaGreatDoor.Am
open Go.RowKit
noncomputable def memo39 : List Value → M Value := (byNext 915 MemoA.memo MemoB.memo)
theorem orc_memo39 : OrcOK Tryz.prog 39 memo39 := (orc_byNext MemoA.orc MemoB.orc)
end Go.Proofs.YtapojfiplajfaaaGreatDoor.Am
