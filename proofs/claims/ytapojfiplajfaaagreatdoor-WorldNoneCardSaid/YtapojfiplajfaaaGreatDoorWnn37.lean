/- awake's contract, for the walks. -/
import Derived.Test.YtapojfiplajfaaaGreatDoorWnn36
namespace Go.Proofs.YtapojfiplajfaaaGreatDoor.Am
theorem orc_awakeW : OrcOK Tryz.prog 11 (closedM (.bool true)) := orc_closed (E := awake.envC11) awake.envC11_ok (by kernel_rfl) (by kernel_rfl) awake.c11_run rfl
end Go.Proofs.YtapojfiplajfaaaGreatDoor.Am
