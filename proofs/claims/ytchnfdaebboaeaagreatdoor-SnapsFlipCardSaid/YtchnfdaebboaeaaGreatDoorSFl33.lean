import Derived.Test.YtchnfdaebboaeaaGreatDoorSFl23
namespace Go.Proofs.YtchnfdaebboaeaaGreatDoor.Am
open Go.RowKit
theorem Tq : Bi 3 3 = some (.bool true) := by kernel_rfl
end Go.Proofs.YtchnfdaebboaeaaGreatDoor.Am
