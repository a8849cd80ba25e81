import Derived.Test.YtchnfdaebboaeaaGreatDoorSFl23
namespace Go.Proofs.YtchnfdaebboaeaaGreatDoor.Am
open Go.RowKit
theorem UE : Bi 5 1 = some (.bool true) := by kernel_rfl
end Go.Proofs.YtchnfdaebboaeaaGreatDoor.Am
