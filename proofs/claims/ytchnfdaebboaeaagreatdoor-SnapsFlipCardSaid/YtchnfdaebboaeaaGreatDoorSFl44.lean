import Derived.Test.YtchnfdaebboaeaaGreatDoorSFl23
namespace Go.Proofs.YtchnfdaebboaeaaGreatDoor.Am
open Go.RowKit
theorem Va : Bi 5 5 = some (.bool true) := by kernel_rfl
end Go.Proofs.YtchnfdaebboaeaaGreatDoor.Am
