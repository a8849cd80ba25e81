import Derived.Test.YtchnfdaebboaeaaGreatDoorSFl23
namespace Go.Proofs.YtchnfdaebboaeaaGreatDoor.Am
open Go.RowKit
theorem Wn : Bi 1 0 = some (.bool true) := by kernel_rfl
end Go.Proofs.YtchnfdaebboaeaaGreatDoor.Am
