import Derived.Test.YtchnfdaebboaeaaGreatDoorSFl23
namespace Go.Proofs.YtchnfdaebboaeaaGreatDoor.Am
open Go.RowKit
theorem Eh_ : Bi 3 2 = some (.bool true) := by kernel_rfl
end Go.Proofs.YtchnfdaebboaeaaGreatDoor.Am
