import Derived.Test.YtofanlcjeohcjaaRows
import Derived.WalkKit
import Derived.WalkSpells
import Derived.WalkLawsBesides
import Derived.BigQuiet
import Derived.Deep.QuietTactic
import Derived.Test.YtofanlcjeohcjaaIBz09
namespace Go.Proofs.Ytofanlcjeohcjaa
open Go.RowKit
theorem AK_ {a b : Int} (h : a = b) : Ending.returned (.int .u32 a) = .returned (.int .u32 b) := by rw [h]
