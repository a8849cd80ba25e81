/- The evaluator's tables of this seat: contracts of digest.state.next, of guard.More; the closed parts. -/
import Derived.Test.YtofanlcjeohcjaaMh12
import Derived.Test.YtofanlcjeohcjaaMh07
import Derived.KernelRfl
namespace Go.Proofs.Ytofanlcjeohcjaa.Am
open Go.RowKit
noncomputable def orcs0 : T (List Value → M Value) := T.set (T.set .E 134 nextM) 130 moreM
theorem orcs0_ok : OrcT Try.prog orcs0 := ((OrcT.E _).set orc_next).set orc_more
noncomputable def envC : Env := envOf Try.prog orcs0 .E
theorem envC_ok : EnvOK envC := envOf_all Try.prog (by kernel_rfl) orcs0_ok (ExtT.E _)
theorem awake_run : valR (callF envC 1000000 15 [] st0) = some (.bool true) := by kernel_rfl
noncomputable def orcs1 : T (List Value → M Value) := T.set orcs0 15 (closedM (.bool true))
theorem orcs1_ok : OrcT Try.prog orcs1 := orcs0_ok.set (orc_closed envC_ok (by kernel_rfl) (by kernel_rfl) awake_run rfl)
noncomputable def envD : Env := envOf Try.prog orcs1 .E
theorem envD_ok : EnvOK envD := envOf_all Try.prog (by kernel_rfl) orcs1_ok (ExtT.E _)
theorem known_run : valR (callF envD 1000000 29 [] st0) = some (.bool true) := by kernel_rfl
noncomputable def orcs2 : T (List Value → M Value) := T.set orcs1 29 (closedM (.bool true))
theorem orcs2_ok : OrcT Try.prog orcs2 := orcs1_ok.set (orc_closed envD_ok (by kernel_rfl) (by kernel_rfl) known_run rfl)
noncomputable def envF : Env := envOf Try.prog orcs2 .E
theorem envF_ok : EnvOK envF := envOf_all Try.prog (by kernel_rfl) orcs2_ok (ExtT.E _)
theorem awake18_run : valR (callF envF 1000000 35 [] st0) = some (.bool true) := by kernel_rfl
noncomputable def orcs3 : T (List Value → M Value) := T.set orcs2 35 (closedM (.bool true))
theorem orcs3_ok : OrcT Try.prog orcs3 := orcs2_ok.set (orc_closed envF_ok (by kernel_rfl) (by kernel_rfl) awake18_run rfl)
noncomputable def envG : Env := envOf Try.prog orcs3 .E
theorem envG_ok : EnvOK envG := envOf_all Try.prog (by kernel_rfl) orcs3_ok (ExtT.E _)
theorem known18_run : valR (callF envG 1000000 58 [] st0) = some (.bool true) := by kernel_rfl
noncomputable def orcs4 : T (List Value → M Value) := T.set orcs3 58 (closedM (.bool true))
theorem orcs4_ok : OrcT Try.prog orcs4 := orcs3_ok.set (orc_closed envG_ok (by kernel_rfl) (by kernel_rfl) known18_run rfl)
noncomputable def envS : Env := envOf Try.prog orcs4 .E
theorem envS_ok : EnvOK envS := envOf_all Try.prog (by kernel_rfl) orcs4_ok (ExtT.E _)
end Go.Proofs.Ytofanlcjeohcjaa.Am
