import Derived.Test.YtchnfdaebboaeaaGreatDoorSFl11
import Derived.Test.YtchnfdaebboaeaaGreatDoorSFl13
import Derived.Test.YtchnfdaebboaeaaGreatDoorSFl19
import Derived.Test.YtchnfdaebboaeaaGreatDoorSFl08
import Derived.KernelRfl
noncomputable section
namespace Go.Proofs.YtchnfdaebboaeaaGreatDoor.Am
open Go.RowKit
def K2 : T (List Value → M Value) := T.set (T.set (T.set (T.set .E 128 usedM) 109 (keysM 146)) 108 (sortedM 146)) 142 Dy
theorem QY : OrcT Tryz.prog K2 := ((((OrcT.E _).set Ac_).set Xs).set WH).set CF_
def JU : T (List Value → M Value) := T.set .E 167 Jo
theorem Kx : ExtT Tryz.prog JU := (ExtT.E _).set (CG_ Tryz.func167 (by kernel_rfl) (by kernel_rfl) (by kernel_rfl) (by kernel_rfl))
def envC : Env := envOf Tryz.prog K2 JU
theorem Uz : EnvOK envC := Mt Tryz.prog (by kernel_rfl) QY Kx
theorem FL_ : valR (callF envC 1000000 7 [] st0) = some (.bool true) := by kernel_rfl
def Ll : T (List Value → M Value) := T.set K2 7 (SO (.bool true))
theorem Pp : OrcT Tryz.prog Ll := QY.set (CA_ Uz (by kernel_rfl) (by kernel_rfl) FL_ rfl)
def envS : Env := envOf Tryz.prog Ll JU
theorem IZ : EnvOK envS := Mt Tryz.prog (by kernel_rfl) Pp Kx
end Go.Proofs.YtchnfdaebboaeaaGreatDoor.Am
end
