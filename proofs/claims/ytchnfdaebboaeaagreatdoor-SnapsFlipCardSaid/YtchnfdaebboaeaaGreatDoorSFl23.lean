import Derived.Test.YtchnfdaebboaeaaGreatDoorSFl21
import Derived.Test.YtchnfdaebboaeaaGreatDoorSFl22
import Derived.Test.YtchnfdaebboaeaaGreatDoorSFl14
noncomputable section
namespace Go.Proofs.YtchnfdaebboaeaaGreatDoor.Am
open Go.RowKit
def PI : T (List Value → M Value) := T.set (T.set (T.set (T.set Ll 18 CT) 24 (CZ Is)) 23 idM) 22 ES
theorem W0 : OrcT Tryz.prog PI := (((Pp.set V7).set X9).set Wg).set Xv
def envT : Env := envOf Tryz.prog PI JU
theorem XF : EnvOK envT := Mt Tryz.prog (by kernel_rfl) W0 Kx
def O7 (p q : Nat) : List Value := [.complex .f32 6 (10000 + p), .complex .f32 6 (20000 + 10 * (p + 1) + q), .complex .f32 6 (30000 + q)]
def Bi (p q : Nat) : Option Value := valR (JP envT 1000000 2000 4 (O7 p q) st0)
end Go.Proofs.YtchnfdaebboaeaaGreatDoor.Am
end
