import Derived.Test.YtofanlcjeohcjaaPPt14
import Derived.Test.YtofanlcjeohcjaaPPt08
import Derived.KernelRfl
noncomputable section
namespace Go.Proofs.Ytofanlcjeohcjaa.Am
open Go.RowKit
def Qt : T (List Value → M Value) := T.set (T.set (T.set .E 134 Ei) 130 DZ) 22 En
theorem Z6 : OrcT Try.prog Qt := (((OrcT.E _).set NO_).set VX_).set Ci_
def envC : Env := envOf Try.prog Qt .E
theorem SS_ : EnvOK envC := Ie Try.prog (by kernel_rfl) Z6 (ExtT.E _)
theorem Mo_ : valR (callF envC 1000000 15 [] st0) = some (.bool true) := by kernel_rfl
def N6 : T (List Value → M Value) := T.set Qt 15 (Hf (.bool true))
theorem WK : OrcT Try.prog N6 := Z6.set (JS SS_ (by kernel_rfl) (by kernel_rfl) Mo_ rfl)
def envD : Env := envOf Try.prog N6 .E
theorem Dd_ : EnvOK envD := Ie Try.prog (by kernel_rfl) WK (ExtT.E _)
theorem Ws_ : valR (callF envD 1000000 29 [] st0) = some (.bool true) := by kernel_rfl
def Rm : T (List Value → M Value) := T.set N6 29 (Hf (.bool true))
theorem TT : OrcT Try.prog Rm := WK.set (JS Dd_ (by kernel_rfl) (by kernel_rfl) Ws_ rfl)
def envF : Env := envOf Try.prog Rm .E
theorem Uj_ : EnvOK envF := Ie Try.prog (by kernel_rfl) TT (ExtT.E _)
theorem Jh_ : valR (callF envF 1000000 35 [] st0) = some (.bool true) := by kernel_rfl
def ND : T (List Value → M Value) := T.set Rm 35 (Hf (.bool true))
theorem ST : OrcT Try.prog ND := TT.set (JS Uj_ (by kernel_rfl) (by kernel_rfl) Jh_ rfl)
def envG : Env := envOf Try.prog ND .E
theorem Hc_ : EnvOK envG := Ie Try.prog (by kernel_rfl) ST (ExtT.E _)
theorem HE_ : valR (callF envG 1000000 58 [] st0) = some (.bool true) := by kernel_rfl
def RD : T (List Value → M Value) := T.set ND 58 (Hf (.bool true))
theorem KA_ : OrcT Try.prog RD := ST.set (JS Hc_ (by kernel_rfl) (by kernel_rfl) HE_ rfl)
def envS : Env := envOf Try.prog RD .E
theorem Kt_ : EnvOK envS := Ie Try.prog (by kernel_rfl) KA_ (ExtT.E _)
end Go.Proofs.Ytofanlcjeohcjaa.Am
end
