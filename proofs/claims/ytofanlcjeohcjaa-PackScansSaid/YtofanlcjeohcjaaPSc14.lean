import Derived.Test.YtofanlcjeohcjaaPSc13
import Derived.Test.YtofanlcjeohcjaaPSc07
import Derived.KernelRfl
noncomputable section
namespace Go.Proofs.Ytofanlcjeohcjaa.Am
open Go.RowKit
def Mx : T (List Value → M Value) := T.set (T.set (T.set .E 134 Ep) 130 Ek) 22 EG
theorem Wa : OrcT Try.prog Mx := (((OrcT.E _).set IZ_).set LL_).set Nh_
def envC : Env := envOf Try.prog Mx .E
theorem RA_ : EnvOK envC := ZR Try.prog (by kernel_rfl) Wa (ExtT.E _)
theorem Zz_ : valR (callF envC 1000000 15 [] st0) = some (.bool true) := by kernel_rfl
def Wd : T (List Value → M Value) := T.set Mx 15 (MI (.bool true))
theorem NU_ : OrcT Try.prog Wd := Wa.set (LW_ RA_ (by kernel_rfl) (by kernel_rfl) Zz_ rfl)
def envS : Env := envOf Try.prog Wd .E
theorem Sj_ : EnvOK envS := ZR Try.prog (by kernel_rfl) NU_ (ExtT.E _)
end Go.Proofs.Ytofanlcjeohcjaa.Am
end
