import Derived.Test.YtofanlcjeohcjaaIBk14
import Derived.Test.YtofanlcjeohcjaaIBk07
import Derived.KernelRfl
noncomputable section
namespace Go.Proofs.Ytofanlcjeohcjaa.Am
open Go.RowKit
def Rv : T (List Value → M Value) := T.set (T.set .E 134 Fd) 130 En
theorem FG_ : OrcT Try.prog Rv := ((OrcT.E _).set PZ_).set XB_
def envC : Env := envOf Try.prog Rv .E
theorem AdE_ : EnvOK envC := KF Try.prog (by kernel_rfl) FG_ (ExtT.E _)
theorem XV_ : valR (callF envC 1000000 15 [] st0) = some (.bool true) := by kernel_rfl
def Rq : T (List Value → M Value) := T.set Rv 15 (IP (.bool true))
theorem Hy_ : OrcT Try.prog Rq := FG_.set (Ow AdE_ (by kernel_rfl) (by kernel_rfl) XV_ rfl)
def envD : Env := envOf Try.prog Rq .E
theorem LC_ : EnvOK envD := KF Try.prog (by kernel_rfl) Hy_ (ExtT.E _)
theorem Aep_ : valR (callF envD 1000000 29 [] st0) = some (.bool true) := by kernel_rfl
def UV : T (List Value → M Value) := T.set Rq 29 (IP (.bool true))
theorem Hx_ : OrcT Try.prog UV := Hy_.set (Ow LC_ (by kernel_rfl) (by kernel_rfl) Aep_ rfl)
def envF : Env := envOf Try.prog UV .E
theorem Xf_ : EnvOK envF := KF Try.prog (by kernel_rfl) Hx_ (ExtT.E _)
theorem XA_ : valR (callF envF 1000000 35 [] st0) = some (.bool true) := by kernel_rfl
def Uu : T (List Value → M Value) := T.set UV 35 (IP (.bool true))
theorem WE : OrcT Try.prog Uu := Hx_.set (Ow Xf_ (by kernel_rfl) (by kernel_rfl) XA_ rfl)
def envG : Env := envOf Try.prog Uu .E
theorem Qg_ : EnvOK envG := KF Try.prog (by kernel_rfl) WE (ExtT.E _)
theorem Ahx_ : valR (callF envG 1000000 58 [] st0) = some (.bool true) := by kernel_rfl
def XS : T (List Value → M Value) := T.set Uu 58 (IP (.bool true))
theorem AkE_ : OrcT Try.prog XS := WE.set (Ow Qg_ (by kernel_rfl) (by kernel_rfl) Ahx_ rfl)
def envS : Env := envOf Try.prog XS .E
theorem Afl_ : EnvOK envS := KF Try.prog (by kernel_rfl) AkE_ (ExtT.E _)
end Go.Proofs.Ytofanlcjeohcjaa.Am
end
