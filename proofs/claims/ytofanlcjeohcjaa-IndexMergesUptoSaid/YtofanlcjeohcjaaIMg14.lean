import Derived.Test.YtofanlcjeohcjaaIMg13
noncomputable section
namespace Go.Proofs.Ytofanlcjeohcjaa.Am
open Go.RowKit
def Pb : T (List Value → M Value) := T.set (T.set (T.set .E 134 Ey) 130 DU) 22 FF
theorem XF : OrcT Try.prog Pb := (((OrcT.E _).set Alp_).set PJ_).set AaY_
def envC : Env := envOf Try.prog Pb .E
theorem Pb_ : EnvOK envC := SI Try.prog (by kernel_rfl) XF (ExtT.E _)
theorem Aff_ : valR (callF envC 1000000 35 [] st0) = some (.bool true) := by kernel_rfl
def Di_ : T (List Value → M Value) := T.set Pb 35 (ND (.bool true))
theorem Vb_ : OrcT Try.prog Di_ := XF.set (Acn_ Pb_ (by kernel_rfl) (by kernel_rfl) Aff_ rfl)
def envS : Env := envOf Try.prog Di_ .E
theorem AjR_ : EnvOK envS := SI Try.prog (by kernel_rfl) Vb_ (ExtT.E _)
