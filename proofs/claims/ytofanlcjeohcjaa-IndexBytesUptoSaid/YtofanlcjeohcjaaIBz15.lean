import Derived.Test.YtofanlcjeohcjaaIBz14
noncomputable section
namespace Go.Proofs.Ytofanlcjeohcjaa.Am
open Go.RowKit
def Nq : T (List Value → M Value) := T.set (T.set .E 130 Ej) 22 EZ
theorem BU_ : OrcT Try.prog Nq := ((OrcT.E _).set Ahx_).set AqD_
def envC : Env := envOf Try.prog Nq .E
theorem AaW_ : EnvOK envC := Vm Try.prog (by kernel_rfl) BU_ (ExtT.E _)
theorem Ark_ : valR (callF envC 1000000 35 [] st0) = some (.bool true) := by kernel_rfl
def CB_ : T (List Value → M Value) := T.set Nq 35 (PM (.bool true))
theorem Ahs_ : OrcT Try.prog CB_ := BU_.set (WT_ AaW_ (by kernel_rfl) (by kernel_rfl) Ark_ rfl)
def envS : Env := envOf Try.prog CB_ .E
theorem Ajk_ : EnvOK envS := Vm Try.prog (by kernel_rfl) Ahs_ (ExtT.E _)
