import Derived.Test.YtofanlcjeohcjaaMb13
import Derived.Test.YtofanlcjeohcjaaMb07
import Derived.KernelRfl
noncomputable section
namespace Go.Proofs.Ytofanlcjeohcjaa.Am
open Go.RowKit
def OA : T (List Value → M Value) := T.set (T.set .E 134 EF) 130 D3
theorem Bv_ : OrcT Try.prog OA := ((OrcT.E _).set QK_).set QN_
def envC : Env := envOf Try.prog OA .E
theorem KM_ : EnvOK envC := Ii Try.prog (by kernel_rfl) Bv_ (ExtT.E _)
theorem Gp_ : valR (callF envC 1000000 15 [] st0) = some (.bool true) := by kernel_rfl
def Qm : T (List Value → M Value) := T.set OA 15 (Hf (.bool true))
theorem WK : OrcT Try.prog Qm := Bv_.set (La KM_ (by kernel_rfl) (by kernel_rfl) Gp_ rfl)
def envD : Env := envOf Try.prog Qm .E
theorem XR_ : EnvOK envD := Ii Try.prog (by kernel_rfl) WK (ExtT.E _)
theorem Ka_ : valR (callF envD 1000000 29 [] st0) = some (.bool true) := by kernel_rfl
def Sz : T (List Value → M Value) := T.set Qm 29 (Hf (.bool true))
theorem Zf : OrcT Try.prog Sz := WK.set (La XR_ (by kernel_rfl) (by kernel_rfl) Ka_ rfl)
def envF : Env := envOf Try.prog Sz .E
theorem FU_ : EnvOK envF := Ii Try.prog (by kernel_rfl) Zf (ExtT.E _)
theorem DO_ : valR (callF envF 1000000 35 [] st0) = some (.bool true) := by kernel_rfl
def Qw : T (List Value → M Value) := T.set Sz 35 (Hf (.bool true))
theorem BR_ : OrcT Try.prog Qw := Zf.set (La FU_ (by kernel_rfl) (by kernel_rfl) DO_ rfl)
def envG : Env := envOf Try.prog Qw .E
theorem Tl_ : EnvOK envG := Ii Try.prog (by kernel_rfl) BR_ (ExtT.E _)
theorem VO_ : valR (callF envG 1000000 58 [] st0) = some (.bool true) := by kernel_rfl
def Ya : T (List Value → M Value) := T.set Qw 58 (Hf (.bool true))
theorem Sv_ : OrcT Try.prog Ya := BR_.set (La Tl_ (by kernel_rfl) (by kernel_rfl) VO_ rfl)
def envS : Env := envOf Try.prog Ya .E
theorem YS : EnvOK envS := Ii Try.prog (by kernel_rfl) Sv_ (ExtT.E _)
end Go.Proofs.Ytofanlcjeohcjaa.Am
end
