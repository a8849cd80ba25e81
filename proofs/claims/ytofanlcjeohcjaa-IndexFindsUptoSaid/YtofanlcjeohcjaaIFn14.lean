import Derived.Test.YtofanlcjeohcjaaIFn13
import Derived.Test.YtofanlcjeohcjaaIFn07
import Derived.KernelRfl
noncomputable section
namespace Go.Proofs.Ytofanlcjeohcjaa.Am
open Go.RowKit
def MG:T (List Value→M Value):=T.set (T.set .E 134 Em) 130 Er
theorem Q5:OrcT Try.prog MG:=((OrcT.E _).set Kx_).set Xd
def envC:Env:=envOf Try.prog MG .E
theorem WJ:EnvOK envC:=Hw Try.prog (by kernel_rfl) Q5 (ExtT.E _)
theorem JY_:valR (callF envC 1000000 15 [] st0)=some (.bool true):=by kernel_rfl
def MK:T (List Value→M Value):=T.set MG 15 (FV (.bool true))
theorem Qb:OrcT Try.prog MK:=Q5.set (Jf WJ (by kernel_rfl) (by kernel_rfl) JY_ rfl)
def envD:Env:=envOf Try.prog MK .E
theorem Ef_:EnvOK envD:=Hw Try.prog (by kernel_rfl) Qb (ExtT.E _)
theorem Y7:valR (callF envD 1000000 29 [] st0)=some (.bool true):=by kernel_rfl
def Og:T (List Value→M Value):=T.set MK 29 (FV (.bool true))
theorem OX:OrcT Try.prog Og:=Qb.set (Jf Ef_ (by kernel_rfl) (by kernel_rfl) Y7 rfl)
def envF:Env:=envOf Try.prog Og .E
theorem VO:EnvOK envF:=Hw Try.prog (by kernel_rfl) OX (ExtT.E _)
theorem GN_:valR (callF envF 1000000 35 [] st0)=some (.bool true):=by kernel_rfl
def Ma:T (List Value→M Value):=T.set Og 35 (FV (.bool true))
theorem Pq:OrcT Try.prog Ma:=OX.set (Jf VO (by kernel_rfl) (by kernel_rfl) GN_ rfl)
def envG:Env:=envOf Try.prog Ma .E
theorem Jd_:EnvOK envG:=Hw Try.prog (by kernel_rfl) Pq (ExtT.E _)
theorem JD_:valR (callF envG 1000000 58 [] st0)=some (.bool true):=by kernel_rfl
def UQ:T (List Value→M Value):=T.set Ma 58 (FV (.bool true))
theorem WK:OrcT Try.prog UQ:=Pq.set (Jf Jd_ (by kernel_rfl) (by kernel_rfl) JD_ rfl)
def envS:Env:=envOf Try.prog UQ .E
theorem HX_:EnvOK envS:=Hw Try.prog (by kernel_rfl) WK (ExtT.E _)
end Go.Proofs.Ytofanlcjeohcjaa.Am
end
