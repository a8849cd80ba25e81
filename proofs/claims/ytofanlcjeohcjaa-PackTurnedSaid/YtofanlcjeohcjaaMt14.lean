import Derived.Test.YtofanlcjeohcjaaMt13
import Derived.Test.YtofanlcjeohcjaaMt07
import Derived.KernelRfl
noncomputable section
namespace Go.Proofs.Ytofanlcjeohcjaa.Am
open Go.RowKit
def Q5:T (List Value→M Value):=T.set (T.set .E 134 Ed) 130 DL
theorem V2:OrcT Try.prog Q5:=((OrcT.E _).set OI_).set CF_
def envC:Env:=envOf Try.prog Q5 .E
theorem Vt_:EnvOK envC:=Jb Try.prog (by kernel_rfl) V2 (ExtT.E _)
theorem Ud_:valR (callF envC 1000000 15 [] st0)=some (.bool true):=by kernel_rfl
def Qe:T (List Value→M Value):=T.set Q5 15 (Gq (.bool true))
theorem Vy:OrcT Try.prog Qe:=V2.set (KR Vt_ (by kernel_rfl) (by kernel_rfl) Ud_ rfl)
def envD:Env:=envOf Try.prog Qe .E
theorem Ly_:EnvOK envD:=Jb Try.prog (by kernel_rfl) Vy (ExtT.E _)
theorem RG_:valR (callF envD 1000000 29 [] st0)=some (.bool true):=by kernel_rfl
def QN:T (List Value→M Value):=T.set Qe 29 (Gq (.bool true))
theorem Yq:OrcT Try.prog QN:=Vy.set (KR Ly_ (by kernel_rfl) (by kernel_rfl) RG_ rfl)
def envF:Env:=envOf Try.prog QN .E
theorem QO_:EnvOK envF:=Jb Try.prog (by kernel_rfl) Yq (ExtT.E _)
theorem Eq_:valR (callF envF 1000000 35 [] st0)=some (.bool true):=by kernel_rfl
def OW:T (List Value→M Value):=T.set QN 35 (Gq (.bool true))
theorem UB:OrcT Try.prog OW:=Yq.set (KR QO_ (by kernel_rfl) (by kernel_rfl) Eq_ rfl)
def envG:Env:=envOf Try.prog OW .E
theorem Vd_:EnvOK envG:=Jb Try.prog (by kernel_rfl) UB (ExtT.E _)
theorem JS_:valR (callF envG 1000000 58 [] st0)=some (.bool true):=by kernel_rfl
def TG:T (List Value→M Value):=T.set OW 58 (Gq (.bool true))
theorem Wj_:OrcT Try.prog TG:=UB.set (KR Vd_ (by kernel_rfl) (by kernel_rfl) JS_ rfl)
def envS:Env:=envOf Try.prog TG .E
theorem YQ:EnvOK envS:=Jb Try.prog (by kernel_rfl) Wj_ (ExtT.E _)
end Go.Proofs.Ytofanlcjeohcjaa.Am
end
