import Derived.Test.YtofanlcjeohcjaaIAg13
import Derived.Test.YtofanlcjeohcjaaIAg07
import Derived.KernelRfl
noncomputable section
namespace Go.Proofs.Ytofanlcjeohcjaa.Am
open Go.RowKit
def S6:T (List Value→M Value):=T.set (T.set .E 134 EA) 130 DQ
theorem Zz:OrcT Try.prog S6:=((OrcT.E _).set GZ_).set NT_
def envC:Env:=envOf Try.prog S6 .E
theorem Adv_:EnvOK envC:=JE Try.prog (by kernel_rfl) Zz (ExtT.E _)
theorem AdR_:valR (callF envC 1000000 15 [] st0)=some (.bool true):=by kernel_rfl
def S2:T (List Value→M Value):=T.set S6 15 (Io (.bool true))
theorem Uu:OrcT Try.prog S2:=Zz.set (Nt Adv_ (by kernel_rfl) (by kernel_rfl) AdR_ rfl)
def envD:Env:=envOf Try.prog S2 .E
theorem JF_:EnvOK envD:=JE Try.prog (by kernel_rfl) Uu (ExtT.E _)
theorem Zy_:valR (callF envD 1000000 29 [] st0)=some (.bool true):=by kernel_rfl
def Rx:T (List Value→M Value):=T.set S2 29 (Io (.bool true))
theorem FG_:OrcT Try.prog Rx:=Uu.set (Nt JF_ (by kernel_rfl) (by kernel_rfl) Zy_ rfl)
def envF:Env:=envOf Try.prog Rx .E
theorem Kh_:EnvOK envF:=JE Try.prog (by kernel_rfl) FG_ (ExtT.E _)
theorem KB_:valR (callF envF 1000000 35 [] st0)=some (.bool true):=by kernel_rfl
def Pk:T (List Value→M Value):=T.set Rx 35 (Io (.bool true))
theorem Vr:OrcT Try.prog Pk:=FG_.set (Nt Kh_ (by kernel_rfl) (by kernel_rfl) KB_ rfl)
def envG:Env:=envOf Try.prog Pk .E
theorem TZ_:EnvOK envG:=JE Try.prog (by kernel_rfl) Vr (ExtT.E _)
theorem AbT_:valR (callF envG 1000000 58 [] st0)=some (.bool true):=by kernel_rfl
def BJ_:T (List Value→M Value):=T.set Pk 58 (Io (.bool true))
theorem UO_:OrcT Try.prog BJ_:=Vr.set (Nt TZ_ (by kernel_rfl) (by kernel_rfl) AbT_ rfl)
def envS:Env:=envOf Try.prog BJ_ .E
theorem Jg_:EnvOK envS:=JE Try.prog (by kernel_rfl) UO_ (ExtT.E _)
end Go.Proofs.Ytofanlcjeohcjaa.Am
end
