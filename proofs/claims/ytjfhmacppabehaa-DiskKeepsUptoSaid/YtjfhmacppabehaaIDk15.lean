import Derived.Test.YtjfhmacppabehaaIDk10
import Derived.Test.YtjfhmacppabehaaIDk13
import Derived.Test.YtjfhmacppabehaaIDk07
import Derived.KernelRfl
import Derived.Test.YtjfhmacppabehaaIDk14
noncomputable section
namespace Go.Proofs.Ytjfhmacppabehaa.Am
open Go.RowKit
def M9:T (List Value→M Value):=T.set (T.set (T.set .E 10 usedM) 43 (keysM 72)) 42 (sortedM 72)
theorem Wf:OrcT Try.prog M9:=(((OrcT.E _).set Ch_).set Z7).set Lh_
def Lk:T (List Value→M Value):=T.set (T.set .E 83 Hs) 88 LE
theorem MN:ExtT Try.prog Lk:=((ExtT.E _).set (Ku_ Try.func83 (by kernel_rfl) (by kernel_rfl) (by kernel_rfl) (by kernel_rfl))).set (JT_ Try.func88 (by kernel_rfl) (by kernel_rfl) (by kernel_rfl) (by kernel_rfl))
def envC:Env:=EK Try.prog M9 Lk
theorem ZP:EnvOK envC:=Qe Try.prog (by kernel_rfl) Wf MN
theorem FS_:valR (HH envC 1000000 7 [] st0)=some (.bool true):=by kernel_rfl
def Qi:T (List Value→M Value):=T.set M9 7 (JI (.bool true))
theorem SU:OrcT Try.prog Qi:=Wf.set (Wk ZP (by kernel_rfl) (by kernel_rfl) FS_ rfl)
def envD:Env:=EK Try.prog Qi Lk
theorem En_:EnvOK envD:=Qe Try.prog (by kernel_rfl) SU MN
theorem ES_:valR (HH envD 1000000 32 [] st0)=some (.bool true):=by kernel_rfl
def SH:T (List Value→M Value):=T.set Qi 32 (JI (.bool true))
theorem Ks_:OrcT Try.prog SH:=SU.set (Wk En_ (by kernel_rfl) (by kernel_rfl) ES_ rfl)
def envS:Env:=EK Try.prog SH Lk
theorem An_:EnvOK envS:=Qe Try.prog (by kernel_rfl) Ks_ MN
end Go.Proofs.Ytjfhmacppabehaa.Am
end
