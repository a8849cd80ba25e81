import Derived.Test.YtjfhmacppabehaaIDr10
import Derived.Test.YtjfhmacppabehaaIDr13
import Derived.Test.YtjfhmacppabehaaIDr07
import Derived.KernelRfl
import Derived.Test.YtjfhmacppabehaaIDr14
noncomputable section
namespace Go.Proofs.Ytjfhmacppabehaa.Am
open Go.RowKit
def Ng:T (List Value→M Value):=T.set (T.set (T.set .E 10 usedM) 43 (keysM 72)) 42 (sortedM 72)
theorem TT:OrcT Try.prog Ng:=(((OrcT.E _).set Ms_).set Bq_).set Y9
def HY:T (List Value→M Value):=T.set (T.set .E 83 Gv) 88 IL
theorem OI:ExtT Try.prog HY:=((ExtT.E _).set (IW_ Try.func83 (by kernel_rfl) (by kernel_rfl) (by kernel_rfl) (by kernel_rfl))).set (Fm_ Try.func88 (by kernel_rfl) (by kernel_rfl) (by kernel_rfl) (by kernel_rfl))
def envC:Env:=Eo Try.prog Ng HY
theorem Ci_:EnvOK envC:=Nc Try.prog (by kernel_rfl) TT OI
theorem DG_:valR (Hb envC 1000000 7 [] st0)=some (.bool true):=by kernel_rfl
def LN:T (List Value→M Value):=T.set Ng 7 (HR (.bool true))
theorem Ss:OrcT Try.prog LN:=TT.set (Sc Ci_ (by kernel_rfl) (by kernel_rfl) DG_ rfl)
def envD:Env:=Eo Try.prog LN HY
theorem Cn_:EnvOK envD:=Nc Try.prog (by kernel_rfl) Ss OI
theorem Jy_:valR (Hb envD 1000000 32 [] st0)=some (.bool true):=by kernel_rfl
def VI:T (List Value→M Value):=T.set LN 32 (HR (.bool true))
theorem Cp_:OrcT Try.prog VI:=Ss.set (Sc Cn_ (by kernel_rfl) (by kernel_rfl) Jy_ rfl)
def envS:Env:=Eo Try.prog VI HY
theorem Er_:EnvOK envS:=Nc Try.prog (by kernel_rfl) Cp_ OI
end Go.Proofs.Ytjfhmacppabehaa.Am
end
