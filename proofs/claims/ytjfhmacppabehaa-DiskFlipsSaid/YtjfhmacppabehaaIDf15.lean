import Derived.Test.YtjfhmacppabehaaIDf10
import Derived.Test.YtjfhmacppabehaaIDf13
import Derived.Test.YtjfhmacppabehaaIDf07
import Derived.KernelRfl
import Derived.Test.YtjfhmacppabehaaIDf14
noncomputable section
namespace Go.Proofs.Ytjfhmacppabehaa.Am
open Go.RowKit
def Pu:T (List Value→M Value):=T.set (T.set (T.set .E 10 usedM) 43 (keysM 72)) 42 (sortedM 72)
theorem Q8:OrcT Try.prog Pu:=(((OrcT.E _).set Zz).set Kr_).set Qe_
def Lc:T (List Value→M Value):=T.set (T.set .E 83 G1) 88 Kc
theorem N0:ExtT Try.prog Lc:=((ExtT.E _).set (LW_ Try.func83 (by kernel_rfl) (by kernel_rfl) (by kernel_rfl) (by kernel_rfl))).set (FE_ Try.func88 (by kernel_rfl) (by kernel_rfl) (by kernel_rfl) (by kernel_rfl))
def envC:Env:=Eg Try.prog Pu Lc
theorem Cx_:EnvOK envC:=OV Try.prog (by kernel_rfl) Q8 N0
theorem Qs_:valR (G6 envC 1000000 7 [] st0)=some (.bool true):=by kernel_rfl
def Mv:T (List Value→M Value):=T.set Pu 7 (KD (.bool true))
theorem Wj:OrcT Try.prog Mv:=Q8.set (Qn Cx_ (by kernel_rfl) (by kernel_rfl) Qs_ rfl)
def envD:Env:=Eg Try.prog Mv Lc
theorem NZ_:EnvOK envD:=OV Try.prog (by kernel_rfl) Wj N0
theorem PW_:valR (G6 envD 1000000 32 [] st0)=some (.bool true):=by kernel_rfl
def Q9:T (List Value→M Value):=T.set Mv 32 (KD (.bool true))
theorem Nj_:OrcT Try.prog Q9:=Wj.set (Qn NZ_ (by kernel_rfl) (by kernel_rfl) PW_ rfl)
def envS:Env:=Eg Try.prog Q9 Lc
theorem Yh:EnvOK envS:=OV Try.prog (by kernel_rfl) Nj_ N0
end Go.Proofs.Ytjfhmacppabehaa.Am
end
