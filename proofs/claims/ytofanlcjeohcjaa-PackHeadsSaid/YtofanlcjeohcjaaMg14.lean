import Derived.Test.YtofanlcjeohcjaaMg13
import Derived.Test.YtofanlcjeohcjaaMg07
import Derived.KernelRfl
noncomputable section
namespace Go.Proofs.Ytofanlcjeohcjaa.Am
open Go.RowKit
def orcs0 : T (List Value → M Value) := T.set (T.set .E 134 nextM) 130 moreM
theorem Agw_ : OrcT Try.prog orcs0 := ((OrcT.E _).set Apo_).set Anp_
def envC : Env := envOf Try.prog orcs0 .E
theorem Ass_ : EnvOK envC := Kl_ Try.prog (by kernel_rfl) Agw_ (ExtT.E _)
theorem Amx_ : valR (callF envC 1000000 15 [] st0) = some (.bool true) := by kernel_rfl
def orcs1 : T (List Value → M Value) := T.set orcs0 15 (closedM (.bool true))
theorem Ahr_ : OrcT Try.prog orcs1 := Agw_.set (KN_ Ass_ (by kernel_rfl) (by kernel_rfl) Amx_ rfl)
def envD : Env := envOf Try.prog orcs1 .E
theorem Asq_ : EnvOK envD := Kl_ Try.prog (by kernel_rfl) Ahr_ (ExtT.E _)
theorem Akp_ : valR (callF envD 1000000 29 [] st0) = some (.bool true) := by kernel_rfl
def orcs2 : T (List Value → M Value) := T.set orcs1 29 (closedM (.bool true))
theorem AgC_ : OrcT Try.prog orcs2 := Ahr_.set (KN_ Asq_ (by kernel_rfl) (by kernel_rfl) Akp_ rfl)
def envF : Env := envOf Try.prog orcs2 .E
theorem Atx_ : EnvOK envF := Kl_ Try.prog (by kernel_rfl) AgC_ (ExtT.E _)
theorem Agb_ : valR (callF envF 1000000 35 [] st0) = some (.bool true) := by kernel_rfl
def orcs3 : T (List Value → M Value) := T.set orcs2 35 (closedM (.bool true))
theorem AhL_ : OrcT Try.prog orcs3 := AgC_.set (KN_ Atx_ (by kernel_rfl) (by kernel_rfl) Agb_ rfl)
def envG : Env := envOf Try.prog orcs3 .E
theorem Ara_ : EnvOK envG := Kl_ Try.prog (by kernel_rfl) AhL_ (ExtT.E _)
theorem Afc_ : valR (callF envG 1000000 58 [] st0) = some (.bool true) := by kernel_rfl
def orcs4 : T (List Value → M Value) := T.set orcs3 58 (closedM (.bool true))
theorem ApD_ : OrcT Try.prog orcs4 := AhL_.set (KN_ Ara_ (by kernel_rfl) (by kernel_rfl) Afc_ rfl)
def envS : Env := envOf Try.prog orcs4 .E
theorem AmS_ : EnvOK envS := Kl_ Try.prog (by kernel_rfl) ApD_ (ExtT.E _)
end Go.Proofs.Ytofanlcjeohcjaa.Am
end
