import Derived.Test.YtndednnianphoaaGreatDoorJt11
import Derived.Test.YtndednnianphoaaGreatDoorJt14
import Derived.Test.YtndednnianphoaaGreatDoorJt15
import Derived.Test.YtndednnianphoaaGreatDoorJt08
import Derived.KernelRfl
noncomputable section
namespace Go.Proofs.YtndednnianphoaaGreatDoor.Am
open Go.RowKit
def P7 : T (List Value → M Value) := T.set (T.set (T.set (T.set .E 34 usedM) 48 (keysM 69)) 47 (sortedM 69)) 83 DE
theorem Du_ : OrcT Tryz.prog P7 := ((((OrcT.E _).set Mx_).set WC_).set Pz_).set NX_
def QU : T (List Value → M Value) := T.set .E 74 HI
theorem WM : ExtT Tryz.prog QU := (ExtT.E _).set (IF_ Tryz.func74 (by kernel_rfl) (by kernel_rfl) (by kernel_rfl) (by kernel_rfl))
def envC : Env := envOf Tryz.prog P7 QU
theorem GZ : EnvOK envC := EP_ Tryz.prog (by kernel_rfl) Du_ WM
theorem IS_ : valR (callF envC 1000000 6 [] st0) = some (.bool true) := by kernel_rfl
def Y9 : T (List Value → M Value) := T.set (T.set (T.set (T.set (T.set (T.set P7 6 (Sd (.bool true))) 51 (pureM envC 1000 51)) 60 (pureM envC 1000 60)) 61 (pureM envC 1000 61)) 39 (pureM envC 1000 39)) 33 (pureM envC 1000 33)
theorem AcU_ : OrcT Tryz.prog Y9 := (((((Du_.set (Lo_ GZ (by kernel_rfl) (by kernel_rfl) IS_ rfl)).set (HH GZ (by kernel_rfl) (by kernel_rfl))).set (HH GZ (by kernel_rfl) (by kernel_rfl))).set (HH GZ (by kernel_rfl) (by kernel_rfl))).set (HH GZ (by kernel_rfl) (by kernel_rfl))).set (HH GZ (by kernel_rfl) (by kernel_rfl))
def envS : Env := envOf Tryz.prog Y9 QU
theorem RV_ : EnvOK envS := EP_ Tryz.prog (by kernel_rfl) AcU_ WM
end Go.Proofs.YtndednnianphoaaGreatDoor.Am
end
