import Derived.Test.YtndednnianphoaaGreatDoorJf11
import Derived.Test.YtndednnianphoaaGreatDoorJf14
import Derived.Test.YtndednnianphoaaGreatDoorJf15
import Derived.Test.YtndednnianphoaaGreatDoorJf08
import Derived.KernelRfl
noncomputable section
namespace Go.Proofs.YtndednnianphoaaGreatDoor.Am
open Go.RowKit
def Qj : T (List Value → M Value) := T.set (T.set (T.set (T.set .E 34 usedM) 48 (keysM 69)) 47 (sortedM 69)) 83 DJ
theorem Eh_ : OrcT Tryz.prog Qj := ((((OrcT.E _).set Nv_).set XP_).set Qw_).set OQ_
def Q8 : T (List Value → M Value) := T.set .E 74 HQ
theorem Xi : ExtT Tryz.prog Q8 := (ExtT.E _).set (Jr_ Tryz.func74 (by kernel_rfl) (by kernel_rfl) (by kernel_rfl) (by kernel_rfl))
def envC : Env := envOf Tryz.prog Qj Q8
theorem G5 : EnvOK envC := Fz_ Tryz.prog (by kernel_rfl) Eh_ Xi
theorem JD_ : valR (callF envC 1000000 6 [] st0) = some (.bool true) := by kernel_rfl
def ZG : T (List Value → M Value) := T.set (T.set (T.set (T.set (T.set (T.set Qj 6 (Ss (.bool true))) 51 (pureM envC 1000 51)) 60 (pureM envC 1000 60)) 61 (pureM envC 1000 61)) 39 (pureM envC 1000 39)) 33 (pureM envC 1000 33)
theorem Aeu_ : OrcT Tryz.prog ZG := (((((Eh_.set (Mh_ G5 (by kernel_rfl) (by kernel_rfl) JD_ rfl)).set (HP G5 (by kernel_rfl) (by kernel_rfl))).set (HP G5 (by kernel_rfl) (by kernel_rfl))).set (HP G5 (by kernel_rfl) (by kernel_rfl))).set (HP G5 (by kernel_rfl) (by kernel_rfl))).set (HP G5 (by kernel_rfl) (by kernel_rfl))
def envS : Env := envOf Tryz.prog ZG Q8
theorem Ta_ : EnvOK envS := Fz_ Tryz.prog (by kernel_rfl) Aeu_ Xi
end Go.Proofs.YtndednnianphoaaGreatDoor.Am
end
