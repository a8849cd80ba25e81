import Derived.Test.YtndednnianphoaaGreatDoorJo15
noncomputable section
namespace Go.Proofs.YtndednnianphoaaGreatDoor.Am
open Go.RowKit
def Mr : T (List Value → M Value) := T.set (T.set (T.set (T.set .E 34 usedM) 48 (keysM 69)) 47 (sortedM 69)) 83 Ds
theorem DX_ : OrcT Tryz.prog Mr := ((((OrcT.E _).set No_).set Wb_).set PR_).set Ou_
def Nd : T (List Value → M Value) := T.set .E 74 Hd
theorem Uu : ExtT Tryz.prog Nd := (ExtT.E _).set (Kd_ Tryz.func74 (by kernel_rfl) (by kernel_rfl) (by kernel_rfl) (by kernel_rfl))
def envC : Env := envOf Tryz.prog Mr Nd
theorem GC : EnvOK envC := Gb_ Tryz.prog (by kernel_rfl) DX_ Uu
theorem Kn_ : valR (callF envC 1000000 6 [] st0) = some (.bool true) := by kernel_rfl
def X1 : T (List Value → M Value) := T.set (T.set (T.set (T.set (T.set (T.set Mr 6 (Oz (.bool true))) 51 (pureM envC 1000 51)) 60 (pureM envC 1000 60)) 61 (pureM envC 1000 61)) 39 (pureM envC 1000 39)) 33 (pureM envC 1000 33)
theorem Abs_ : OrcT Tryz.prog X1 := (((((DX_.set (Mt_ GC (by kernel_rfl) (by kernel_rfl) Kn_ rfl)).set (Hc GC (by kernel_rfl) (by kernel_rfl))).set (Hc GC (by kernel_rfl) (by kernel_rfl))).set (Hc GC (by kernel_rfl) (by kernel_rfl))).set (Hc GC (by kernel_rfl) (by kernel_rfl))).set (Hc GC (by kernel_rfl) (by kernel_rfl))
def envS : Env := envOf Tryz.prog X1 Nd
theorem Sf_ : EnvOK envS := Gb_ Tryz.prog (by kernel_rfl) Abs_ Uu
