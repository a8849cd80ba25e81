import Derived.Test.YtheboekhpelhlaaDSb19
noncomputable section
namespace Go.Proofs.Ytheboekhpelhlaa.Am
open Go.RowKit
def N3 : T (List Value → M Value) := T.set (T.set (T.set (T.set .E 20 usedM) 62 (keysM 74)) 61 (sortedM 74)) 13 Gc
theorem ML_ : OrcT Try.prog N3 := ((((OrcT.E _).set YJ_).set Aif_).set Abo_).set Tm_
def Pe : T (List Value → M Value) := T.set (T.set .E 79 HG) 71 IK
theorem Yv : ExtT Try.prog Pe := ((ExtT.E _).set (UH_ Try.func79 (by kernel_rfl) (by kernel_rfl) (by kernel_rfl) (by kernel_rfl))).set (Aju_ Try.func71 (by kernel_rfl) (by kernel_rfl) (by kernel_rfl) (by kernel_rfl))
def envC : Env := envOf Try.prog N3 Pe
theorem AlF_ : EnvOK envC := Pv_ Try.prog (by kernel_rfl) ML_ Yv
theorem Afo_ : valR (JU envC 1000000 5 [] st0) = some (.bool true) := by kernel_rfl
def DQ_ : T (List Value → M Value) := T.set N3 5 (QG (.bool true))
theorem AoZ_ : OrcT Try.prog DQ_ := ML_.set (XA_ AlF_ (by kernel_rfl) (by kernel_rfl) Afo_ rfl)
def envS : Env := envOf Try.prog DQ_ Pe
theorem AdI_ : EnvOK envS := Pv_ Try.prog (by kernel_rfl) AoZ_ Yv
