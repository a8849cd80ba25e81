import Derived.Test.YtchnfdaebboaeaaGreatDoorSFl01
import Derived.Test.YtchnfdaebboaeaaGreatDoorSFl16
import Derived.Test.YtchnfdaebboaeaaGreatDoorSFl07
namespace Go.Proofs.YtchnfdaebboaeaaGreatDoor
open Go.RowKit
def arrK : Array Value := (Sha.ks.map fun n : Nat => Value.int .u32 n).toArray
theorem Dj_ : Am.valR (Am.callF env0 1000 169 [] Am.st0) = some (.agg arrK) := by kernel_rfl
theorem YH : Am.plain (.agg arrK) = true := by kernel_rfl
theorem DG_ (w : World) : Calls Tryz.prog 169 #[] w fun e w' => e = .returned (.agg arrK) ∧ Below w.heap.size w w' :=
  Am.calls_of Pn (by kernel_rfl) (by kernel_rfl) Dj_ YH w
theorem SI : arrK.size = 64 := by simp [arrK, Sha.ks]
theorem Aj_ (j : Nat) (h : j < 64) : arrK[j]? = some (.int .u32 (Sha.K j : Nat)) := by
  have h1 : j < Sha.ks.length := h
  simp only [arrK, List.getElem?_toArray, List.getElem?_map]
  rw [List.getElem?_eq_getElem h1]
  simp [Sha.K, List.getD, List.getElem?_eq_getElem h1]
def st8V (s : Sha.St8) : Array Value := #[.int .u32 s.a, .int .u32 s.b, .int .u32 s.c, .int .u32 s.d, .int .u32 s.e, .int .u32 s.f, .int .u32 s.g, .int .u32 s.h]
theorem UZ : C0.Ok := by constructor <;> decide
theorem Ta : Am.valR (Am.callF env0 1000 141 [] Am.st0) = some (.agg (st8V C0)) := by kernel_rfl
theorem Hk_ : Am.plain (.agg (st8V C0)) = true := by kernel_rfl
theorem HB_ (w : World) : Calls Tryz.prog 141 #[] w fun e w' => e = .returned (.agg (st8V C0)) ∧ Below w.heap.size w w' :=
  Am.calls_of Pn (by kernel_rfl) (by kernel_rfl) Ta Hk_ w
end Go.Proofs.YtchnfdaebboaeaaGreatDoor
