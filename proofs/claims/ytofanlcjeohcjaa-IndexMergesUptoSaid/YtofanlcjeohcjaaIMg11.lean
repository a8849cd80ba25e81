import Derived.Test.YtofanlcjeohcjaaIMg10
namespace Go.Proofs.Ytofanlcjeohcjaa
open Go.RowKit
noncomputable def env0 : Am.Env := Am.envOf Try.prog .E .E
theorem R6 : Am.EnvOK env0 := Am.envOf_ok Try.prog (by kernel_rfl)
def arrK : Array Value := (Sha.ks.map fun n : Nat => Value.int .u32 n).toArray
theorem PU_ : Am.valR (Am.callF env0 1000 150 [] Am.st0) = some (.agg arrK) := by kernel_rfl
theorem AaC_ : Am.plain (.agg arrK) = true := by kernel_rfl
theorem Amd_ (w : World) : Calls Try.prog 150 #[] w fun e w' => e = .returned (.agg arrK) ∧ Below w.heap.size w w' :=
  Am.calls_of R6 (by kernel_rfl) (by kernel_rfl) PU_ AaC_ w
theorem Lw_ : arrK.size = 64 := by simp [arrK, Sha.ks]
theorem AjZ_ (j : Nat) (h : j < 64) : arrK[j]? = some (.int .u32 (Sha.K j : Nat)) := by
  have h1 : j < Sha.ks.length := h
  simp only [arrK, List.getElem?_toArray, List.getElem?_map]
  rw [List.getElem?_eq_getElem h1]
  simp [Sha.K, List.getD, List.getElem?_eq_getElem h1]
def st8V (s : Sha.St8) : Array Value := #[.int .u32 s.a, .int .u32 s.b, .int .u32 s.c, .int .u32 s.d, .int .u32 s.e, .int .u32 s.f, .int .u32 s.g, .int .u32 s.h]
def Dc : Sha.St8 := ⟨0x6a09e667, 0xbb67ae85, 0x3c6ef372, 0xa54ff53a, 0x510e527f, 0x9b05688c, 0x1f83d9ab, 0x5be0cd19⟩
theorem Tr : Dc.Ok := by constructor <;> decide
theorem Wy_ : Am.valR (Am.callF env0 1000 133 [] Am.st0) = some (.agg (st8V Dc)) := by kernel_rfl
theorem SO_ : Am.plain (.agg (st8V Dc)) = true := by kernel_rfl
theorem Amz_ (w : World) : Calls Try.prog 133 #[] w fun e w' => e = .returned (.agg (st8V Dc)) ∧ Below w.heap.size w w' :=
  Am.calls_of R6 (by kernel_rfl) (by kernel_rfl) Wy_ SO_ w
