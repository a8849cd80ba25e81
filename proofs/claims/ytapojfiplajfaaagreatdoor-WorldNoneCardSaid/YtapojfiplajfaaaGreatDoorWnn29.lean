/- The tables of digest, by the evaluator: closed calls. -/
import Derived.Test.YtapojfiplajfaaaGreatDoorWnn28
import Derived.Test.YtapojfiplajfaaaGreatDoorWnn09
namespace Go.Proofs.YtapojfiplajfaaaGreatDoor
open Go.RowKit
def arrK : Array Value := (Sha.ks.map fun n : Nat => Value.int .u32 n).toArray
theorem words_run : Am.valR (Am.callF env0 1000 343 [] Am.st0) = some (.agg arrK) := by kernel_rfl
theorem words_plain : Am.plain (.agg arrK) = true := by kernel_rfl
theorem words_calls (w : World) : Calls Tryz.prog 343 #[] w fun e w' => e = .returned (.agg arrK) ∧ Below w.heap.size w w' :=
  Am.calls_of env0_ok (by kernel_rfl) (by kernel_rfl) words_run words_plain w
theorem arrK_size : arrK.size = 64 := by simp [arrK, Sha.ks]
theorem arrK_get (j : Nat) (h : j < 64) : arrK[j]? = some (.int .u32 (Sha.K j : Nat)) := by
  have h1 : j < Sha.ks.length := h
  simp only [arrK, List.getElem?_toArray, List.getElem?_map]
  rw [List.getElem?_eq_getElem h1]
  simp [Sha.K, List.getD, List.getElem?_eq_getElem h1]
def st8V (s : Sha.St8) : Array Value := #[.int .u32 s.a, .int .u32 s.b, .int .u32 s.c, .int .u32 s.d, .int .u32 s.e, .int .u32 s.f, .int .u32 s.g, .int .u32 s.h]
def first8 : Sha.St8 := ⟨0x6a09e667, 0xbb67ae85, 0x3c6ef372, 0xa54ff53a, 0x510e527f, 0x9b05688c, 0x1f83d9ab, 0x5be0cd19⟩
theorem first_ok : first8.Ok := by constructor <;> decide
theorem first_run : Am.valR (Am.callF env0 1000 275 [] Am.st0) = some (.agg (st8V first8)) := by kernel_rfl
theorem first_plain : Am.plain (.agg (st8V first8)) = true := by kernel_rfl
theorem first_calls (w : World) : Calls Tryz.prog 275 #[] w fun e w' => e = .returned (.agg (st8V first8)) ∧ Below w.heap.size w w' :=
  Am.calls_of env0_ok (by kernel_rfl) (by kernel_rfl) first_run first_plain w
end Go.Proofs.YtapojfiplajfaaaGreatDoor
