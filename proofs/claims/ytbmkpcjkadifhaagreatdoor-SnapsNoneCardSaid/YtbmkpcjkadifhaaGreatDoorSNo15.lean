
import Derived.Test.YtbmkpcjkadifhaaGreatDoorSNo14
import Derived.BigQuiet
import Derived.Deep.QuietTactic
namespace Go.Proofs.YtbmkpcjkadifhaaGreatDoor
open Go.RowKit
theorem ret_u32 {a b : Int} (h : a = b) : Ending.returned (.int .u32 a) = .returned (.int .u32 b) := by rw [h]
theorem and31 : ∀ n : Fin 32, bits .and .u64 (IntKind.u64.wrap (-(n.val : Int))) 31 = (((32 - n.val) % 32 : Nat) : Int) := by decide
set_option maxHeartbeats 400000 in
theorem rotl_calls (x n : Nat) (w : World) (hx : x < 4294967296) (hn0 : 1 ≤ n) (hn1 : n ≤ 31) :
    Calls Tryz.prog 197 #[.int .u32 x, .int .i64 (-(n : Int))] w fun e w' => e = .returned (.int .u32 (rot x n)) ∧ w = w' := by
  have ha := and31 ⟨n, by omega⟩
  have e0 : (32 - n) % 32 = 32 - n := by omega
  simp only [e0] at ha
  have h1 := fun w => run_shr32 Tryz.prog w .u64 x n
  have h2 := fun w => run_shl32 Tryz.prog w .u64 x (32 - n)
  have e1 : ((32 - n : Nat) : Int) = 32 - (n : Int) := by omega
  have e2 : IntKind.u64.wrap (32 - (32 - (n : Int))) = n := by rw [IntKind.wrap_u64]; omega
  rw [e1] at h2 ha
  clear e0 e1
  go_enter Tryz.func197, Tryz.ntmps197
  go_wp2
  go_ret
  exact ⟨ret_u32 (rot_bits' x n hx), rfl⟩
set_option maxHeartbeats 400000 in
theorem down_calls (x n : Nat) (w : World) (hx : x < 4294967296) (hn0 : 1 ≤ n) (hn1 : n ≤ 31) :
    Calls Tryz.prog 171 #[.int .u32 x, .int .i64 n] w fun e w' => e = .returned (.int .u32 (rot x n)) ∧ w = w' := by
  go_enter Tryz.func171, Tryz.ntmps171
  go_wp2_with (go_at_call 197; refine (rotl_calls x n _ hx hn0 hn1).mono ?_; rintro e w' ⟨rfl, rfl⟩)
  go_ret
  exact ⟨rfl, rfl⟩
end Go.Proofs.YtbmkpcjkadifhaaGreatDoor
