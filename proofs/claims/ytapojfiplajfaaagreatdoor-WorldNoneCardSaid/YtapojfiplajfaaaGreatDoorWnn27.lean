/- Small laws for the walks of this seat: shifts by a variable amount, bits as numbers. -/
import Derived.Test.YtapojfiplajfaaaGreatDoorProg
import Derived.Test.YtapojfiplajfaaaGreatDoorWnn17
import Derived.WalkKit
import Derived.WalkSpells
import Derived.WalkLawsBesides
import Derived.BigQuiet
import Derived.Deep.QuietTactic
namespace Go.Proofs.YtapojfiplajfaaaGreatDoor
open Go.RowKit

theorem run_shl32 (P : Program) (w : World) (k : IntKind) (x : Int) (n : Nat) : (Op.shift .shl .u32 x k (n : Int)).run P w = .ok (.int .u32 (IntKind.u32.wrap (x * 2 ^ min n 32))) w := by
  simp [Op.shift, Sem.run_pure, IntKind.bits]; omega
theorem run_shr32 (P : Program) (w : World) (k : IntKind) (x : Int) (n : Nat) : (Op.shift .shr .u32 x k (n : Int)).run P w = .ok (.int .u32 (x.fdiv (2 ^ min n 32))) w := by
  simp [Op.shift, Sem.run_pure, IntKind.bits]; omega

theorem rot_bits (x n : Nat) (h : x < 4294967296) : bits .or .u32 ((x : Int) / 2 ^ n) ((x : Int) * 2 ^ (32 - n) % 4294967296) = ((rot x n : Nat) : Int) := by
  have e1 : ((x : Int) / 2 ^ n) = ((x / 2 ^ n : Nat) : Int) := by simp
  have e2 : ((x : Int) * 2 ^ (32 - n) % 4294967296) = ((x * 2 ^ (32 - n) % 4294967296 : Nat) : Int) := by simp
  rw [e1, e2, u32_or_nat _ _ (Nat.lt_of_le_of_lt (Nat.div_le_self _ _) h) (Nat.mod_lt _ (by decide))]
  rfl
theorem rot_bits' (x n : Nat) (h : x < 4294967296) : bits .or .u32 ((x : Int) * 2 ^ (32 - n) % 4294967296) ((x : Int) / 2 ^ n) = ((rot x n : Nat) : Int) := by
  have e1 : ((x : Int) / 2 ^ n) = ((x / 2 ^ n : Nat) : Int) := by simp
  have e2 : ((x : Int) * 2 ^ (32 - n) % 4294967296) = ((x * 2 ^ (32 - n) % 4294967296 : Nat) : Int) := by simp
  rw [e1, e2, u32_or_nat _ _ (Nat.mod_lt _ (by decide)) (Nat.lt_of_le_of_lt (Nat.div_le_self _ _) h), Nat.or_comm]
  rfl
end Go.Proofs.YtapojfiplajfaaaGreatDoor

namespace Go.Proofs.YtapojfiplajfaaaGreatDoor
open Go.RowKit
theorem and31 : ∀ n : Fin 32, bits .and .u64 (IntKind.u64.wrap (-(n.val : Int))) 31 = (((32 - n.val) % 32 : Nat) : Int) := by decide
set_option maxHeartbeats 400000 in
theorem rotl_calls (x n : Nat) (w : World) (hx : x < 4294967296) (hn0 : 1 ≤ n) (hn1 : n ≤ 31) :
    Calls Tryz.prog 370 #[.int .u32 x, .int .i64 (-(n : Int))] w fun e w' => e = .returned (.int .u32 (rot x n)) ∧ w = w' := by
  have ha := and31 ⟨n, by omega⟩
  have e0 : (32 - n) % 32 = 32 - n := by omega
  simp only [e0] at ha
  have h1 := fun w => run_shr32 Tryz.prog w .u64 x n
  have h2 := fun w => run_shl32 Tryz.prog w .u64 x (32 - n)
  have e1 : ((32 - n : Nat) : Int) = 32 - (n : Int) := by omega
  have e2 : IntKind.u64.wrap (32 - (32 - (n : Int))) = n := by rw [IntKind.wrap_u64]; omega
  rw [e1] at h2 ha
  clear e0 e1
  go_enter Tryz.func370, Tryz.ntmps370
  go_wp2
  go_ret
  exact ⟨ret_u32 (rot_bits' x n hx), rfl⟩
set_option maxHeartbeats 400000 in
theorem down_calls (x n : Nat) (w : World) (hx : x < 4294967296) (hn0 : 1 ≤ n) (hn1 : n ≤ 31) :
    Calls Tryz.prog 344 #[.int .u32 x, .int .i64 n] w fun e w' => e = .returned (.int .u32 (rot x n)) ∧ w = w' := by
  go_enter Tryz.func344, Tryz.ntmps344
  go_wp2_with (go_at_call 370; refine (rotl_calls x n _ hx hn0 hn1).mono ?_; rintro e w' ⟨rfl, rfl⟩)
  go_ret
  exact ⟨rfl, rfl⟩
end Go.Proofs.YtapojfiplajfaaaGreatDoor
