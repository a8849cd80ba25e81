/- Small laws for the walks of this seat: shifts by a variable amount, bits as numbers. -/
import Derived.Test.YtbmkpcjkadifhaaGreatDoorRows
import Derived.Test.YtbmkpcjkadifhaaGreatDoorSNo06
import Derived.WalkKit
import Derived.WalkSpells
import Derived.WalkLawsBesides
namespace Go.Proofs.YtbmkpcjkadifhaaGreatDoor
open Go.RowKit

theorem run_shl32 (P : Program) (w : World) (k : IntKind) (x : Int) (n : Nat) : (Op.shift .shl .u32 x k (n : Int)).run P w = .ok (.int .u32 (IntKind.u32.wrap (x * 2 ^ min n 32))) w := by
  simp [Op.shift, Sem.run_pure, IntKind.bits]; omega
theorem run_shr32 (P : Program) (w : World) (k : IntKind) (x : Int) (n : Nat) : (Op.shift .shr .u32 x k (n : Int)).run P w = .ok (.int .u32 (x.fdiv (2 ^ min n 32))) w := by
  simp [Op.shift, Sem.run_pure, IntKind.bits]; omega

theorem rot_bits (x n : Nat) (h : x < 4294967296) : bits .or .u32 ((x : Int) / 2 ^ n) ((x : Int) * 2 ^ (32 - n) % 4294967296) = ((rot x n : Nat) : Int) := by
  have e1 : ((x : Int) / 2 ^ n) = ((x / 2 ^ n : Nat) : Int) := by simp
  have e2 : ((x : Int) * 2 ^ (32 - n) % 4294967296) = ((x * 2 ^ (32 - n) % 4294967296 : Nat) : Int) := by simp
  rw [e1, e2, u32_or_nat _ _ (Nat.lt_of_le_of_lt (Nat.div_le_self _ _) h) (Nat.mod_lt _ (by decide))]
  rfl
theorem rot_bits' (x n : Nat) (h : x < 4294967296) : bits .or .u32 ((x : Int) * 2 ^ (32 - n) % 4294967296) ((x : Int) / 2 ^ n) = ((rot x n : Nat) : Int) := by
  have e1 : ((x : Int) / 2 ^ n) = ((x / 2 ^ n : Nat) : Int) := by simp
  have e2 : ((x : Int) * 2 ^ (32 - n) % 4294967296) = ((x * 2 ^ (32 - n) % 4294967296 : Nat) : Int) := by simp
  rw [e1, e2, u32_or_nat _ _ (Nat.mod_lt _ (by decide)) (Nat.lt_of_le_of_lt (Nat.div_le_self _ _) h), Nat.or_comm]
  rfl
end Go.Proofs.YtbmkpcjkadifhaaGreatDoor
