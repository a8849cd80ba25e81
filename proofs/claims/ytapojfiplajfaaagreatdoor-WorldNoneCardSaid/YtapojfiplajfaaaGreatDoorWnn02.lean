/- The program's types are laid out fine, in parts. -/
import Derived.Test.YtapojfiplajfaaaGreatDoorProg
import GoSem.ClaimDataLaid
import Derived.KernelRfl
namespace Go.Proofs.YtapojfiplajfaaaGreatDoor.Am
open Go
noncomputable def allFrom (f : Nat → Bool) (k : Nat) : Nat → Bool := Nat.rec (motive := fun _ => Nat → Bool) (fun _ => true) (fun _ ih lo => f lo && ih (lo + 1)) k
theorem allFrom_ok {f : Nat → Bool} : ∀ {k lo : Nat}, allFrom f k lo = true → ∀ i, lo ≤ i → i < lo + k → f i = true
  | 0, lo, _, i, h1, h2 => by omega
  | k + 1, lo, h, i, h1, h2 => by
    have h0 : (f lo && allFrom f k (lo + 1)) = true := h
    rw [Bool.and_eq_true] at h0
    by_cases e : i = lo
    · rw [e]; exact h0.1
    · exact allFrom_ok h0.2 i (by omega) (by omega)
theorem types_n : Tryz.prog.types.size = 744 := by kernel_rfl
theorem globs_ok : Tryz.prog.globals.all (fun g => decide (g.type < Tryz.prog.types.size)) = true := by kernel_rfl
theorem parms_ok : Tryz.prog.funcs.all (fun f => f.params.all fun t => decide (t < Tryz.prog.types.size)) = true := by kernel_rfl
theorem part0 : allFrom (rowFine Tryz.prog) 100 0 = true := by kernel_rfl
theorem part1 : allFrom (rowFine Tryz.prog) 100 100 = true := by kernel_rfl
theorem part2 : allFrom (rowFine Tryz.prog) 100 200 = true := by kernel_rfl
theorem part3 : allFrom (rowFine Tryz.prog) 100 300 = true := by kernel_rfl
theorem part4 : allFrom (rowFine Tryz.prog) 100 400 = true := by kernel_rfl
theorem part5 : allFrom (rowFine Tryz.prog) 100 500 = true := by kernel_rfl
theorem part6 : allFrom (rowFine Tryz.prog) 100 600 = true := by kernel_rfl
theorem part7 : allFrom (rowFine Tryz.prog) 44 700 = true := by kernel_rfl
theorem laidAll : laidOutB Tryz.prog = true := by
  unfold laidOutB
  rw [globs_ok, parms_ok, Bool.and_true, Bool.and_true, types_n, List.all_eq_true]
  intro i hi
  rw [List.mem_range] at hi
  by_cases h0 : i < 100
  · exact allFrom_ok part0 i (by omega) (by omega)
  by_cases h1 : i < 200
  · exact allFrom_ok part1 i (by omega) (by omega)
  by_cases h2 : i < 300
  · exact allFrom_ok part2 i (by omega) (by omega)
  by_cases h3 : i < 400
  · exact allFrom_ok part3 i (by omega) (by omega)
  by_cases h4 : i < 500
  · exact allFrom_ok part4 i (by omega) (by omega)
  by_cases h5 : i < 600
  · exact allFrom_ok part5 i (by omega) (by omega)
  by_cases h6 : i < 700
  · exact allFrom_ok part6 i (by omega) (by omega)
  exact allFrom_ok part7 i (by omega) (by omega)
end Go.Proofs.YtapojfiplajfaaaGreatDoor.Am
