/- No function of the program starts a goroutine. -/
import Derived.Test.YtapojfiplajfaaaGreatDoorProg
import Derived.KernelRfl
import GoSem.ClaimGoes
namespace Go.Proofs.YtapojfiplajfaaaGreatDoor.Am
theorem goes_all : (Tryz.prog.funcs.toList.all fun fn => !fn.goes) = true := by kernel_rfl
theorem goes_no {P : Program} {c : OpenClaim} (hs : c.start = .entering) (h : (P.funcs.toList.all fun fn => !fn.goes) = true) : false = c.goesBy P := by
  have h1 : ∀ (g : FuncId) fn, P.funcs[g]? = some fn → fn.goes = false := fun g fn e => by
    have := List.all_eq_true.1 h fn (Array.mem_toList_iff.2 (Array.mem_of_getElem? e))
    simpa using this
  have h2 : P.funcs.any Func.goes = false := by
    rw [Array.any_eq_false]
    intro i hi
    rw [h1 i P.funcs[i] (Array.getElem?_eq_getElem hi)]
    simp
  have h3 : ∀ f, P.goes f = false := fun f => by
    unfold Program.goes
    rw [h2, Bool.and_false, Bool.or_false, List.any_eq_false]
    intro g _
    cases e : P.funcs[g]? with
    | none => simp
    | some fn => simp [h1 g fn e]
  unfold OpenClaim.goesBy Program.goesAt Program.goesFrom
  rw [hs]
  cases P.funcNamed c.func with
  | none => rfl
  | some f => simp [h3]
end Go.Proofs.YtapojfiplajfaaaGreatDoor.Am
