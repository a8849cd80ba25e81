/- Functions without a body that ask nothing of memory, within the evaluator: at plain arguments (math's floors). -/
import Derived.Test.YtoioicckhppnmaaGreatDoorDkn07
import Derived.Test.YtoioicckhppnmaaGreatDoorProg
import Derived.Test.YtoioicckhppnmaaGreatDoorDkn16
namespace Go.Proofs.YtoioicckhppnmaaGreatDoor.Am
open Go.RowKit

noncomputable def extP (P : Program) (e : Array Value → Sem Value) (args : List Value) : M Value := M.chk (args.all plain) (M.on (semP P (e args.toArray)) pV)
theorem ext_pure {P : Program} {f : Nat} {fn : Func} {e : Array Value → Sem Value} (hf : P.funcs[f]? = some fn) (h1 : (fn.name == "runtime.NumGoroutine") = false) (h2 : fn.body = none) (h3 : Extern.findNext fn = none) (h4 : Extern.find fn = some e) : ExtOK P f (extP P e) where
  loc := fun args => lo_chk _ (lo_on _ fun _ => lo_pV _)
  ok := by
    intro w0 w r args args' s out s' h hr ha
    cases out with
    | inr c => exact ((np_chk _ (np_on _ fun _ => np_pV _) : NoPan (extP P e args)).no _ _ _ h).elim
    | inl v =>
      have h : extP P e args s = .some v s' := h
      unfold extP at h
      obtain ⟨g1, h⟩ := chk_some h
      obtain ⟨v1, g2, h⟩ := on_some h
      obtain ⟨rfl, rfl, g3⟩ := pV_some h
      have ea : args' = args := plain_VRs_eq ha g1
      subst ea
      exact ⟨v, v, w, r, rfl, .of_plain g3, .of_rel rfl hr, rfl, rfl, call_ext hf h1 h2 h3 h4 _ (semP_run g2)⟩
noncomputable def ceilX : List Value → M Value := extP Tryz.prog (Extern.MathFloor.toIntegral "math.archCeil" .up)
theorem ext_ceil {f : Nat} {fn : Func} (hf : Tryz.prog.funcs[f]? = some fn) (h1 : (fn.name == "runtime.NumGoroutine") = false) (h2 : fn.body = none) (h3 : Extern.findNext fn = none) (h4 : Extern.find fn = some (Extern.MathFloor.toIntegral "math.archCeil" .up)) : ExtOK Tryz.prog f ceilX := ext_pure hf h1 h2 h3 h4
noncomputable def floorX : List Value → M Value := extP Tryz.prog (Extern.MathFloor.toIntegral "math.archFloor" .down)
theorem ext_floor {f : Nat} {fn : Func} (hf : Tryz.prog.funcs[f]? = some fn) (h1 : (fn.name == "runtime.NumGoroutine") = false) (h2 : fn.body = none) (h3 : Extern.findNext fn = none) (h4 : Extern.find fn = some (Extern.MathFloor.toIntegral "math.archFloor" .down)) : ExtOK Tryz.prog f floorX := ext_pure hf h1 h2 h3 h4
noncomputable def truncX : List Value → M Value := extP Tryz.prog (Extern.MathFloor.toIntegral "math.archTrunc" .zero)
theorem ext_trunc {f : Nat} {fn : Func} (hf : Tryz.prog.funcs[f]? = some fn) (h1 : (fn.name == "runtime.NumGoroutine") = false) (h2 : fn.body = none) (h3 : Extern.findNext fn = none) (h4 : Extern.find fn = some (Extern.MathFloor.toIntegral "math.archTrunc" .zero)) : ExtOK Tryz.prog f truncX := ext_pure hf h1 h2 h3 h4
noncomputable def bitsX : List Value → M Value := extP Tryz.prog (Extern.MathFloatBits.float64bits)
theorem ext_bits {f : Nat} {fn : Func} (hf : Tryz.prog.funcs[f]? = some fn) (h1 : (fn.name == "runtime.NumGoroutine") = false) (h2 : fn.body = none) (h3 : Extern.findNext fn = none) (h4 : Extern.find fn = some (Extern.MathFloatBits.float64bits)) : ExtOK Tryz.prog f bitsX := ext_pure hf h1 h2 h3 h4
noncomputable def fromX : List Value → M Value := extP Tryz.prog (Extern.MathFloatBits.float64frombits)
theorem ext_fromb {f : Nat} {fn : Func} (hf : Tryz.prog.funcs[f]? = some fn) (h1 : (fn.name == "runtime.NumGoroutine") = false) (h2 : fn.body = none) (h3 : Extern.findNext fn = none) (h4 : Extern.find fn = some (Extern.MathFloatBits.float64frombits)) : ExtOK Tryz.prog f fromX := ext_pure hf h1 h2 h3 h4
end Go.Proofs.YtoioicckhppnmaaGreatDoor.Am
