/- Functions without a body, within the evaluator: where a byte is in a text. -/
import Derived.Test.YtapojfiplajfaaaGreatDoorWnn09
import Derived.Laws.Externs
import Derived.Test.YtapojfiplajfaaaGreatDoorWnn17
namespace Go.Proofs.YtapojfiplajfaaaGreatDoor.Am
open Go.RowKit

noncomputable def idxS (args : List Value) : M Value :=
  match args with
  | [.string s, .int .u8 c] => fI (firstIdx s c.toNat.toUInt8) fun n => M.pure (.int .i64 n)
  | _ => M.fail
theorem VR.str_inv {r : Inj} {s : ByteArray} {v' : Value} (h : VR r (.string s) v') : v' = .string s := by cases h; rfl
theorem ext_idxS {P : Program} {f : Nat} {fn : Func} (hf : P.funcs[f]? = some fn) (h1 : (fn.name == "runtime.NumGoroutine") = false) (h2 : fn.body = none) (h3 : Extern.findNext fn = none) (h4 : Extern.find fn = some Extern.BytealgIndexByte.indexByte) : ExtOK P f idxS where
  loc := fun args => by
    unfold idxS
    split
    · exact lo_fI _ fun n => lo_pure _
    · exact lo_fail
  ok := by
    intro w0 w r args args' s out s' e hr ha
    unfold idxS at e
    split at e
    · rename_i t c
      obtain ⟨p', l', rfl, q1, q2⟩ := ha.inv
      obtain ⟨y', l2, rfl, q3, q4⟩ := q2.inv
      have := q1.str_inv
      subst this
      have := q4.inv_nil
      subst this
      have := q3.int_inv
      subst this
      rw [fI_eq] at e
      obtain ⟨rfl, rfl⟩ := rOf_inl (show R.some (Value.int .i64 (firstIdx t c.toNat.toUInt8)) s = rOf out s' from e)
      exact ⟨_, _, w, r, rfl, .of_plain rfl, .of_rel rfl hr, rfl, rfl, call_ext hf h1 h2 h3 h4 _ (run_indexByte_string t c w)⟩
    · exact (rOf_none e).elim
end Go.Proofs.YtapojfiplajfaaaGreatDoor.Am
