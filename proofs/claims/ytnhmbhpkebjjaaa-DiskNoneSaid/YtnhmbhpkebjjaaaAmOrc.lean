/- Contracts of closed calls, within the evaluator. -/
import Derived.Test.YtnhmbhpkebjjaaaAmEnv
import Derived.RowKit3
namespace Go.Proofs.Ytnhmbhpkebjjaaa.Am
open Go.RowKit

/-- What a contract gives, in the evaluator's words. -/
structure OrcOK (P : Program) (f : Nat) (m : List Value → M Value) : Prop where
  loc : ∀ args, Loc (m args)
  ok : ∀ {w0 w : World} {r : Inj} {args args' : List Value} {s : St} {out : Out Value} {s' : St}, m args s = rOf out s' → Rel w0 r s.mem w → Bnd s → Fresh r s.next s'.next → VRs r args args' →
    (∀ w, (callFunc f args'.toArray).run P w = .ok (.enter f args'.toArray) w) ∧
    ∀ c cs, ∃ w' r', Goes w0 r s s' r' w' ∧ s'.lim = s.lim ∧ s'.cx = s.cx ∧ Ends P r' out (lone (Frame.enter P f args'.toArray .normal) (c :: cs) w) c cs w'
def OrcT (P : Program) (orc : T (List Value → M Value)) : Prop := ∀ f m, T.get orc f = some m → OrcOK P f m
theorem OrcT.E (P : Program) : OrcT P .E := fun f m h => by cases h
theorem OrcT.set {P : Program} {orc : T (List Value → M Value)} (h : OrcT P orc) {f : Nat} {m : List Value → M Value} (k : OrcOK P f m) : OrcT P (T.set orc f m) := fun g n e => by
  rw [T.get_set] at e
  split at e
  · rename_i hg
    cases e
    rw [hg]
    exact k
  · exact h g n e
theorem envOf_orc (P : Program) (h : P.follows .mixedOrders = true) {orc : T (List Value → M Value)} (ho : OrcT P orc) : EnvOK (envOf P orc .E) :=
  ⟨envOf_ty P orc .E, envOf_fn P orc .E, h, fun f m e => (ho f m e).loc, fun e => (ho _ _ e).ok, (fun f m e => by cases e), (fun e => by cases e)⟩

noncomputable def valR (r : R Value) : Option Value := R.rec (motive := fun _ => Option Value) none (fun v _ => some v) (fun _ _ => none) r
theorem valR_some {r : R Value} {v : Value} (h : valR r = some v) : ∃ s, r = .some v s := by
  cases r with
  | none => cases h
  | some a s => cases h; exact ⟨s, rfl⟩
  | pan c s => cases h
/-- A closed call's value, at once. -/
noncomputable def closedM (v : Value) (args : List Value) : M Value := List.rec (motive := fun _ => M Value) (M.pure v) (fun _ _ _ => M.fail) args
theorem enters {E : Env} (he : EnvOK E) {fuel f : Nat} {args : List Value} {v : Value} {s s' : St} (ho : E.orc.get f = none) (hx : E.ext.get f = none) (h : callF E fuel f args s = .some v s') (args' : Array Value) (w : World) : (callFunc f args').run E.P w = .ok (.enter f args') w := by
  replace h : callW E (runF E fuel) f args s = .some v s' := h
  unfold callW at h
  rw [ho, hx] at h
  obtain ⟨s2, e1, rfl⟩ := within_rOf (o := .inl v) (show within cxN (M.bind (M.bind (enterF E f args .normal) (runF E fuel)) fstV) s = rOf (.inl v) s' from h)
  obtain ⟨af, s1, o, e2, _⟩ := fst_rOf (np_enterF _ _ _) e1
  obtain ⟨_, fn, c, h1, h2, _⟩ := enterF_some e2
  obtain ⟨k1, k2⟩ := he.fn f fn h1
  unfold callFunc
  simp [Sem.run, program, k1, k2, h2]
theorem orc_closed {E : Env} (he : EnvOK E) {fuel f : Nat} {v : Value} (ho : E.orc.get f = none) (hx : E.ext.get f = none) (h : valR (callF E fuel f [] st0) = some v) (hp : plain v = true) : OrcOK E.P f (closedM v) where
  loc := fun args => by cases args <;> first | exact lo_pure _ | exact lo_fail
  ok := by
    intro w0 w r args args' s out s' e hr hb hf ha
    obtain ⟨s1, h⟩ := valR_some h
    cases args with
    | cons a l => exact (rOf_none e).elim
    | nil =>
      obtain ⟨rfl, rfl⟩ := rOf_inl (show R.some v s = rOf out s' from e)
      rw [ha.inv_nil]
      refine ⟨fun w => enters he ho hx h _ w, fun c cs => ?_⟩
      obtain ⟨e, w', fr, ⟨rfl, hbl⟩, hs, _, hl⟩ := calls_closed he ho hx h hp w (c :: cs)
      exact ⟨w', r, .of_rel rfl (hr.beyond hbl), rfl, rfl, v, .of_plain hp, hs.trans (.one (step_leave_returned hl))⟩
/-- A closed call, for a walk. -/
theorem calls_of {E : Env} (he : EnvOK E) {fuel f : Nat} {v : Value} (ho : E.orc.get f = none) (hx : E.ext.get f = none) (h : valR (callF E fuel f [] st0) = some v) (hp : plain v = true) (w : World) : Calls E.P f #[] w fun e w' => e = .returned v ∧ Below w.heap.size w w' := by
  obtain ⟨s1, h⟩ := valR_some h
  exact calls_closed he ho hx h hp w
end Go.Proofs.Ytnhmbhpkebjjaaa.Am
