/- Contracts of closed calls, within the evaluator. -/
import Derived.Test.YtkgncjlgmnbfoaaGreatDoorAmEnv
import Derived.RowKit3
namespace Go.Proofs.YtkgncjlgmnbfoaaGreatDoor.Am
open Go.RowKit

/-- What a contract gives, in the evaluator's words. -/
structure OrcOK (P : Program) (f : Nat) (m : List Value → M Value) : Prop where
  loc : ∀ args, Loc (m args)
  ok : ∀ {w0 w : World} {r : Inj} {args args' : List Value} {s : St} {out : Out Value} {s' : St}, m args s = rOf out s' → Rel w0 r s.mem w → Bnd s → Fresh r s.next s'.next → VRs r args args' →
    (∀ w, (callFunc f args'.toArray).run P w = .ok (.enter f args'.toArray) w) ∧
    ∀ c cs, ∃ w' r', Goes w0 r s s' r' w' ∧ s'.lim = s.lim ∧ s'.cx = s.cx ∧ Ends P r' out (lone (Frame.enter P f args'.toArray .normal) (c :: cs) w) c cs w'
def OrcT (P : Program) (orc : T (List Value → M Value)) : Prop := ∀ f m, T.get orc f = some m → OrcOK P f m
theorem OrcT.E (P : Program) : OrcT P .E := fun f m h => by cases h
theorem OrcT.set {P : Program} {orc : T (List Value → M Value)} (h : OrcT P orc) {f : Nat} {m : List Value → M Value} (k : OrcOK P f m) : OrcT P (T.set orc f m) := fun g n e => by
  rw [T.get_set] at e
  split at e
  · rename_i hg
    cases e
    rw [hg]
    exact k
  · exact h g n e
theorem envOf_orc (P : Program) (h : P.follows .mixedOrders = true) {orc : T (List Value → M Value)} (ho : OrcT P orc) : EnvOK (envOf P orc .E) :=
  ⟨envOf_ty P orc .E, envOf_fn P orc .E, h, fun f m e => (ho f m e).loc, fun e => (ho _ _ e).ok, (fun f m e => by cases e), (fun e => by cases e)⟩

noncomputable def valR (r : R Value) : Option Value := R.rec (motive := fun _ => Option Value) none (fun v _ => some v) (fun _ _ => none) r
theorem valR_some {r : R Value} {v : Value} (h : valR r = some v) : ∃ s, r = .some v s := by
  cases r with
  | none => cases h
  | some a s => cases h; exact ⟨s, rfl⟩
  | pan c s => cases h
/-- A closed call's value, at once. -/
noncomputable def closedM (v : Value) (args : List Value) : M Value := List.rec (motive := fun _ => M Value) (M.pure v) (fun _ _ _ => M.fail) args
theorem enters {E : Env} (he : EnvOK E) {fuel f : Nat} {args : List Value} {v : Value} {s s' : St} (ho : E.orc.get f = none) (hx : E.ext.get f = none) (h : callF E fuel f args s = .some v s') (args' : Array Value) (w : World) : (callFunc f args').run E.P w = .ok (.enter f args') w := by
  replace h : callW E (runF E fuel) f args s = .some v s' := h
  unfold callW at h
  rw [ho, hx] at h
  obtain ⟨s2, e1, rfl⟩ := within_rOf (o := .inl v) (show within cxN (M.bind (M.bind (enterF E f args .normal) (runF E fuel)) fstV) s = rOf (.inl v) s' from h)
  obtain ⟨af, s1, o, e2, _⟩ := fst_rOf (np_enterF _ _ _) e1
  obtain ⟨_, fn, c, h1, h2, _⟩ := enterF_some e2
  obtain ⟨k1, k2⟩ := he.fn f fn h1
  unfold callFunc
  simp [Sem.run, program, k1, k2, h2]
theorem orc_closed {E : Env} (he : EnvOK E) {fuel f : Nat} {v : Value} (ho : E.orc.get f = none) (hx : E.ext.get f = none) (h : valR (callF E fuel f [] st0) = some v) (hp : plain v = true) : OrcOK E.P f (closedM v) where
  loc := fun args => by cases args <;> first | exact lo_pure _ | exact lo_fail
  ok := by
    intro w0 w r args args' s out s' e hr hb hf ha
    obtain ⟨s1, h⟩ := valR_some h
    cases args with
    | cons a l => exact (rOf_none e).elim
    | nil =>
      obtain ⟨rfl, rfl⟩ := rOf_inl (show R.some v s = rOf out s' from e)
      rw [ha.inv_nil]
      refine ⟨fun w => enters he ho hx h _ w, fun c cs => ?_⟩
      obtain ⟨e, w', fr, ⟨rfl, hbl⟩, hs, _, hl⟩ := calls_closed he ho hx h hp w (c :: cs)
      exact ⟨w', r, .of_rel rfl (hr.beyond hbl), rfl, rfl, v, .of_plain hp, hs.trans (.one (step_leave_returned hl))⟩
/-- A closed call, for a walk. -/
theorem calls_of {E : Env} (he : EnvOK E) {fuel f : Nat} {v : Value} (ho : E.orc.get f = none) (hx : E.ext.get f = none) (h : valR (callF E fuel f [] st0) = some v) (hp : plain v = true) (w : World) : Calls E.P f #[] w fun e w' => e = .returned v ∧ Below w.heap.size w w' := by
  obtain ⟨s1, h⟩ := valR_some h
  exact calls_closed he ho hx h hp w
end Go.Proofs.YtkgncjlgmnbfoaaGreatDoor.Am
namespace Go.Proofs.YtkgncjlgmnbfoaaGreatDoor.Am
open Go.RowKit

/-- What an entry gives, in the evaluator's words. -/
structure ExtOK (P : Program) (f : Nat) (m : List Value → M Value) : Prop where
  loc : ∀ args, Loc (m args)
  ok : ∀ {w0 w : World} {r : Inj} {args args' : List Value} {s : St} {out : Out Value} {s' : St}, m args s = rOf out s' → Rel w0 r s.mem w → VRs r args args' → AtOnce P w0 w r s f args' out s'
def ExtT (P : Program) (ext : T (List Value → M Value)) : Prop := ∀ f m, T.get ext f = some m → ExtOK P f m
theorem ExtT.E (P : Program) : ExtT P .E := fun f m h => by cases h
theorem ExtT.set {P : Program} {ext : T (List Value → M Value)} (h : ExtT P ext) {f : Nat} {m : List Value → M Value} (k : ExtOK P f m) : ExtT P (T.set ext f m) := fun g n e => by
  rw [T.get_set] at e
  split at e
  · rename_i hg
    cases e
    rw [hg]
    exact k
  · exact h g n e
theorem envOf_all (P : Program) (h : P.follows .mixedOrders = true) {orc ext : T (List Value → M Value)} (ho : OrcT P orc) (hx : ExtT P ext) : EnvOK (envOf P orc ext) :=
  ⟨envOf_ty P orc ext, envOf_fn P orc ext, h, fun f m e => (ho f m e).loc, fun e => (ho _ _ e).ok, fun f m e => (hx f m e).loc, fun e => (hx _ _ e).ok⟩

section
variable {P : Program} {f : Nat} {fn : Func}
/-- A function without a body that has a plain entry: the entry's answer. -/
theorem call_ext {e : Array Value → Sem Value} (hf : P.funcs[f]? = some fn) (h1 : (fn.name == "runtime.NumGoroutine") = false) (h2 : fn.body = none) (h3 : Extern.findNext fn = none) (h4 : Extern.find fn = some e)
    (args : Array Value) {w w' : World} {v : Value} (h : (e args).run P w = .ok v w') : (callFunc f args).run P w = .ok (.value v) w' := by
  have h1' : ¬fn.name = "runtime.NumGoroutine" := by simpa using h1
  unfold callFunc
  simp [run_program, Sem.run_bind, hf, h1', h2, h3, h4, h]
theorem loadT_one (t : Extern.Atomic.T) (x : Value) : Extern.Atomic.loadT t #[x] = (do Extern.Atomic.read t (← asAddr x)) := rfl
theorem update_two (op : IntKind → Int → Int → Sem Value) (k : IntKind) (b : Bool) (x y : Value) : Extern.Atomic.update op k b #[x, y] = (do
    let a ← asAddr x
    let old ← Extern.Atomic.read (.int k) a
    let new ← op k (← asInt old) (← asInt y)
    store a new .atomic
    pure (if b then new else old)) := rfl

noncomputable def load64 (args : List Value) : M Value :=
  match args with
  | [.pointer (some a)] => M.bind (rdV a) fun v => match v with
    | .int .i64 n => M.pure (.int .i64 n)
    | _ => M.fail
  | _ => M.fail
noncomputable def add64 (args : List Value) : M Value :=
  match args with
  | [.pointer (some a), .int .i64 y] => M.bind (rdV a) fun v => match v with
    | .int .i64 x => fI (wrap64 (addI x y)) fun n => M.bind (wrV a (.int .i64 n)) fun _ => M.pure (.int .i64 n)
    | _ => M.fail
  | _ => M.fail

theorem ext_load64 (hf : P.funcs[f]? = some fn) (h1 : (fn.name == "runtime.NumGoroutine") = false) (h2 : fn.body = none) (h3 : Extern.findNext fn = none) (h4 : Extern.find fn = some (Extern.Atomic.loadT (.int .i64))) : ExtOK P f load64 where
  loc := fun args => by
    unfold load64
    split
    · refine lo_bind (lo_rdV _) fun v => ?_
      split
      · exact lo_pure _
      · exact lo_fail
    · exact lo_fail
  ok := by
    intro w0 w r args args' s out s' e hr ha
    unfold load64 at e
    split at e
    · rename_i a
      obtain ⟨p', l', rfl, q1, q2⟩ := ha.inv
      obtain ⟨a', rfl, qa⟩ := q1.ptr_inv
      have := q2.inv_nil
      subst this
      rcases bind_rOf e with ⟨v, s1, e1, e2⟩ | ⟨c, e1, _⟩
      case inr => exact ((np_rdV _).no _ _ _ e1).elim
      obtain ⟨v', g1, g2, g3⟩ := rdV_ok e1 hr qa
      split at e2
      · rename_i n
        obtain ⟨rfl, rfl⟩ := rOf_inl (show R.some (Value.int .i64 n) s1 = rOf out s' from e2)
        have := g2.int_inv
        subst this
        refine ⟨_, _, w, r, rfl, g2, .same g3 hr, g3.2.2.1, g3.2.2.2, call_ext hf h1 h2 h3 h4 _ ?_⟩
        show (Extern.Atomic.loadT (.int .i64) #[.pointer (some a')]).run P w = _
        rw [loadT_one]
        simp [Extern.Atomic.read, asAddr, load, Sem.run, g1]
      · exact (rOf_none e2).elim
    · exact (rOf_none e).elim
theorem ext_add64 (hf : P.funcs[f]? = some fn) (h1 : (fn.name == "runtime.NumGoroutine") = false) (h2 : fn.body = none) (h3 : Extern.findNext fn = none) (h4 : Extern.find fn = some (Extern.Atomic.update (Op.intArith .add) .i64 true)) : ExtOK P f add64 where
  loc := fun args => by
    unfold add64
    split
    · refine lo_bind (lo_rdV _) fun v => ?_
      split
      · exact lo_fI _ fun n => lo_bind (lo_wrV _ _) fun _ => lo_pure _
      · exact lo_fail
    · exact lo_fail
  ok := by
    intro w0 w r args args' s out s' e hr ha
    unfold add64 at e
    split at e
    · rename_i a y
      obtain ⟨p', l', rfl, q1, q2⟩ := ha.inv
      obtain ⟨y', l2, rfl, q3, q4⟩ := q2.inv
      obtain ⟨a', rfl, qa⟩ := q1.ptr_inv
      have := q4.inv_nil
      subst this
      have := q3.int_inv
      subst this
      rcases bind_rOf e with ⟨v, s1, e1, e2⟩ | ⟨c, e1, _⟩
      case inr => exact ((np_rdV _).no _ _ _ e1).elim
      obtain ⟨v', g1, g2, g3⟩ := rdV_ok e1 hr qa
      split at e2
      · rename_i x
        have := g2.int_inv
        subst this
        rw [fI_eq, wrap64_eq, addI_eq] at e2
        rcases bind_rOf e2 with ⟨u, s2, e3, e4⟩ | ⟨c, e3, _⟩
        case inr => exact ((np_wrV _ _).no _ _ _ e3).elim
        obtain ⟨rfl, rfl⟩ := rOf_inl (show R.some (Value.int .i64 (IntKind.i64.wrap (x + y))) s2 = rOf out s' from e4)
        obtain ⟨k1, k2, k3, k4, k5, k6, k7⟩ := wrV_ok (P := P) (v' := .int .i64 (IntKind.i64.wrap (x + y))) e3 (by rw [g3.1]; exact hr) qa (.of_plain rfl)
        refine ⟨.int .i64 (IntKind.i64.wrap (x + y)), .int .i64 (IntKind.i64.wrap (x + y)), w.setCell a' (.int .i64 (IntKind.i64.wrap (x + y))), r, rfl, .of_plain rfl, .of_rel (by rw [k3]; exact g3.2.1) k2, by rw [k4]; exact g3.2.2.1, by rw [k5]; exact g3.2.2.2, call_ext hf h1 h2 h3 h4 _ ?_⟩
        show (Extern.Atomic.update (Op.intArith .add) .i64 true #[.pointer (some a'), .int .i64 y]).run P w = _
        rw [update_two]
        simp [Extern.Atomic.read, asAddr, asInt, asIntOf, load, store, Sem.run, g1, Op.intArith, k7]
      · exact (rOf_none e2).elim
    · exact (rOf_none e).elim
end
end Go.Proofs.YtkgncjlgmnbfoaaGreatDoor.Am
