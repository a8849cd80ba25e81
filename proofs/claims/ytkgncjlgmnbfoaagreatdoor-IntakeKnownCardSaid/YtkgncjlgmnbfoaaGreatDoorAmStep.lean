/- The machine's frames beside the evaluator's: contexts, panics, calls; one operation's steps. -/
import Derived.Test.YtkgncjlgmnbfoaaGreatDoorAmOp3
import Derived.Test.YtkgncjlgmnbfoaaGreatDoorAmLoc
import Derived.Recover
namespace Go.Proofs.YtkgncjlgmnbfoaaGreatDoor.Am
open Go.RowKit

/-! ### Panics, deferred calls, what belongs to a frame -/
inductive ChR (r : Inj) : List PanicEntry → List PanicEntry → Prop
  | nil : ChR r [] []
  | cons {e e' : PanicEntry} {l l' : List PanicEntry} : VR r e.v e'.v → e'.recovered = e.recovered → e'.goexit = e.goexit → ChR r l l' → ChR r (e :: l) (e' :: l')
theorem ChR.mono {r r' : Inj} (h : r.le r') {l l' : List PanicEntry} (k : ChR r l l') : ChR r' l l' := by
  induction k with
  | nil => exact .nil
  | cons a b c _ ih => exact .cons (a.mono h) b c ih
theorem ChR.append {r : Inj} {a a' b b' : List PanicEntry} (h : ChR r a a') (k : ChR r b b') : ChR r (a ++ b) (a' ++ b') := by
  induction h with
  | nil => exact k
  | cons x y z _ ih => exact .cons x y z ih
inductive MoR (r : Inj) : FrameMode → FrameMode → Prop
  | run : MoR r .run .run
  | ret : MoR r .returning .returning
  | pan {c c' : List PanicEntry} : ChR r c c' → MoR r (.panicking c) (.panicking c')
theorem MoR.mono {r r' : Inj} (h : r.le r') {m m' : FrameMode} (k : MoR r m m') : MoR r' m m' := by
  cases k with
  | run => exact .run
  | ret => exact .ret
  | pan c => exact .pan (c.mono h)
inductive DfR (r : Inj) : Deferred → Deferred → Prop
  | fn {f f' : Fn} {c c' a a' : Array Value} : FnR r f f' → VRs r c.toList c'.toList → VRs r a.toList a'.toList → DfR r ⟨.fn f c, a⟩ ⟨.fn f' c', a'⟩
  | coll {b b' d : Nat} : r.blk b = some (b', d) → DfR r ⟨.collected b, #[]⟩ ⟨.collected b', #[]⟩
theorem DfR.mono {r r' : Inj} (h : r.le r') {m m' : Deferred} (k : DfR r m m') : DfR r' m m' := by
  cases k with
  | fn a b c => exact .fn (a.mono h) (b.mono h) (c.mono h)
  | coll a => exact .coll (h.1 _ _ a)
inductive DfsR (r : Inj) : List Deferred → List Deferred → Prop
  | nil : DfsR r [] []
  | cons {e e' : Deferred} {l l' : List Deferred} : DfR r e e' → DfsR r l l' → DfsR r (e :: l) (e' :: l')
theorem DfsR.mono {r r' : Inj} (h : r.le r') {l l' : List Deferred} (k : DfsR r l l') : DfsR r' l l' := by
  induction k with
  | nil => exact .nil
  | cons a _ ih => exact .cons (a.mono h) ih
/-- What a frame has deferred and who called it, against the context: 'base' has both as they were when the frame began (or when the context was shut). -/
def CxR (r : Inj) (base : List Deferred × List Frame) (cx : Ctx) (b : Frame) (dfs : List Deferred) (cs : List Frame) : Prop :=
  match cx with
  | .no => dfs = base.1 ∧ cs = base.2
  | .cx up d =>
    (match up with
     | none => b.kind = .normal ∧ cs = base.2
     | some m => b.kind = .deferred ∧ ∃ c rest m', base.2 = c :: rest ∧ cs = { c with mode := m' } :: rest ∧ MoR r m m') ∧
    (match d with
     | none => b.roundOf ≠ none ∧ dfs = []
     | some l => b.roundOf = none ∧ DfsR r l dfs)
theorem CxR.mono {r r' : Inj} (h : r.le r') {base : List Deferred × List Frame} {cx : Ctx} {b : Frame} {dfs : List Deferred} {cs : List Frame} (k : CxR r base cx b dfs cs) : CxR r' base cx b dfs cs := by
  unfold CxR at *
  cases cx with
  | no => exact k
  | cx up d =>
    obtain ⟨k1, k2⟩ := k
    constructor
    · cases up with
      | none => exact k1
      | some m => obtain ⟨q1, c, rest, m', q2, q3, q4⟩ := k1; exact ⟨q1, c, rest, m', q2, q3, q4.mono h⟩
    · cases d with
      | none => exact k2
      | some l => exact ⟨k2.1, k2.2.mono h⟩

/-! ### Frames in the midst of their work -/
def frm (b : Frame) (t : Array Value) (d : List Deferred) (todo : List Item) : Frame := { fn := b.fn, tmps := t, todo, defers := d, mode := .run, kind := b.kind, roundOf := b.roundOf }
def putT (t : Array Value) (dst : Option Nat) (v : Value) : Array Value :=
  match dst with
  | some d => t.setIfInBounds d v
  | none => t
theorem frm_eval (b : Frame) (t : Array Value) (d : List Deferred) (todo : List Item) : (frm b t d todo).eval = Act.eval ⟨t, d⟩ := funext fun x => by cases x <;> rfl
theorem frm_finish (b : Frame) (t : Array Value) (d : List Deferred) {ops : Array Oper} {i : Nat} {o : Oper} (ho : ops[i]? = some o) (rest : List Nat) (k : List Item) (v : Value) :
    (frm b t d (.inRegion ops (i :: rest) :: k)).finish v = frm b (putT t o.dst v) d (.inRegion ops rest :: k) := by
  cases h : o.dst <;> simp [Frame.finish, frm, putT, ho, h]
section
variable {P : Program} {b : Frame} {t : Array Value} {d : List Deferred} {k : List Item} {cs : List Frame} {w : World} {ops : Array Oper}
theorem stepG_frm {i : Nat} {rest : List Nat} {o : Oper} (ho : ops[i]? = some o) (hw : Region.wanted o (yielded ops t) = true) (hd : b.roundOf = none ∨ ∀ c, o.op ≠ .defer c) :
    stepG P true { frame := frm b t d (.inRegion ops (i :: rest) :: k), callers := cs, status := .running, dying := none } w =
      stepG.apply P true (frm b t d (.inRegion ops (i :: rest) :: k)) cs none (execOp (Act.eval ⟨t, d⟩) o) w := by
  have he := frm_eval b t d (.inRegion ops (i :: rest) :: k)
  have e1 : stepG P true { frame := frm b t d (.inRegion ops (i :: rest) :: k), callers := cs, status := .running, dying := none } w =
      stepG.oper P true (frm b t d (.inRegion ops (i :: rest) :: k)) cs none w := by
    simp [stepG, stepG.exec, frm, ho, hw]
  rw [e1]
  have e2 : (frm b t d (.inRegion ops (i :: rest) :: k)).oper? = some o := ho
  unfold stepG.oper
  simp only [e2, he]
  split
  · rename_i l c h1 h2
    rcases hd with hd | hd
    · rw [show (frm b t d (.inRegion ops (i :: rest) :: k)).roundOf = b.roundOf from rfl, hd] at h1
      cases h1
    · exact absurd h2 (hd c)
  · rfl
theorem step_region_frm {id : Nat} : step P (lone (frm b t d (.code (.region id ops false) :: k)) cs w) = .next (lone (frm b t d (.inRegion ops (List.range ops.size) :: k)) cs w) :=
  step_lone_go (by simp [stepG, stepG.exec, frm])
theorem step_region_draw_frm {id : Nat} :
    step P (lone (frm b t d (.code (.region id ops true) :: k)) cs w) =
      .next (lone (frm b t d (.inRegion ops (Region.schedule (P.follows .mixedOrders) ops (w.tape w.drawn (.order b.fn id))) :: k)) cs { w with drawn := w.drawn + 1 }) :=
  step_lone_go (by simp [stepG, stepG.exec, frm, choose, Sem.run, Question.forced, Question.cut])
theorem step_region_end_frm : step P (lone (frm b t d (.inRegion ops [] :: k)) cs w) = .next (lone (frm b t d k) cs w) :=
  step_lone_go (by simp [stepG, stepG.exec, frm])
theorem step_op_skip_frm {i : Nat} {o : Oper} {rest : List Nat} (ho : ops[i]? = some o) (h : Region.wanted o (yielded ops t) = false) :
    step P (lone (frm b t d (.inRegion ops (i :: rest) :: k)) cs w) = .next (lone (frm b (putT t o.dst undef) d (.inRegion ops rest :: k)) cs w) := by
  rw [← frm_finish b t d ho]
  exact step_lone_go (by simp [stepG, stepG.exec, frm, ho, h])
end

/-! ### Calls -/
/-- What comes of a call, for whoever called. -/
def Ends (P : Program) (r : Inj) (out : Out Value) (m : Machine) (c : Frame) (cs : List Frame) (w' : World) : Prop :=
  match out with
  | .inl v => ∃ v', VR r v v' ∧ Steps P m (lone (c.finish v') cs w')
  | .inr ch => ∃ ch', ChR r ch ch' ∧ Steps P m (lone (c.raise ch') cs w')
/-- A call that is answered at once: of a function without a body. -/
def AtOnce (P : Program) (w0 w : World) (r : Inj) (s : St) (f : Nat) (args' : List Value) (out : Out Value) (s' : St) : Prop :=
  ∃ v v' w' r', out = .inl v ∧ VR r' v v' ∧ Goes w0 r s s' r' w' ∧ s'.lim = s.lim ∧ s'.cx = s.cx ∧ (callFunc f args'.toArray).run P w = .ok (.value v') w'
structure CallOK (E : Env) (call : CallT) : Prop where
  loc : ∀ f args, Loc (call f args)
  ok : ∀ {w0 w : World} {r : Inj} {f : Nat} {args args' : List Value} {s : St} {out : Out Value} {s' : St}, call f args s = rOf out s' → Rel w0 r s.mem w → Bnd s → Fresh r s.next s'.next → VRs r args args' →
    ((∀ w, (callFunc f args'.toArray).run E.P w = .ok (.enter f args'.toArray) w) ∧
    ∀ c cs, ∃ w' r', Goes w0 r s s' r' w' ∧ s'.lim = s.lim ∧ s'.cx = s.cx ∧ Ends E.P r' out (lone (Frame.enter E.P f args'.toArray .normal) (c :: cs) w) c cs w') ∨
    (E.ext.get f ≠ none ∧ AtOnce E.P w0 w r s f args' out s')
structure RoundOK (E : Env) (round : CallT) : Prop where
  loc : ∀ l args, Loc (round l args)
  ok : ∀ {w0 w : World} {r : Inj} {l l' d : Nat} {args args' : List Value} {s : St} {out : Out Value} {s' : St}, round l args s = rOf out s' → Rel w0 r s.mem w → Bnd s → Fresh r s.next s'.next → VRs r args args' → r.blk l = some (l', d) →
    ∃ f tm as bd, (Instr.yield l' args'.toArray).run E.P w = .ok (.round l' f tm as bd) w ∧
    ∀ c cs, ∃ w' r', Goes w0 r s s' r' w' ∧ s'.lim = s.lim ∧ s'.cx = s.cx ∧ Ends E.P r' out (lone (Frame.round l' f tm as bd .normal) (c :: cs) w) c cs w'

/-! ### One operation -/
/-- What comes of an operation, in its frame. -/
def OpEnds (P : Program) (r : Inj) (out : Out Value) (m : Machine) (b : Frame) (t : Array Value) (dfs : List Deferred) (ops : Array Oper) (o : Oper) (rest : List Nat) (k : List Item) (cs : List Frame) (w' : World) : Prop :=
  match out with
  | .inl v => ∃ v', VR r v v' ∧ Steps P m (lone (frm b (putT t o.dst v') dfs (.inRegion ops rest :: k)) cs w')
  | .inr ch => ∃ ch' td, ChR r ch ch' ∧ Steps P m (lone { frm b t dfs td with mode := .panicking ch' } cs w')
def OpS (E : Env) (o : Oper) (c : Cl OpT) (ds : List Nat) : Prop :=
  ∃ f, c = .mk f ∧ (∀ call round, CallOK E call → RoundOK E round → ∀ rho tm, Loc (f call round rho tm)) ∧
    ∀ call round, CallOK E call → RoundOK E round → ∀ (w0 w : World) (r : Inj) (U : Nat → Prop) rho tm (b : Frame) (t : Array Value) (dfs : List Deferred) (cs : List Frame) (base : List Deferred × List Frame) (s : St) (out : Out Value) (s' : St),
      SlR r U ds rho tm t → (∀ t, Operand.tmp t ∈ o.op.operands.toList → U t) → Rel w0 r s.mem w → CxR r base s.cx b dfs cs → Bnd s → Fresh r s.next s'.next → f call round rho tm s = rOf out s' →
      ∀ (ops : Array Oper) i rest k, ops[i]? = some o → Region.wanted o (yielded ops t) = true →
        ∃ w' r' dfs' cs', Goes w0 r s s' r' w' ∧ CxR r' base s'.cx b dfs' cs' ∧ s'.lim = s.lim ∧
          OpEnds E.P r' out (lone (frm b t dfs (.inRegion ops (i :: rest) :: k)) cs w) b t dfs' ops o rest k cs' w'

theorem OpS.ofV {E : Env} {o : Oper} {c : Cl OpT} {ds : List Nat} (h : OpV E o c ds) (hd : ∀ c, o.op ≠ .defer c) (hl : ∀ f, c = .mk f → ∀ call round rho tm, Loc (f call round rho tm)) : OpS E o c ds := by
  obtain ⟨f, h1, h2, h3⟩ := h
  refine ⟨f, h1, fun call round _ _ => hl f h1 call round, ?_⟩
  intro call round hc hro w0 w r U rho tm b t dfs cs base s out s' hs hu hr hx hb hf e ops i rest k ho hw
  cases out with
  | inr ch => exact ((h2 call round rho tm).no _ _ _ e).elim
  | inl v =>
    obtain ⟨v', w', r', k1, k2, k3, k4, k5⟩ := h3 call round w0 w r U rho tm ⟨t, dfs⟩ s v s' hs hu hr e hf
    refine ⟨w', r', dfs, cs, k2, by rw [k5]; exact hx.mono k2.le, k4, v', k3, .one (step_lone_go ?_)⟩
    rw [stepG_frm ho hw (.inr hd), ← frm_finish b t dfs ho]
    rcases k1 with k1 | ⟨k1, rfl⟩ <;> simp [stepG.apply, k1]
theorem frm_raise (b : Frame) (t : Array Value) (d : List Deferred) (td : List Item) (ch : List PanicEntry) : (frm b t d td).raise ch = { frm b t d td with mode := .panicking ch } := rfl
theorem frm_kind (b : Frame) (t : Array Value) (d : List Deferred) (ops : Array Oper) (l : List Nat) (k : List Item) :
    (match (frm b t d (.inRegion ops l :: k)).todo with | .call _ true _ _ :: _ => CallKind.wrapped | _ => .normal) = .normal := rfl

section
variable {E : Env} {ds : List Nat} {o : Oper}
theorem VR.func_inv {r : Inj} {f : Fn} {a c : Array Value} {v' : Value} (h : VR r (.func f a c) v') : ∃ f' a' c', v' = .func f' a' c' ∧ FnR r f f' ∧ VRs r a.toList a'.toList ∧ VRs r c.toList c'.toList := by
  cases h with
  | func h1 h2 h3 h4 h5 => exact ⟨_, _, _, rfl, h1, VRs.ofArr h2 h3, VRs.ofArr h4 h5⟩
theorem resolve_value (ρ : Operand → Value) {c : Call} {ty : TypeId} {x : Operand} {f : Fn} {a cap : Array Value} (hc : c.callee = .value x) (hx : ρ x = .func f a cap) :
    resolve ρ c ty = pure { target := .fn f cap, args := a ++ c.args.map ρ } := by
  unfold resolve
  simp only [hc, hx, Deferred.ofValue]
theorem op_call {x : Operand} {c : Call} (ho : o.op = .call c) (hc : c.callee = .value x) : OpS E o (withC ds x c.args.toList) ds := by
  obtain ⟨g, h1, h2⟩ := compO_ok ds x
  obtain ⟨g', h3, h4⟩ := compL_ok ds c.args.toList
  refine ⟨fun call round rho tm => M.on (g rho tm) fun f => M.on (g' rho tm) fun l => callV call round f l, by unfold withC; simp only [h1, h3], ?_, ?_⟩
  · intro call round hc1 hc2 rho tm
    refine lo_on _ fun f => lo_on _ fun l => ?_
    unfold callV
    split
    · exact hc1.loc _ _
    · exact lo_chk _ (hc2.loc _ _)
    · exact lo_fail
  · intro call round hc1 hc2 w0 w r U rho tm b t dfs cs base s out s' hs hu hr hx hb hf e ops i rest k hoi hw
    have on' : ∀ {α β : Type} {y : Option α} {f : α → M β} {o : Out β} {s s' : St}, M.on y f s = rOf o s' → ∃ a, y = some a ∧ f a s = rOf o s' := by
      intro α β y f o s s' h
      cases y with
      | none => exact (rOf_none h).elim
      | some a => exact ⟨a, rfl, h⟩
    obtain ⟨fv, e1, e⟩ := on' e
    obtain ⟨l, e2, e⟩ := on' e
    have hfv := h2 _ _ _ _ ⟨t, dfs⟩ _ hs (fun t q => hu t (by simp [ho, Op.operands, Call.operands, hc] at q ⊢; simp [q])) e1
    have hl : VRs r l (c.args.toList.map (Act.eval ⟨t, dfs⟩)) := h4 _ _ _ _ ⟨t, dfs⟩ _ hs (fun t q => hu t (by simp [ho, Op.operands, Call.operands] at q ⊢; simp [q])) e2
    have hmap : c.args.map (Act.eval ⟨t, dfs⟩) = (c.args.toList.map (Act.eval ⟨t, dfs⟩)).toArray := by rw [← List.map_toArray]
    have hd : ∀ c, o.op ≠ .defer c := by rw [ho]; intro c h; cases h
    unfold callV at e
    split at e
    · rename_i f first cap _
      obtain ⟨f', a', c', q1, q2, q3, q4⟩ := hfv.func_inv
      cases f' with
      | func f' =>
        simp only [FnR] at q2
        subst q2
        have e1 : (a' ++ c.args.map (Act.eval ⟨t, dfs⟩) ++ c') = (a'.toList ++ (c.args.toList.map (Act.eval ⟨t, dfs⟩) ++ c'.toList)).toArray := by
          rw [hmap]; simp
        rcases hc1.ok e hr hb hf (args' := a'.toList ++ (c.args.toList.map (Act.eval ⟨t, dfs⟩) ++ c'.toList)) (q3.append (hl.append q4)) with ⟨k1, k2⟩ | ⟨_, v, v', w', r', rfl, g1, g2, g3, g4, g5⟩
        case inr =>
          have hrun : (execOp (Act.eval ⟨t, dfs⟩) o).run E.P w = .ok (.value v') w' := by
            simp only [execOp, ho, resolve_value _ hc q1]
            simp only [invoke, Sem.run_bind, Sem.run_pure, Result.andThen_ok, e1, g5]
          refine ⟨w', r', dfs, cs, g2, by rw [g4]; exact hx.mono g2.le, g3, v', g1, .one (step_lone_go ?_)⟩
          rw [stepG_frm hoi hw (.inr hd), ← frm_finish b t dfs hoi]
          simp [stepG.apply, hrun]
        obtain ⟨w', r', g1, g2, g3, g4⟩ := k2 (frm b t dfs (.inRegion ops (i :: rest) :: k)) cs
        have henter : step E.P (lone (frm b t dfs (.inRegion ops (i :: rest) :: k)) cs w) =
            .next (lone (Frame.enter E.P f (a'.toList ++ (c.args.toList.map (Act.eval ⟨t, dfs⟩) ++ c'.toList)).toArray .normal) (frm b t dfs (.inRegion ops (i :: rest) :: k) :: cs) w) := by
          refine step_lone_go ?_
          rw [stepG_frm hoi hw (.inr hd)]
          have hrun : (execOp (Act.eval ⟨t, dfs⟩) o).run E.P w = .ok (.enter f (a'.toList ++ (c.args.toList.map (Act.eval ⟨t, dfs⟩) ++ c'.toList)).toArray) w := by
            simp only [execOp, ho, resolve_value _ hc q1]
            simp only [invoke, Sem.run_bind, Sem.run_pure, Result.andThen_ok, e1, k1]
          simp [stepG.apply, hrun, frm]
        refine ⟨w', r', dfs, cs, g1, by rw [g3]; exact hx.mono g1.le, g2, ?_⟩
        unfold Ends at g4
        cases out with
        | inl v =>
          obtain ⟨v', p1, p2⟩ := g4
          rw [frm_finish b t dfs hoi] at p2
          exact ⟨v', p1, .head henter p2⟩
        | inr ch =>
          obtain ⟨ch', p1, p2⟩ := g4
          exact ⟨ch', _, p1, .head henter p2⟩
      | _ => simp only [FnR] at q2
    · rename_i lp first cap _
      obtain ⟨f', a', c', q1, q2, q3, q4⟩ := hfv.func_inv
      cases f' with
      | yield lp' =>
        obtain ⟨dd, q2⟩ := q2
        cases hemp : first.isEmpty with
        | false => rw [hemp] at e; exact (rOf_none e).elim
        | true =>
          rw [hemp] at e
          have e' : round lp l s = rOf out s' := e
          have hfe : first = #[] := by simpa using hemp
          subst hfe
          have ha' : a' = #[] := by have := q3.1; simp at this; simpa using this.symm
          subst ha'
          obtain ⟨fn, tmn, as, bd, k1, k2⟩ := hc2.ok e' hr hb hf hl q2
          obtain ⟨w', r', g1, g2, g3, g4⟩ := k2 (frm b t dfs (.inRegion ops (i :: rest) :: k)) cs
          have henter : step E.P (lone (frm b t dfs (.inRegion ops (i :: rest) :: k)) cs w) =
              .next (lone (Frame.round lp' fn tmn as bd .normal) (frm b t dfs (.inRegion ops (i :: rest) :: k) :: cs) w) := by
            refine step_lone_go ?_
            rw [stepG_frm hoi hw (.inr hd)]
            have hrun : (execOp (Act.eval ⟨t, dfs⟩) o).run E.P w = .ok (.round lp' fn tmn as bd) w := by
              simp only [execOp, ho, resolve_value _ hc q1]
              have e1 : (#[] ++ c.args.map (Act.eval ⟨t, dfs⟩)) = (c.args.toList.map (Act.eval ⟨t, dfs⟩)).toArray := by
                rw [hmap]; simp
              simp only [invoke, Sem.run_bind, Sem.run_pure, Result.andThen_ok, e1, k1]
            simp [stepG.apply, hrun, frm]
          refine ⟨w', r', dfs, cs, g1, by rw [g3]; exact hx.mono g1.le, g2, ?_⟩
          unfold Ends at g4
          cases out with
          | inl v =>
            obtain ⟨v', p1, p2⟩ := g4
            rw [frm_finish b t dfs hoi] at p2
            exact ⟨v', p1, .head henter p2⟩
          | inr ch =>
            obtain ⟨ch', p1, p2⟩ := g4
            exact ⟨ch', _, p1, .head henter p2⟩
      | _ => simp only [FnR] at q2
    · exact (rOf_none e).elim

/-! ### Methods of what stands behind an interface -/
theorem lo_fieldA (s : FieldStep) (a : Addr) : Loc (fieldA E s a) := lo_bind (lo_ti _ _) fun _i => lo_bind (lo_fldOf _ _ _) fun _p => lo_chk _ (lo_bind (lo_ptrA _) fun _v => lo_pure _)
theorem lo_fieldV (s : FieldStep) (cs : List Value) : Loc (fieldV E s cs) := lo_bind (lo_ti _ _) fun _i => lo_bind (lo_fldOf _ _ _) fun _p => lo_bind (lo_partV _ _ _ _) fun _v => lo_pure _
theorem lo_stepP (s : FieldStep) (v : Value) (b : Bool) : Loc (stepP E s v b) := by
  unfold stepP
  split
  · exact lo_bind (lo_asA _) fun a => lo_bind (lo_fieldA _ _) fun p => lo_pure _
  · exact lo_bind (lo_asA _) fun a => lo_bind (lo_fieldA _ _) fun p => lo_pure _
  · exact lo_bind (lo_asCs _) fun a => lo_bind (lo_fieldV _ _) fun p => lo_pure _
  · exact lo_fail
theorem lo_walkP : ∀ (l : List FieldStep) (t : Nat) (v : Value) (b : Bool), Loc (walkP E l t v b)
  | [], _, _, _ => lo_pure _
  | s :: l, _, v, b => lo_bind (lo_stepP s v b) fun _p => lo_walkP l _ _ _
theorem lo_methodA (t : Nat) (v : Value) (name : String) : Loc (methodA E t v name) := lo_on _ fun _m => lo_on _ fun _fp => lo_bind (lo_walkP _ _ _ _) fun _q => lo_bind (lo_ti _ _) fun _i => lo_chk _ (lo_pure _)
theorem np_fieldA (s : FieldStep) (a : Addr) : NoPan (fieldA E s a) := np_bind (np_ti _ _) fun _i => np_bind (np_fldOf _ _ _) fun _p => np_chk _ (np_bind (np_ptrA _) fun _v => np_pure _)
theorem np_fieldV (s : FieldStep) (cs : List Value) : NoPan (fieldV E s cs) := np_bind (np_ti _ _) fun _i => np_bind (np_fldOf _ _ _) fun _p => np_bind (np_partV _ _ _ _) fun _v => np_pure _
theorem np_stepP (s : FieldStep) (v : Value) (b : Bool) : NoPan (stepP E s v b) := by
  unfold stepP
  split
  · exact np_bind (np_asA _) fun a => np_bind (np_fieldA _ _) fun p => np_pure _
  · exact np_bind (np_asA _) fun a => np_bind (np_fieldA _ _) fun p => np_pure _
  · exact np_bind (np_asCs _) fun a => np_bind (np_fieldV _ _) fun p => np_pure _
  · exact np_fail
theorem np_walkP : ∀ (l : List FieldStep) (t : Nat) (v : Value) (b : Bool), NoPan (walkP E l t v b)
  | [], _, _, _ => np_pure _
  | s :: l, _, v, b => np_bind (np_stepP s v b) fun _p => np_walkP l _ _ _
theorem np_methodA (t : Nat) (v : Value) (name : String) : NoPan (methodA E t v name) := np_on _ fun _m => np_on _ fun _fp => np_bind (np_walkP _ _ _ _) fun _q => np_bind (np_ti _ _) fun _i => np_chk _ (np_pure _)
/-- A value, or a place told as its address. -/
def PlR (r : Inj) (b : Bool) (v : Value) (p : Place) : Prop :=
  match b, p with
  | false, .val v' => VR r v v'
  | true, .var a' => ∃ a, v = .pointer (some a) ∧ AR r a a'
  | _, _ => False
theorem fieldA_ok {w : World} {r : Inj} {s s' : St} {st : FieldStep} {a a2 : Addr} {p : Nat × Value} (he : EnvTy E) (h : fieldA E st a s = .some p s') (ha : AR r a a2) :
    s = s' ∧ ∃ fs fd a3, (underlying st.struct).run E.P w = .ok (.struct fs) w ∧ fs[st.index]? = some fd ∧ p.1 = fd.type ∧ (fieldPlace a2 fd).run E.P w = .ok a3 w ∧ PlR r true p.2 (.var a3) := by
  obtain ⟨i, s1, h1, h2⟩ := bind_some h
  obtain ⟨hi, rfl⟩ := ti_some h1 he
  obtain ⟨q, s2, h5, h6⟩ := bind_some h2
  obtain ⟨h7, h8⟩ := chk_some h6
  obtain ⟨v, s3, h9, h10⟩ := bind_some h8
  obtain ⟨rfl, rfl⟩ := ptrA_some h9
  obtain ⟨rfl, rfl⟩ := pure_some h10
  obtain ⟨rfl, fs, fd, fi, hu, hfd, hfi, rfl⟩ := fldOf_some he h5
  have hz : fi.size ≠ 0 := by
    intro h0
    simp [h0] at h7
  refine ⟨rfl, fs, fd, a2.add fd.offset, by rw [hi.run_und, hu], hfd, rfl, ?_, _, rfl, ha.add _⟩
  simp [fieldPlace, hfi.run_size, hz]
theorem fieldV_ok {w : World} {r : Inj} {s s' : St} {st : FieldStep} {cs : List Value} {cs' : Array Value} {p : Nat × Value} (he : EnvTy E) (h : fieldV E st cs s = .some p s') (hc : VRs r cs cs'.toList) :
    s = s' ∧ ∃ fs fd v', (underlying st.struct).run E.P w = .ok (.struct fs) w ∧ fs[st.index]? = some fd ∧ p.1 = fd.type ∧ (part fd.type cs' fd.offset).run E.P w = .ok v' w ∧ VR r p.2 v' := by
  obtain ⟨i, s1, h1, h2⟩ := bind_some h
  obtain ⟨hi, rfl⟩ := ti_some h1 he
  obtain ⟨q, s2, h5, h6⟩ := bind_some h2
  obtain ⟨v, s3, h9, h10⟩ := bind_some h6
  obtain ⟨rfl, rfl⟩ := pure_some h10
  obtain ⟨rfl, fs, fd, fi, hu, hfd, hfi, rfl⟩ := fldOf_some he h5
  obtain ⟨rfl, v', g1, g2⟩ := partV_ok (w := w) he h9 hc
  exact ⟨rfl, fs, fd, v', by rw [hi.run_und, hu], hfd, rfl, g1, g2⟩
theorem stepP_ok {w : World} {r : Inj} {s s' : St} {st : FieldStep} {v : Value} {b : Bool} {p : Nat × Value × Bool} (he : EnvTy E) (h : stepP E st v b s = .some p s') {pl : Place} (hp : PlR r b v pl) (t : Nat) (rest : List FieldStep) :
    s = s' ∧ ∃ pl', (follow (st :: rest) t pl).run E.P w = (follow rest p.1 pl').run E.P w ∧ PlR r p.2.2 p.2.1 pl' := by
  unfold stepP at h
  generalize e : st.deref = dr at h
  match dr, b, h, hp with
  | true, false, h, hp =>
    obtain ⟨a, s1, h1, h2⟩ := bind_some h
    obtain ⟨rfl, rfl⟩ := asA_some h1
    obtain ⟨q, s2, h3, h4⟩ := bind_some h2
    obtain ⟨rfl, rfl⟩ := pure_some h4
    cases pl with
    | var a' => exact hp.elim
    | val v' =>
      obtain ⟨a2, rfl, ha2⟩ := VR.ptr_inv hp
      obtain ⟨rfl, fs, fd, a3, g1, g2, g3, g4, g5⟩ := fieldA_ok (w := w) he h3 ha2
      refine ⟨rfl, .var a3, ?_, g5⟩
      show (follow (st :: rest) t _).run E.P w = (follow rest q.1 _).run E.P w
      rw [g3]
      simp [follow, g1, g2, e, Place.get, asAddr, g4]
  | false, true, h, hp =>
    obtain ⟨a, s1, h1, h2⟩ := bind_some h
    obtain ⟨rfl, rfl⟩ := asA_some h1
    obtain ⟨q, s2, h3, h4⟩ := bind_some h2
    obtain ⟨rfl, rfl⟩ := pure_some h4
    cases pl with
    | val v' => exact hp.elim
    | var a2 =>
      obtain ⟨a', q1, ha2⟩ := hp
      cases q1
      obtain ⟨rfl, fs, fd, a3, g1, g2, g3, g4, g5⟩ := fieldA_ok (w := w) he h3 ha2
      refine ⟨rfl, .var a3, ?_, g5⟩
      show (follow (st :: rest) t _).run E.P w = (follow rest q.1 _).run E.P w
      rw [g3]
      simp [follow, g1, g2, e, g4]
  | false, false, h, hp =>
    obtain ⟨cs, s1, h1, h2⟩ := bind_some h
    obtain ⟨⟨c, rfl, rfl⟩, rfl⟩ := asCs_some h1
    obtain ⟨q, s2, h3, h4⟩ := bind_some h2
    obtain ⟨rfl, rfl⟩ := pure_some h4
    cases pl with
    | var a' => exact hp.elim
    | val v' =>
      obtain ⟨c', rfl, hc⟩ := VR.agg_inv hp
      obtain ⟨rfl, fs, fd, v2, g1, g2, g3, g4, g5⟩ := fieldV_ok (w := w) he h3 hc
      refine ⟨rfl, .val v2, ?_, g5⟩
      show (follow (st :: rest) t _).run E.P w = (follow rest q.1 _).run E.P w
      rw [g3]
      simp [follow, g1, g2, e, g4]
  | true, true, h, hp => cases h
theorem walkP_ok {w : World} {r : Inj} (he : EnvTy E) : ∀ {l : List FieldStep} {t : Nat} {v : Value} {b : Bool} {pl : Place} {s s' : St} {p : Nat × Value × Bool}, walkP E l t v b s = .some p s' → PlR r b v pl →
    s = s' ∧ ∃ pl', (follow l t pl).run E.P w = .ok (p.1, pl') w ∧ PlR r p.2.2 p.2.1 pl'
  | [], t, v, b, pl, s, s', p, h, hp => by
    obtain ⟨rfl, rfl⟩ := pure_some (show M.pure (t, v, b) s = .some p s' from h)
    exact ⟨rfl, pl, by simp [follow], hp⟩
  | st :: l, t, v, b, pl, s, s', p, h, hp => by
    obtain ⟨q, s1, h1, h2⟩ := bind_some (show M.bind (stepP E st v b) (fun p => walkP E l p.1 p.2.1 p.2.2) s = .some p s' from h)
    obtain ⟨rfl, pl1, g1, g2⟩ := stepP_ok (w := w) he h1 hp t l
    obtain ⟨rfl, pl2, g3, g4⟩ := walkP_ok (w := w) he h2 g2
    exact ⟨rfl, pl2, by rw [g1, g3], g4⟩
theorem methodA_ok {w : World} {r : Inj} (he : EnvTy E) {t n : Nat} {v v' : Value} {name : String} {s s' : St} {p : Nat × Value} (h : methodA E t v name s = .some p s') (hv : VR r v v') :
    s = s' ∧ ∃ x, (method (n + 1) t v' name).run E.P w = .ok (p.1, x) w ∧ VR r p.2 x := by
  obtain ⟨m, h1, h⟩ := on_some h
  obtain ⟨fp, h2, h⟩ := on_some h
  obtain ⟨q, s1, h3, h⟩ := bind_some h
  obtain ⟨i, s2, h4, h⟩ := bind_some h
  obtain ⟨hi, rfl⟩ := ti_some h4 he
  obtain ⟨h5, h6⟩ := chk_some h
  obtain ⟨rfl, rfl⟩ := pure_some h6
  obtain ⟨rfl, pl, g1, g2⟩ := walkP_ok (w := w) (r := r) he h3 (pl := .val v') hv
  obtain ⟨info, h7, h8⟩ := onO_some (show onO (E.P.info? t) (fun i => i.methods.toList.find? fun m => m.name == name) = some m from h1)
  have h9 : info.methods.find? (fun m => m.name == name) = some m := by rw [← Array.find?_toList]; exact h8
  obtain ⟨f, pr⟩ := fp
  have key : ∃ x, (∀ wr, (receiverAt q.1 pl pr wr).run E.P w = .ok x w) ∧ VR r q.2.1 x := by
    have hu := hi.run_und (w := w)
    generalize i.u = u at h5 hu
    obtain ⟨q1, q2, q3⟩ := q
    simp only at h5 hu g2 ⊢
    unfold recvOk at h5
    split at h5
    · rename_i e
      rw [Bool.and_eq_true, Bool.not_eq_true'] at h5
      obtain ⟨h5a, h6a⟩ := h5
      subst h5a
      subst h6a
      cases pl with
      | var a => exact g2.elim
      | val x => exact ⟨x, fun wr => by simp [receiverAt, hu, Place.get], g2⟩
    · rename_i hne
      have h5' := eq_of_beq h5
      subst h5'
      have hne2 : ∀ e, u ≠ .pointer e := fun e he => hne e he
      cases pr with
      | true =>
        cases pl with
        | val x => exact g2.elim
        | var a =>
          obtain ⟨a1, rfl, ha⟩ := g2
          refine ⟨.pointer (some a), ?_, ha.ptr⟩
          intro wr
          cases u <;> first | exact absurd rfl (hne2 _) | simp [receiverAt, hu]
      | false =>
        cases pl with
        | var a => exact g2.elim
        | val x =>
          refine ⟨x, ?_, g2⟩
          intro wr
          cases u <;> first | exact absurd rfl (hne2 _) | simp [receiverAt, hu, Place.get]
  obtain ⟨x, k1, k2⟩ := key
  refine ⟨rfl, x, ?_, k2⟩
  have hti : (typeInfo t).run E.P w = .ok info w := by simp [typeInfo, program, Sem.run, h7]
  simp [method, hti, h9, g1, h2, k1]
theorem op_invoke (he : EnvTy E) {x : Operand} {name : String} {c : Call} (ho : o.op = .call c) (hc : c.callee = .invoke x name) : OpS E o (withI E ds x name c.args.toList) ds := by
  obtain ⟨g, h1, h2⟩ := compO_ok ds x
  obtain ⟨g', h3, h4⟩ := compL_ok ds c.args.toList
  refine ⟨fun call round rho tm => M.on (g rho tm) fun f => M.on (g' rho tm) fun l => callI E call name f l, by unfold withI; simp only [h1, h3], ?_, ?_⟩
  · intro call round hc1 hc2 rho tm
    refine lo_on _ fun f => lo_on _ fun l => ?_
    unfold callI
    split
    · exact lo_bind (lo_methodA _ _ _) fun p => hc1.loc _ _
    · exact lo_fail
  · intro call round hc1 hc2 w0 w r U rho tm b t dfs cs base s out s' hs hu hr hx hb hf e ops i rest k hoi hw
    have on' : ∀ {α β : Type} {y : Option α} {f : α → M β} {o : Out β} {s s' : St}, M.on y f s = rOf o s' → ∃ a, y = some a ∧ f a s = rOf o s' := by
      intro α β y f o s s' h
      cases y with
      | none => exact (rOf_none h).elim
      | some a => exact ⟨a, rfl, h⟩
    obtain ⟨fv, e1, e⟩ := on' e
    obtain ⟨l, e2, e⟩ := on' e
    have hfv := h2 _ _ _ _ ⟨t, dfs⟩ _ hs (fun t q => hu t (by simp [ho, Op.operands, Call.operands, hc] at q ⊢; simp [q])) e1
    have hl : VRs r l (c.args.toList.map (Act.eval ⟨t, dfs⟩)) := h4 _ _ _ _ ⟨t, dfs⟩ _ hs (fun t q => hu t (by simp [ho, Op.operands, Call.operands] at q ⊢; simp [q])) e2
    have hmap : c.args.map (Act.eval ⟨t, dfs⟩) = (c.args.toList.map (Act.eval ⟨t, dfs⟩)).toArray := by rw [← List.map_toArray]
    have hd : ∀ c, o.op ≠ .defer c := by rw [ho]; intro c h; cases h
    unfold callI at e
    split at e
    · rename_i ty v _
      have hbind : ∃ p s1, methodA E ty v name s = .some p s1 ∧ call p.1 (p.2 :: l) s1 = rOf out s' := by
        have e' : (match methodA E ty v name s with | .none => R.none | .some p s1 => call p.1 (p.2 :: l) s1 | .pan c s1 => .pan c s1) = rOf out s' := by
          rw [← e]
          unfold M.bind
          cases methodA E ty v name s <;> rfl
        cases e3 : methodA E ty v name s with
        | none => rw [e3] at e'; exact (rOf_none e').elim
        | some p s1 => rw [e3] at e'; exact ⟨p, s1, rfl, e'⟩
        | pan c s1 => exact ((np_methodA _ _ _).no _ _ _ e3).elim
      obtain ⟨p, s1, e3, e4⟩ := hbind
      have inv : ∀ {z : Value}, VR r (.iface ty v) z → ∃ v', z = .iface ty v' ∧ VR r v v' := by
        intro z hz
        cases hz with
        | iface h => exact ⟨_, rfl, h⟩
      obtain ⟨v', hrecv, hv⟩ := inv hfv
      · skip
        have hfuel : ∀ z : Nat, z + Made.depth = (z + 99) + 1 := fun z => rfl
        obtain ⟨rfl, rv, m1, m2⟩ := methodA_ok (w := w) (n := E.P.types.size + 99) he e3 hv
        have hm : ∀ (args : Array Value), (callMethod (.iface ty v') name args).run E.P w = (callFunc p.1 (#[rv] ++ args)).run E.P w := by
          intro args
          unfold callMethod
          simp only [Sem.run_bind, run_program, Result.andThen_ok]
          rw [hfuel, m1]
          simp only [Result.andThen_ok]
        have e1 : (#[rv] ++ c.args.map (Act.eval ⟨t, dfs⟩)) = (rv :: c.args.toList.map (Act.eval ⟨t, dfs⟩)).toArray := by
          rw [hmap]; simp
        have hexec : (execOp (Act.eval ⟨t, dfs⟩) o).run E.P w = (callFunc p.1 (rv :: c.args.toList.map (Act.eval ⟨t, dfs⟩)).toArray).run E.P w := by
          rw [← e1, ← hm]
          simp only [execOp, ho, resolve, hc, hrecv]
          have hz : ∀ (y : Value) (l : Array Value), (#[y] ++ l)[0]? = some y := fun y l => (Array.getElem?_append_left (by simp)).trans rfl
          have hz2 : ∀ (y : Value) (l : Array Value), (#[y] ++ l).extract 1 (#[y] ++ l).size = l := fun y l => by
            simp [Array.extract_append]
          simp only [invoke, Sem.run_bind, Sem.run_pure, Result.andThen_ok, hz, hz2]
        rcases hc1.ok e4 hr hb hf (args' := rv :: c.args.toList.map (Act.eval ⟨t, dfs⟩)) (.cons m2 hl) with ⟨k1, k2⟩ | ⟨_, v, v', w', r', rfl, g1, g2, g3, g4, g5⟩
        case inr =>
          refine ⟨w', r', dfs, cs, g2, by rw [g4]; exact hx.mono g2.le, g3, v', g1, .one (step_lone_go ?_)⟩
          rw [stepG_frm hoi hw (.inr hd), ← frm_finish b t dfs hoi]
          rw [g5] at hexec
          simp [stepG.apply, hexec]
        obtain ⟨w', r', g1, g2, g3, g4⟩ := k2 (frm b t dfs (.inRegion ops (i :: rest) :: k)) cs
        have henter : step E.P (lone (frm b t dfs (.inRegion ops (i :: rest) :: k)) cs w) =
            .next (lone (Frame.enter E.P p.1 (rv :: c.args.toList.map (Act.eval ⟨t, dfs⟩)).toArray .normal) (frm b t dfs (.inRegion ops (i :: rest) :: k) :: cs) w) := by
          refine step_lone_go ?_
          rw [stepG_frm hoi hw (.inr hd)]
          rw [k1] at hexec
          simp [stepG.apply, hexec, frm]
        refine ⟨w', r', dfs, cs, g1, by rw [g3]; exact hx.mono g1.le, g2, ?_⟩
        unfold Ends at g4
        cases out with
        | inl v =>
          obtain ⟨v', p1, p2⟩ := g4
          rw [frm_finish b t dfs hoi] at p2
          exact ⟨v', p1, .head henter p2⟩
        | inr ch =>
          obtain ⟨ch', p1, p2⟩ := g4
          exact ⟨ch', _, p1, .head henter p2⟩
    · exact (rOf_none e).elim
end
end Go.Proofs.YtkgncjlgmnbfoaaGreatDoor.Am
