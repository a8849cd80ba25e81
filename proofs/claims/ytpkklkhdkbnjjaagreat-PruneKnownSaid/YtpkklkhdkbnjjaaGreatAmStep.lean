/- The machine's frames beside the evaluator's: contexts, panics, calls; one operation's steps. -/
import Derived.Test.YtpkklkhdkbnjjaaGreatAmOp3
import Derived.Test.YtpkklkhdkbnjjaaGreatAmLoc
import Derived.Recover
namespace Go.Proofs.YtpkklkhdkbnjjaaGreat.Am
open Go.RowKit

/-! ### Panics, deferred calls, what belongs to a frame -/
inductive ChR (r : Inj) : List PanicEntry → List PanicEntry → Prop
  | nil : ChR r [] []
  | cons {e e' : PanicEntry} {l l' : List PanicEntry} : VR r e.v e'.v → e'.recovered = e.recovered → e'.goexit = e.goexit → ChR r l l' → ChR r (e :: l) (e' :: l')
theorem ChR.mono {r r' : Inj} (h : r.le r') {l l' : List PanicEntry} (k : ChR r l l') : ChR r' l l' := by
  induction k with
  | nil => exact .nil
  | cons a b c _ ih => exact .cons (a.mono h) b c ih
theorem ChR.append {r : Inj} {a a' b b' : List PanicEntry} (h : ChR r a a') (k : ChR r b b') : ChR r (a ++ b) (a' ++ b') := by
  induction h with
  | nil => exact k
  | cons x y z _ ih => exact .cons x y z ih
inductive MoR (r : Inj) : FrameMode → FrameMode → Prop
  | run : MoR r .run .run
  | ret : MoR r .returning .returning
  | pan {c c' : List PanicEntry} : ChR r c c' → MoR r (.panicking c) (.panicking c')
theorem MoR.mono {r r' : Inj} (h : r.le r') {m m' : FrameMode} (k : MoR r m m') : MoR r' m m' := by
  cases k with
  | run => exact .run
  | ret => exact .ret
  | pan c => exact .pan (c.mono h)
inductive DfR (r : Inj) : Deferred → Deferred → Prop
  | fn {f f' : Fn} {c c' a a' : Array Value} : FnR r f f' → VRs r c.toList c'.toList → VRs r a.toList a'.toList → DfR r ⟨.fn f c, a⟩ ⟨.fn f' c', a'⟩
  | coll {b b' d : Nat} : r.blk b = some (b', d) → DfR r ⟨.collected b, #[]⟩ ⟨.collected b', #[]⟩
theorem DfR.mono {r r' : Inj} (h : r.le r') {m m' : Deferred} (k : DfR r m m') : DfR r' m m' := by
  cases k with
  | fn a b c => exact .fn (a.mono h) (b.mono h) (c.mono h)
  | coll a => exact .coll (h.1 _ _ a)
inductive DfsR (r : Inj) : List Deferred → List Deferred → Prop
  | nil : DfsR r [] []
  | cons {e e' : Deferred} {l l' : List Deferred} : DfR r e e' → DfsR r l l' → DfsR r (e :: l) (e' :: l')
theorem DfsR.mono {r r' : Inj} (h : r.le r') {l l' : List Deferred} (k : DfsR r l l') : DfsR r' l l' := by
  induction k with
  | nil => exact .nil
  | cons a _ ih => exact .cons (a.mono h) ih
/-- What a frame has deferred and who called it, against the context: 'base' has both as they were when the frame began (or when the context was shut). -/
def CxR (r : Inj) (base : List Deferred × List Frame) (cx : Ctx) (b : Frame) (dfs : List Deferred) (cs : List Frame) : Prop :=
  match cx with
  | .no => dfs = base.1 ∧ cs = base.2
  | .cx up d =>
    (match up with
     | none => b.kind = .normal ∧ cs = base.2
     | some m => b.kind = .deferred ∧ ∃ c rest m', base.2 = c :: rest ∧ cs = { c with mode := m' } :: rest ∧ MoR r m m') ∧
    (match d with
     | none => b.roundOf ≠ none ∧ dfs = []
     | some l => b.roundOf = none ∧ DfsR r l dfs)
theorem CxR.mono {r r' : Inj} (h : r.le r') {base : List Deferred × List Frame} {cx : Ctx} {b : Frame} {dfs : List Deferred} {cs : List Frame} (k : CxR r base cx b dfs cs) : CxR r' base cx b dfs cs := by
  unfold CxR at *
  cases cx with
  | no => exact k
  | cx up d =>
    obtain ⟨k1, k2⟩ := k
    constructor
    · cases up with
      | none => exact k1
      | some m => obtain ⟨q1, c, rest, m', q2, q3, q4⟩ := k1; exact ⟨q1, c, rest, m', q2, q3, q4.mono h⟩
    · cases d with
      | none => exact k2
      | some l => exact ⟨k2.1, k2.2.mono h⟩

/-! ### Frames in the midst of their work -/
def frm (b : Frame) (t : Array Value) (d : List Deferred) (todo : List Item) : Frame := { fn := b.fn, tmps := t, todo, defers := d, mode := .run, kind := b.kind, roundOf := b.roundOf }
def putT (t : Array Value) (dst : Option Nat) (v : Value) : Array Value :=
  match dst with
  | some d => t.setIfInBounds d v
  | none => t
theorem frm_eval (b : Frame) (t : Array Value) (d : List Deferred) (todo : List Item) : (frm b t d todo).eval = Act.eval ⟨t, d⟩ := funext fun x => by cases x <;> rfl
theorem frm_finish (b : Frame) (t : Array Value) (d : List Deferred) {ops : Array Oper} {i : Nat} {o : Oper} (ho : ops[i]? = some o) (rest : List Nat) (k : List Item) (v : Value) :
    (frm b t d (.inRegion ops (i :: rest) :: k)).finish v = frm b (putT t o.dst v) d (.inRegion ops rest :: k) := by
  cases h : o.dst <;> simp [Frame.finish, frm, putT, ho, h]
section
variable {P : Program} {b : Frame} {t : Array Value} {d : List Deferred} {k : List Item} {cs : List Frame} {w : World} {ops : Array Oper}
theorem stepG_frm {i : Nat} {rest : List Nat} {o : Oper} (ho : ops[i]? = some o) (hw : Region.wanted o (yielded ops t) = true) (hd : b.roundOf = none ∨ ∀ c, o.op ≠ .defer c) :
    stepG P true { frame := frm b t d (.inRegion ops (i :: rest) :: k), callers := cs, status := .running, dying := none } w =
      stepG.apply P true (frm b t d (.inRegion ops (i :: rest) :: k)) cs none (execOp (Act.eval ⟨t, d⟩) o) w := by
  have he := frm_eval b t d (.inRegion ops (i :: rest) :: k)
  have e1 : stepG P true { frame := frm b t d (.inRegion ops (i :: rest) :: k), callers := cs, status := .running, dying := none } w =
      stepG.oper P true (frm b t d (.inRegion ops (i :: rest) :: k)) cs none w := by
    simp [stepG, stepG.exec, frm, ho, hw]
  rw [e1]
  have e2 : (frm b t d (.inRegion ops (i :: rest) :: k)).oper? = some o := ho
  unfold stepG.oper
  simp only [e2, he]
  split
  · rename_i l c h1 h2
    rcases hd with hd | hd
    · rw [show (frm b t d (.inRegion ops (i :: rest) :: k)).roundOf = b.roundOf from rfl, hd] at h1
      cases h1
    · exact absurd h2 (hd c)
  · rfl
theorem step_region_frm {id : Nat} : step P (lone (frm b t d (.code (.region id ops false) :: k)) cs w) = .next (lone (frm b t d (.inRegion ops (List.range ops.size) :: k)) cs w) :=
  step_lone_go (by simp [stepG, stepG.exec, frm])
theorem step_region_draw_frm {id : Nat} :
    step P (lone (frm b t d (.code (.region id ops true) :: k)) cs w) =
      .next (lone (frm b t d (.inRegion ops (Region.schedule (P.follows .mixedOrders) ops (w.tape w.drawn (.order b.fn id))) :: k)) cs { w with drawn := w.drawn + 1 }) :=
  step_lone_go (by simp [stepG, stepG.exec, frm, choose, Sem.run, Question.forced, Question.cut])
theorem step_region_end_frm : step P (lone (frm b t d (.inRegion ops [] :: k)) cs w) = .next (lone (frm b t d k) cs w) :=
  step_lone_go (by simp [stepG, stepG.exec, frm])
theorem step_op_skip_frm {i : Nat} {o : Oper} {rest : List Nat} (ho : ops[i]? = some o) (h : Region.wanted o (yielded ops t) = false) :
    step P (lone (frm b t d (.inRegion ops (i :: rest) :: k)) cs w) = .next (lone (frm b (putT t o.dst undef) d (.inRegion ops rest :: k)) cs w) := by
  rw [← frm_finish b t d ho]
  exact step_lone_go (by simp [stepG, stepG.exec, frm, ho, h])
end

/-! ### Calls -/
/-- What comes of a call, for whoever called. -/
def Ends (P : Program) (r : Inj) (out : Out Value) (m : Machine) (c : Frame) (cs : List Frame) (w' : World) : Prop :=
  match out with
  | .inl v => ∃ v', VR r v v' ∧ Steps P m (lone (c.finish v') cs w')
  | .inr ch => ∃ ch', ChR r ch ch' ∧ Steps P m (lone (c.raise ch') cs w')
/-- A call that is answered at once: of a function without a body. -/
def AtOnce (P : Program) (w0 w : World) (r : Inj) (s : St) (f : Nat) (args' : List Value) (out : Out Value) (s' : St) : Prop :=
  ∃ v v' w' r', out = .inl v ∧ VR r' v v' ∧ Goes w0 r s s' r' w' ∧ s'.lim = s.lim ∧ s'.cx = s.cx ∧ (callFunc f args'.toArray).run P w = .ok (.value v') w'
structure CallOK (E : Env) (call : CallT) : Prop where
  loc : ∀ f args, Loc (call f args)
  ok : ∀ {w0 w : World} {r : Inj} {f : Nat} {args args' : List Value} {s : St} {out : Out Value} {s' : St}, call f args s = rOf out s' → Rel w0 r s.mem w → Bnd s → Fresh r s.next s'.next → VRs r args args' →
    ((∀ w, (callFunc f args'.toArray).run E.P w = .ok (.enter f args'.toArray) w) ∧
    ∀ c cs, ∃ w' r', Goes w0 r s s' r' w' ∧ s'.lim = s.lim ∧ s'.cx = s.cx ∧ Ends E.P r' out (lone (Frame.enter E.P f args'.toArray .normal) (c :: cs) w) c cs w') ∨
    (E.ext.get f ≠ none ∧ AtOnce E.P w0 w r s f args' out s')
structure RoundOK (E : Env) (round : CallT) : Prop where
  loc : ∀ l args, Loc (round l args)
  ok : ∀ {w0 w : World} {r : Inj} {l l' d : Nat} {args args' : List Value} {s : St} {out : Out Value} {s' : St}, round l args s = rOf out s' → Rel w0 r s.mem w → Bnd s → Fresh r s.next s'.next → VRs r args args' → r.blk l = some (l', d) →
    ∃ f tm as bd, (Instr.yield l' args'.toArray).run E.P w = .ok (.round l' f tm as bd) w ∧
    ∀ c cs, ∃ w' r', Goes w0 r s s' r' w' ∧ s'.lim = s.lim ∧ s'.cx = s.cx ∧ Ends E.P r' out (lone (Frame.round l' f tm as bd .normal) (c :: cs) w) c cs w'

/-! ### One operation -/
/-- What comes of an operation, in its frame. -/
def OpEnds (P : Program) (r : Inj) (out : Out Value) (m : Machine) (b : Frame) (t : Array Value) (dfs : List Deferred) (ops : Array Oper) (o : Oper) (rest : List Nat) (k : List Item) (cs : List Frame) (w' : World) : Prop :=
  match out with
  | .inl v => ∃ v', VR r v v' ∧ Steps P m (lone (frm b (putT t o.dst v') dfs (.inRegion ops rest :: k)) cs w')
  | .inr ch => ∃ ch' td, ChR r ch ch' ∧ Steps P m (lone { frm b t dfs td with mode := .panicking ch' } cs w')
def OpS (E : Env) (o : Oper) (c : Cl OpT) (ds : List Nat) : Prop :=
  ∃ f, c = .mk f ∧ (∀ call round, CallOK E call → RoundOK E round → ∀ rho tm, Loc (f call round rho tm)) ∧
    ∀ call round, CallOK E call → RoundOK E round → ∀ (w0 w : World) (r : Inj) (U : Nat → Prop) rho tm (b : Frame) (t : Array Value) (dfs : List Deferred) (cs : List Frame) (base : List Deferred × List Frame) (s : St) (out : Out Value) (s' : St),
      SlR r U ds rho tm t → (∀ t, Operand.tmp t ∈ o.op.operands.toList → U t) → Rel w0 r s.mem w → CxR r base s.cx b dfs cs → Bnd s → Fresh r s.next s'.next → f call round rho tm s = rOf out s' →
      ∀ (ops : Array Oper) i rest k, ops[i]? = some o → Region.wanted o (yielded ops t) = true →
        ∃ w' r' dfs' cs', Goes w0 r s s' r' w' ∧ CxR r' base s'.cx b dfs' cs' ∧ s'.lim = s.lim ∧
          OpEnds E.P r' out (lone (frm b t dfs (.inRegion ops (i :: rest) :: k)) cs w) b t dfs' ops o rest k cs' w'

theorem OpS.ofV {E : Env} {o : Oper} {c : Cl OpT} {ds : List Nat} (h : OpV E o c ds) (hd : ∀ c, o.op ≠ .defer c) (hl : ∀ f, c = .mk f → ∀ call round rho tm, Loc (f call round rho tm)) : OpS E o c ds := by
  obtain ⟨f, h1, h2, h3⟩ := h
  refine ⟨f, h1, fun call round _ _ => hl f h1 call round, ?_⟩
  intro call round hc hro w0 w r U rho tm b t dfs cs base s out s' hs hu hr hx hb hf e ops i rest k ho hw
  cases out with
  | inr ch => exact ((h2 call round rho tm).no _ _ _ e).elim
  | inl v =>
    obtain ⟨v', w', r', k1, k2, k3, k4, k5⟩ := h3 call round w0 w r U rho tm ⟨t, dfs⟩ s v s' hs hu hr e hf
    refine ⟨w', r', dfs, cs, k2, by rw [k5]; exact hx.mono k2.le, k4, v', k3, .one (step_lone_go ?_)⟩
    rw [stepG_frm ho hw (.inr hd), ← frm_finish b t dfs ho]
    rcases k1 with k1 | ⟨k1, rfl⟩ <;> simp [stepG.apply, k1]
theorem frm_raise (b : Frame) (t : Array Value) (d : List Deferred) (td : List Item) (ch : List PanicEntry) : (frm b t d td).raise ch = { frm b t d td with mode := .panicking ch } := rfl
theorem frm_kind (b : Frame) (t : Array Value) (d : List Deferred) (ops : Array Oper) (l : List Nat) (k : List Item) :
    (match (frm b t d (.inRegion ops l :: k)).todo with | .call _ true _ _ :: _ => CallKind.wrapped | _ => .normal) = .normal := rfl

section
variable {E : Env} {ds : List Nat} {o : Oper}
theorem VR.func_inv {r : Inj} {f : Fn} {a c : Array Value} {v' : Value} (h : VR r (.func f a c) v') : ∃ f' a' c', v' = .func f' a' c' ∧ FnR r f f' ∧ VRs r a.toList a'.toList ∧ VRs r c.toList c'.toList := by
  cases h with
  | func h1 h2 h3 h4 h5 => exact ⟨_, _, _, rfl, h1, VRs.ofArr h2 h3, VRs.ofArr h4 h5⟩
theorem resolve_value (ρ : Operand → Value) {c : Call} {ty : TypeId} {x : Operand} {f : Fn} {a cap : Array Value} (hc : c.callee = .value x) (hx : ρ x = .func f a cap) :
    resolve ρ c ty = pure { target := .fn f cap, args := a ++ c.args.map ρ } := by
  unfold resolve
  simp only [hc, hx, Deferred.ofValue]
theorem op_call {x : Operand} {c : Call} (ho : o.op = .call c) (hc : c.callee = .value x) : OpS E o (withC ds x c.args.toList) ds := by
  obtain ⟨g, h1, h2⟩ := compO_ok ds x
  obtain ⟨g', h3, h4⟩ := compL_ok ds c.args.toList
  refine ⟨fun call round rho tm => M.on (g rho tm) fun f => M.on (g' rho tm) fun l => callV call round f l, by unfold withC; simp only [h1, h3], ?_, ?_⟩
  · intro call round hc1 hc2 rho tm
    refine lo_on _ fun f => lo_on _ fun l => ?_
    unfold callV
    split
    · exact hc1.loc _ _
    · exact lo_chk _ (hc2.loc _ _)
    · exact lo_fail
  · intro call round hc1 hc2 w0 w r U rho tm b t dfs cs base s out s' hs hu hr hx hb hf e ops i rest k hoi hw
    have on' : ∀ {α β : Type} {y : Option α} {f : α → M β} {o : Out β} {s s' : St}, M.on y f s = rOf o s' → ∃ a, y = some a ∧ f a s = rOf o s' := by
      intro α β y f o s s' h
      cases y with
      | none => exact (rOf_none h).elim
      | some a => exact ⟨a, rfl, h⟩
    obtain ⟨fv, e1, e⟩ := on' e
    obtain ⟨l, e2, e⟩ := on' e
    have hfv := h2 _ _ _ _ ⟨t, dfs⟩ _ hs (fun t q => hu t (by simp [ho, Op.operands, Call.operands, hc] at q ⊢; simp [q])) e1
    have hl : VRs r l (c.args.toList.map (Act.eval ⟨t, dfs⟩)) := h4 _ _ _ _ ⟨t, dfs⟩ _ hs (fun t q => hu t (by simp [ho, Op.operands, Call.operands] at q ⊢; simp [q])) e2
    have hmap : c.args.map (Act.eval ⟨t, dfs⟩) = (c.args.toList.map (Act.eval ⟨t, dfs⟩)).toArray := by rw [← List.map_toArray]
    have hd : ∀ c, o.op ≠ .defer c := by rw [ho]; intro c h; cases h
    unfold callV at e
    split at e
    · rename_i f first cap _
      obtain ⟨f', a', c', q1, q2, q3, q4⟩ := hfv.func_inv
      cases f' with
      | func f' =>
        simp only [FnR] at q2
        subst q2
        have e1 : (a' ++ c.args.map (Act.eval ⟨t, dfs⟩) ++ c') = (a'.toList ++ (c.args.toList.map (Act.eval ⟨t, dfs⟩) ++ c'.toList)).toArray := by
          rw [hmap]; simp
        rcases hc1.ok e hr hb hf (args' := a'.toList ++ (c.args.toList.map (Act.eval ⟨t, dfs⟩) ++ c'.toList)) (q3.append (hl.append q4)) with ⟨k1, k2⟩ | ⟨_, v, v', w', r', rfl, g1, g2, g3, g4, g5⟩
        case inr =>
          have hrun : (execOp (Act.eval ⟨t, dfs⟩) o).run E.P w = .ok (.value v') w' := by
            simp only [execOp, ho, resolve_value _ hc q1]
            simp only [invoke, Sem.run_bind, Sem.run_pure, Result.andThen_ok, e1, g5]
          refine ⟨w', r', dfs, cs, g2, by rw [g4]; exact hx.mono g2.le, g3, v', g1, .one (step_lone_go ?_)⟩
          rw [stepG_frm hoi hw (.inr hd), ← frm_finish b t dfs hoi]
          simp [stepG.apply, hrun]
        obtain ⟨w', r', g1, g2, g3, g4⟩ := k2 (frm b t dfs (.inRegion ops (i :: rest) :: k)) cs
        have henter : step E.P (lone (frm b t dfs (.inRegion ops (i :: rest) :: k)) cs w) =
            .next (lone (Frame.enter E.P f (a'.toList ++ (c.args.toList.map (Act.eval ⟨t, dfs⟩) ++ c'.toList)).toArray .normal) (frm b t dfs (.inRegion ops (i :: rest) :: k) :: cs) w) := by
          refine step_lone_go ?_
          rw [stepG_frm hoi hw (.inr hd)]
          have hrun : (execOp (Act.eval ⟨t, dfs⟩) o).run E.P w = .ok (.enter f (a'.toList ++ (c.args.toList.map (Act.eval ⟨t, dfs⟩) ++ c'.toList)).toArray) w := by
            simp only [execOp, ho, resolve_value _ hc q1]
            simp only [invoke, Sem.run_bind, Sem.run_pure, Result.andThen_ok, e1, k1]
          simp [stepG.apply, hrun, frm]
        refine ⟨w', r', dfs, cs, g1, by rw [g3]; exact hx.mono g1.le, g2, ?_⟩
        unfold Ends at g4
        cases out with
        | inl v =>
          obtain ⟨v', p1, p2⟩ := g4
          rw [frm_finish b t dfs hoi] at p2
          exact ⟨v', p1, .head henter p2⟩
        | inr ch =>
          obtain ⟨ch', p1, p2⟩ := g4
          exact ⟨ch', _, p1, .head henter p2⟩
      | _ => simp only [FnR] at q2
    · rename_i lp first cap _
      obtain ⟨f', a', c', q1, q2, q3, q4⟩ := hfv.func_inv
      cases f' with
      | yield lp' =>
        obtain ⟨dd, q2⟩ := q2
        cases hemp : first.isEmpty with
        | false => rw [hemp] at e; exact (rOf_none e).elim
        | true =>
          rw [hemp] at e
          have e' : round lp l s = rOf out s' := e
          have hfe : first = #[] := by simpa using hemp
          subst hfe
          have ha' : a' = #[] := by have := q3.1; simp at this; simpa using this.symm
          subst ha'
          obtain ⟨fn, tmn, as, bd, k1, k2⟩ := hc2.ok e' hr hb hf hl q2
          obtain ⟨w', r', g1, g2, g3, g4⟩ := k2 (frm b t dfs (.inRegion ops (i :: rest) :: k)) cs
          have henter : step E.P (lone (frm b t dfs (.inRegion ops (i :: rest) :: k)) cs w) =
              .next (lone (Frame.round lp' fn tmn as bd .normal) (frm b t dfs (.inRegion ops (i :: rest) :: k) :: cs) w) := by
            refine step_lone_go ?_
            rw [stepG_frm hoi hw (.inr hd)]
            have hrun : (execOp (Act.eval ⟨t, dfs⟩) o).run E.P w = .ok (.round lp' fn tmn as bd) w := by
              simp only [execOp, ho, resolve_value _ hc q1]
              have e1 : (#[] ++ c.args.map (Act.eval ⟨t, dfs⟩)) = (c.args.toList.map (Act.eval ⟨t, dfs⟩)).toArray := by
                rw [hmap]; simp
              simp only [invoke, Sem.run_bind, Sem.run_pure, Result.andThen_ok, e1, k1]
            simp [stepG.apply, hrun, frm]
          refine ⟨w', r', dfs, cs, g1, by rw [g3]; exact hx.mono g1.le, g2, ?_⟩
          unfold Ends at g4
          cases out with
          | inl v =>
            obtain ⟨v', p1, p2⟩ := g4
            rw [frm_finish b t dfs hoi] at p2
            exact ⟨v', p1, .head henter p2⟩
          | inr ch =>
            obtain ⟨ch', p1, p2⟩ := g4
            exact ⟨ch', _, p1, .head henter p2⟩
      | _ => simp only [FnR] at q2
    · exact (rOf_none e).elim
end
end Go.Proofs.YtpkklkhdkbnjjaaGreat.Am
