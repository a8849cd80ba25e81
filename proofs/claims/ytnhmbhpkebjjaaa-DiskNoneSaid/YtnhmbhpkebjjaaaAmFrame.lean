/- Frames beside the evaluator's: one step in the midst of a body. -/
import Derived.Test.YtnhmbhpkebjjaaaAmDraw2
import Derived.Test.YtnhmbhpkebjjaaaAmObj
namespace Go.Proofs.Ytnhmbhpkebjjaaa.Am
open Go.RowKit

def RoR (r : Inj) : Option Nat → Option Nat → Prop
  | none, none => True
  | some l, some l' => ∃ d, r.blk l = some (l', d)
  | _, _ => False
theorem RoR.mono {r r' : Inj} (h : r.le r') {a b : Option Nat} (k : RoR r a b) : RoR r' a b := by
  cases a <;> cases b <;> simp only [RoR] at k ⊢
  obtain ⟨d, k⟩ := k
  exact ⟨d, h.1 _ _ k⟩
structure FR (P : Program) (r : Inj) (af : AF) (cx : Ctx) (base : List Deferred × List Frame) (fr : Frame) (cs : List Frame) : Prop where
  fn : fr.fn = af.fn
  size : fr.tmps.size = af.n
  tm : TmR r af.glob af.tmps fr.tmps
  todo : af.mode = .run → fr.todo = af.todo
  mode : MoR r af.mode fr.mode
  round : RoR r af.roundOf fr.roundOf
  rk : fr.roundOf ≠ none → fr.kind = .normal
  known : fr.roundOf = none → ∃ fn, P.funcs[fr.fn]? = some fn
  cx : CxR r base cx fr fr.defers cs

/-- A frame at an end of its own: what it hands to the one that called it. -/
def doneF (k : CallKind) (c : Frame) (v : Value) : Frame :=
  match k with
  | .deferred => (match c.mode with
    | .panicking ({ recovered := true, .. } :: older) => (match older.dropWhile (!·.goexit) with
      | [] => { c with mode := .returning }
      | rest => { c with mode := .panicking rest })
    | _ => c)
  | _ => c.finish v
def Kin (fr fr' : Frame) : Prop := (fr'.kind, fr'.roundOf, fr'.fn) = (fr.kind, fr.roundOf, fr.fn)
def FinE (P : Program) (r : Inj) (base : List Deferred × List Frame) (cx' : Ctx) (fr : Frame) (m : Machine) (w' : World) (out : Out (Value × FrameMode)) : Prop :=
  ∃ cs', ((fr.kind = .normal ∧ cs' = base.2) ∨ ∃ u c0 rest m', cx' = .cx (some u) (some []) ∧ fr.kind = .deferred ∧ base.2 = c0 :: rest ∧ cs' = { c0 with mode := m' } :: rest ∧ MoR r u m' ∧ ∀ v up, out = .inl (v, up) → up = u) ∧
    match out with
    | .inl (v, _) => ∃ v', VR r v v' ∧ (∀ c rest, cs' = c :: rest → Steps P m (lone (doneF fr.kind c v') rest w')) ∧ (fr.roundOf = none → fr.kind = .normal → ∃ fr', fr'.fn = fr.fn ∧ fr'.leaving P w' (.returned v') ∧ Steps P m (lone fr' cs' w'))
    | .inr ch => ∃ ch', ChR r ch ch' ∧ ∀ c rest, cs' = c :: rest → Steps P m (lone (c.raise ch') rest w')
/-- What comes of a step. -/
def StepE (P : Program) (r : Inj) (base : List Deferred × List Frame) (cx' : Ctx) (fr : Frame) (m : Machine) (w' : World) (out : Out Step) : Prop :=
  match out with
  | .inl (.go af') => ∃ fr' cs', Kin fr fr' ∧ FR P r af' cx' base fr' cs' ∧ Steps P m (lone fr' cs' w')
  | .inl (.fin v up) => FinE P r base cx' fr m w' (.inl (v, up))
  | .inr ch => FinE P r base cx' fr m w' (.inr ch)
structure EnvOK (E : Env) : Prop where
  ty : EnvTy E
  fn : ∀ f fn, E.fn.get f = some fn → E.P.funcs[f]? = some fn ∧ fn.name ≠ "runtime.NumGoroutine"
  mixed : E.P.follows .mixedOrders = true
  orcLoc : ∀ f m, E.orc.get f = some m → ∀ args, Loc (m args)
  orc : ∀ {f : Nat} {m : List Value → M Value}, E.orc.get f = some m → ∀ {w0 w : World} {r : Inj} {args args' : List Value} {s : St} {out : Out Value} {s' : St}, m args s = rOf out s' → Rel w0 r s.mem w → Bnd s → Fresh r s.next s'.next → VRs r args args' →
    (∀ w, (callFunc f args'.toArray).run E.P w = .ok (.enter f args'.toArray) w) ∧
    ∀ c cs, ∃ w' r', Goes w0 r s s' r' w' ∧ s'.lim = s.lim ∧ s'.cx = s.cx ∧ Ends E.P r' out (lone (Frame.enter E.P f args'.toArray .normal) (c :: cs) w) c cs w'
  extLoc : ∀ f m, E.ext.get f = some m → ∀ args, Loc (m args)
  ext : ∀ {f : Nat} {m : List Value → M Value}, E.ext.get f = some m → ∀ {w0 w : World} {r : Inj} {args args' : List Value} {s : St} {out : Out Value} {s' : St}, m args s = rOf out s' → Rel w0 r s.mem w → VRs r args args' →
    AtOnce E.P w0 w r s f args' out s'

/-! ### The machine's small steps -/
section
variable {P : Program} {b : Frame} {t : Array Value} {d : List Deferred} {k : List Item} {cs : List Frame} {w : World}
theorem sf_skip : step P (lone (frm b t d (.code .skip :: k)) cs w) = .next (lone (frm b t d k) cs w) := step_lone_go (by simp [stepG, stepG.exec, frm])
theorem sf_label {l : Nat} : step P (lone (frm b t d (.code (.label l) :: k)) cs w) = .next (lone (frm b t d k) cs w) := step_lone_go (by simp [stepG, stepG.exec, frm])
theorem sf_inBlock {id : Nat} : step P (lone (frm b t d (.inBlock id :: k)) cs w) = .next (lone (frm b t d k) cs w) := step_lone_go (by simp [stepG, stepG.exec, frm])
theorem sf_inScope {c : Code} : step P (lone (frm b t d (.inScope c :: k)) cs w) = .next (lone (frm b t d k) cs w) := step_lone_go (by simp [stepG, stepG.exec, frm])
theorem sf_seq {x y : Code} : step P (lone (frm b t d (.code (.seq x y) :: k)) cs w) = .next (lone (frm b t d (.code x :: .code y :: k)) cs w) := step_lone_go (by simp [stepG, stepG.exec, frm])
theorem sf_block {id : Nat} {c : Code} : step P (lone (frm b t d (.code (.block id c) :: k)) cs w) = .next (lone (frm b t d (.code c :: .inBlock id :: k)) cs w) := step_lone_go (by simp [stepG, stepG.exec, frm])
theorem sf_loop {c : Code} : step P (lone (frm b t d (.code (.loop c) :: k)) cs w) = .next (lone (frm b t d (.code c :: .inLoop c :: k)) cs w) := step_lone_go (by simp [stepG, stepG.exec, frm])
theorem sf_inLoop {c : Code} : step P (lone (frm b t d (.inLoop c :: k)) cs w) = .next (lone (frm b t d (.code c :: .inLoop c :: k)) cs w) := step_lone_go (by simp [stepG, stepG.exec, frm])
theorem sf_scope {c : Code} : step P (lone (frm b t d (.code (.scope c) :: k)) cs w) = .next (lone (frm b t d (.code c :: .inScope c :: k)) cs w) := step_lone_go (by simp [stepG, stepG.exec, frm])
theorem sf_exit {id : Nat} {k' : List Item} (h : exitTo id k = some k') : step P (lone (frm b t d (.code (.exit id) :: k)) cs w) = .next (lone (frm b t d k') cs w) := step_lone_go (by simp [stepG, stepG.exec, frm, h])
theorem sf_goto {l : Nat} {k' : List Item} (h : gotoIn l k = some k') : step P (lone (frm b t d (.code (.goto l) :: k)) cs w) = .next (lone (frm b t d k') cs w) := step_lone_go (by simp [stepG, stepG.exec, frm, h])
theorem sf_cond {c : Operand} {x y : Code} {tt : Bool} (h : Act.eval ⟨t, d⟩ c = .bool tt) : step P (lone (frm b t d (.code (.cond c x y) :: k)) cs w) = .next (lone (frm b t d (.code (if tt then x else y) :: k)) cs w) :=
  step_lone_go (by
    have := congrFun (frm_eval b t d (.code (.cond c x y) :: k)) c
    rw [h] at this
    simp only [frm] at this
    simp [stepG, stepG.exec, frm, this])
theorem sf_ret (hr : b.roundOf = none) : step P (lone (frm b t d (.code .ret :: k)) cs w) = .next (lone { frm b t d (.code .ret :: k) with mode := .returning } cs w) := step_lone_go (by simp [stepG, stepG.exec, frm, hr])
theorem sf_end (hr : b.roundOf = none) : step P (lone (frm b t d []) cs w) = .next (lone { frm b t d [] with mode := .returning } cs w) := step_lone_go (by simp [stepG, stepG.exec, frm, hr])
theorem skim_ok : ∀ (n : Nat) (l : List Item), Steps P (lone (frm b t d l) cs w) (lone (frm b t d (skim n l)) cs w)
  | 0, l => .refl _ _
  | n + 1, l => by
    unfold skim
    split
    · exact .head sf_skip (skim_ok n _)
    · exact .head sf_label (skim_ok n _)
    · exact .head sf_inBlock (skim_ok n _)
    · exact .head sf_inScope (skim_ok n _)
    · exact .head sf_seq (skim_ok n _)
    · exact .head sf_block (skim_ok n _)
    · exact .head sf_loop (skim_ok n _)
    · exact .head sf_inLoop (skim_ok n _)
    · exact .head sf_scope (skim_ok n _)
    · split
      · exact .head (sf_exit (by assumption)) (skim_ok n _)
      · exact .refl _ _
    · exact .refl _ _
theorem run_getLoop {l : Nat} {L : Loop} (h : w.heap[l]? = some (.loop L)) : (Instr.getLoop l).run P w = .ok L w := by simp [Instr.getLoop, getObj, Sem.run, h]
theorem run_setLoop {l : Nat} {L L2 : Loop} (h : w.heap[l]? = some (.loop L)) : (setObj l (.loop L2)).run P w = .ok () (World.setO w l (.loop L2)) := by simp [setObj, Sem.run, h, World.setO]
/-- How a round is left. -/
theorem sf_leaveRound {l : Nat} {L : Loop} {todo : List Item} {jump : Option Code} (hr : b.roundOf = some l) (hk : b.kind = .normal) (hL : w.heap[l]? = some (.loop L)) {c : Frame} {rest : List Frame}
    (ht : (todo = [] ∧ jump = none) ∨ (∃ k, todo = .code .ret :: k ∧ jump = some .ret) ∨ (∃ id k, todo = .code (.exit id) :: k ∧ exitTo id k = none ∧ jump = some (.exit id)) ∨ (∃ g k, todo = .code (.goto g) :: k ∧ gotoIn g k = none ∧ jump = some (.goto g))) :
    step P (lone (frm b t d todo) (c :: rest) w) = .next (lone (c.finish (.bool jump.isNone)) rest (World.setO w l (.loop { L with state := if jump.isNone then .ready else .done, pending := jump }))) := by
  have hrun : (Instr.endRound l jump).run P w = .ok (.bool jump.isNone) (World.setO w l (.loop { L with state := if jump.isNone then .ready else .done, pending := jump })) := by
    simp only [Instr.endRound, Sem.run_bind, run_getLoop hL, Result.andThen_ok, run_setLoop hL, Sem.run_pure]
  refine step_lone_go ?_
  rcases ht with ⟨rfl, rfl⟩ | ⟨k, rfl, rfl⟩ | ⟨id, k, rfl, e, rfl⟩ | ⟨g, k, rfl, e, rfl⟩ <;> simp_all [stepG, stepG.exec, frm, doReturn]
end

section
variable {E : Env} {call round : CallT} {w0 w : World} {r : Inj} {base : List Deferred × List Frame}
theorem FR.frm {P : Program} {af : AF} {cx : Ctx} {fr : Frame} {cs : List Frame} (h : FR P r af cx base fr cs) (hm : af.mode = .run) : fr = frm fr fr.tmps fr.defers af.todo := by
  have h1 := h.todo hm
  have h2 := h.mode
  rw [hm] at h2
  obtain ⟨a, b, c, d, e, f, g⟩ := fr
  simp only at h1
  cases h2
  rw [h1]
  rfl
/-- Another list of what is to be done. -/
theorem FR.to {P : Program} {af : AF} {cx : Ctx} {fr : Frame} {cs : List Frame} (h : FR P r af cx base fr cs) (k : List Item) : FR P r { af with todo := k, mode := .run } cx base (Am.frm fr fr.tmps fr.defers k) cs :=
  ⟨h.fn, h.size, h.tm, fun _ => rfl, .run, h.round, h.rk, h.known, h.cx⟩
theorem goTo_eq (af : AF) (k : List Item) (s : St) : goTo af k s = .some (.go { af with todo := k }) s := rfl
theorem goMo_eq (af : AF) (m : FrameMode) (tm : T Value) (s : St) : goMo af m tm s = .some (.go { af with mode := m, tmps := tm }) s := rfl
theorem goTm_eq (af : AF) (k : List Item) (tm : T Value) (s : St) : goTm af k tm s = .some (.go { af with todo := k, tmps := tm }) s := rfl
theorem endR_ok {af : AF} {fr : Frame} {cs : List Frame} {s s' : St} {out : Out Step} {l : Nat} {jump : Option Code} (h : endR l jump s = rOf out s') (hF : FR E.P r af s.cx base fr cs) (hm : af.mode = .run) (hr : Rel w0 r s.mem w) (hro : af.roundOf = some l)
    (hcs : cs = base.2) (ht : (af.todo = [] ∧ jump = none) ∨ (∃ k, af.todo = .code .ret :: k ∧ jump = some .ret) ∨ (∃ id k, af.todo = .code (.exit id) :: k ∧ exitTo id k = none ∧ jump = some (.exit id)) ∨ (∃ g k, af.todo = .code (.goto g) :: k ∧ gotoIn g k = none ∧ jump = some (.goto g))) :
    ∃ w' r', Goes w0 r s s' r' w' ∧ s'.lim = s.lim ∧ StepE E.P r' base s'.cx fr (lone fr cs w) w' out := by
  unfold endR at h
  rcases bind_rOf h with ⟨c, s1, e1, e2⟩ | ⟨c, e1, _⟩
  · obtain ⟨q1, q2⟩ := rdC_some e1
    cases c with
    | C a b => exact (rOf_none e2).elim
    | O o =>
      cases o with
      | loop st pe f n g tm ps as bd df =>
        rcases bind_rOf e2 with ⟨u, s2, e3, e4⟩ | ⟨c, e3, _⟩
        · obtain ⟨rfl, rfl⟩ := rOf_inl (show R.some (Step.fin (.bool jump.isNone) .run) s2 = rOf out s' from e4)
          obtain ⟨b', d, o', g1, g2, g3⟩ := hr.obj _ _ q1 rfl
          have hro2 := hF.round
          rw [hro] at hro2
          cases hfr : fr.roundOf with
          | none => rw [hfr] at hro2; exact hro2.elim
          | some l' =>
            rw [hfr] at hro2
            obtain ⟨d', hro2⟩ := hro2
            rw [g1] at hro2
            cases hro2
            cases o' with
            | loop L =>
              obtain ⟨k1, k2, k3, k4, k5, k6, k7, k8, k9⟩ := g3
              have hOR : OR r (.loop (if jump.isNone then .ready else .done) jump f n g tm ps as bd df) (.loop { L with state := if jump.isNone then .ready else .done, pending := jump }) := ⟨rfl, rfl, k3, k4, k5, k6, k7, k8, k9⟩
              obtain ⟨p1, p2, p3⟩ := wrO_ok e3 (by rw [q2.1]; exact hr) (by rw [q2.1]; exact q1) rfl g1 hOR rfl
              refine ⟨_, r, (Goes.same q2 hr).trans p1, p2.trans q2.2.2.1, ?_⟩
              have hkind := hF.rk (by rw [hfr]; simp)
              refine ⟨cs, .inl ⟨hkind, hcs⟩, .bool jump.isNone, .bool _, ?_, fun e => by rw [hfr] at e; cases e⟩
              intro c rest hc
              subst hc
              rw [hkind, hF.frm hm]
              exact .one (sf_leaveRound hfr hkind g2 ht)
            | _ => exact g3.elim
        · exact ((np_wrC _ _).no _ _ _ e3).elim
      | _ => exact (rOf_none e2).elim
  · exact ((np_rdC _).no _ _ _ e1).elim
theorem leaveF_ok {af : AF} {fr : Frame} {cs : List Frame} {s s' : St} {out : Out Step} {jump : Option Code} (h : leaveF af jump s = rOf out s') (hF : FR E.P r af s.cx base fr cs) (hm : af.mode = .run) (hr : Rel w0 r s.mem w) (hcs : af.roundOf ≠ none → cs = base.2)
    (ht : (af.todo = [] ∧ jump = none) ∨ (∃ k, af.todo = .code .ret :: k ∧ jump = some .ret) ∨ (∃ id k, af.todo = .code (.exit id) :: k ∧ exitTo id k = none ∧ jump = some (.exit id)) ∨ (∃ g k, af.todo = .code (.goto g) :: k ∧ gotoIn g k = none ∧ jump = some (.goto g))) :
    ∃ w' r', Goes w0 r s s' r' w' ∧ s'.lim = s.lim ∧ StepE E.P r' base s'.cx fr (lone fr cs w) w' out := by
  have h0 : leaveF af jump = Option.rec (motive := fun _ => M Step) (M.chk (jumpOk jump) (goMo af .returning af.tmps)) (fun l => endR l jump) af.roundOf := rfl
  rw [h0] at h
  cases hro : af.roundOf with
  | some l =>
    rw [hro] at h
    exact endR_ok h hF hm hr hro (hcs (by rw [hro]; simp)) ht
  | none =>
    rw [hro] at h
    have hfro : fr.roundOf = none := by
      have := hF.round
      rw [hro] at this
      cases hx : fr.roundOf with
      | none => rfl
      | some y => rw [hx] at this; exact this.elim
    have fin : ∀ {out : Out Step}, M.pure (Step.go { af with mode := .returning }) s = rOf out s' → step E.P (lone (frm fr fr.tmps fr.defers af.todo) cs w) = .next (lone { frm fr fr.tmps fr.defers af.todo with mode := .returning } cs w) →
        ∃ w' r', Goes w0 r s s' r' w' ∧ s'.lim = s.lim ∧ StepE E.P r' base s'.cx fr (lone fr cs w) w' out := by
      intro out h hs
      obtain ⟨rfl, rfl⟩ := rOf_inl h
      refine ⟨w, r, .of_rel rfl hr, rfl, { frm fr fr.tmps fr.defers af.todo with mode := .returning }, cs, rfl, ⟨hF.fn, hF.size, hF.tm, (fun e => by cases e), .ret, hF.round, hF.rk, hF.known, hF.cx⟩, ?_⟩
      exact .one (by rw [hF.frm hm]; exact hs)
    rcases ht with ⟨e1, rfl⟩ | ⟨k, e1, rfl⟩ | ⟨id, k, e1, e2, rfl⟩ | ⟨g, k, e1, e2, rfl⟩
    · exact fin h (by rw [e1]; exact sf_end hfro)
    · exact fin h (by rw [e1]; exact sf_ret hfro)
    · exact (rOf_none h).elim
    · exact (rOf_none h).elim
/-- A step that only turns what is to be done. -/
theorem goTo_ok {af : AF} {fr : Frame} {cs : List Frame} {s s' : St} {out : Out Step} {k : List Item} (h : goTo af k s = rOf out s') (hF : FR E.P r af s.cx base fr cs) (hm : af.mode = .run) (hr : Rel w0 r s.mem w)
    (hs : step E.P (lone (frm fr fr.tmps fr.defers af.todo) cs w) = .next (lone (frm fr fr.tmps fr.defers k) cs w)) :
    ∃ w' r', Goes w0 r s s' r' w' ∧ s'.lim = s.lim ∧ StepE E.P r' base s'.cx fr (lone fr cs w) w' out := by
  obtain ⟨rfl, rfl⟩ := rOf_inl ((goTo_eq af k s).symm.trans h)
  have hF' := hF.to k
  rw [← hm] at hF'
  exact ⟨w, r, .of_rel rfl hr, rfl, frm fr fr.tmps fr.defers k, cs, rfl, hF', .one (by rw [hF.frm hm]; exact hs)⟩
theorem jumpF_ok {af : AF} {fr : Frame} {cs : List Frame} {s s' : St} {out : Out Step} {jump : Code} {k : Option (List Item)} (h : jumpF af jump k s = rOf out s') (hF : FR E.P r af s.cx base fr cs) (hm : af.mode = .run) (hr : Rel w0 r s.mem w) (hcs : af.roundOf ≠ none → cs = base.2)
    (hk : ∀ k', k = some k' → step E.P (lone (frm fr fr.tmps fr.defers af.todo) cs w) = .next (lone (frm fr fr.tmps fr.defers k') cs w))
    (ht : k = none → (∃ id k, af.todo = .code (.exit id) :: k ∧ exitTo id k = none ∧ jump = .exit id) ∨ (∃ g k, af.todo = .code (.goto g) :: k ∧ gotoIn g k = none ∧ jump = .goto g)) :
    ∃ w' r', Goes w0 r s s' r' w' ∧ s'.lim = s.lim ∧ StepE E.P r' base s'.cx fr (lone fr cs w) w' out := by
  cases k with
  | none =>
    refine leaveF_ok (jump := some jump) h hF hm hr hcs ?_
    rcases ht rfl with ⟨id, k, a, b, rfl⟩ | ⟨g, k, a, b, rfl⟩
    · exact .inr (.inr (.inl ⟨id, k, a, b, rfl⟩))
    · exact .inr (.inr (.inr ⟨g, k, a, b, rfl⟩))
  | some k' => exact goTo_ok h hF hm hr (hk k' rfl)
end
end Go.Proofs.Ytnhmbhpkebjjaaa.Am
