/- Frames beside the evaluator's: unwinding; whole runs; calls. -/
import Derived.Test.YtnhmbhpkebjjaaaAmFrame4
namespace Go.Proofs.Ytnhmbhpkebjjaaa.Am
open Go.RowKit

structure DeferOK (E : Env) (dcall : DeferT) : Prop where
  loc : ∀ f args m, Loc (dcall f args m)
  ok : ∀ {w0 w : World} {r : Inj} {f : Nat} {args args' : List Value} {m m' : FrameMode} {s : St} {out : Out (Option (List PanicEntry) × FrameMode)} {s' : St}, dcall f args m s = rOf out s' → Rel w0 r s.mem w → Bnd s → Fresh r s.next s'.next → VRs r args args' → MoR r m m' →
    (∀ w, (callFunc f args'.toArray).run E.P w = .ok (.enter f args'.toArray) w) ∧
    ∀ c cs, c.mode = m' → ∃ w' r' p m2, out = .inl p ∧ Goes w0 r s s' r' w' ∧ s'.lim = s.lim ∧ s'.cx = s.cx ∧ MoR r' p.2 m2 ∧
      (match p.1 with
       | none => ∃ v', Steps E.P (lone (Frame.enter E.P f args'.toArray .deferred) (c :: cs) w) (lone (doneF .deferred { c with mode := m2 } v') cs w')
       | some ch => ∃ ch', ChR r' ch ch' ∧ Steps E.P (lone (Frame.enter E.P f args'.toArray .deferred) (c :: cs) w) (lone (({ c with mode := m2 } : Frame).raise ch') cs w'))
theorem ChR.drop {r : Inj} {l l' : List PanicEntry} (h : ChR r l l') : ChR r (l.dropWhile (!·.goexit)) (l'.dropWhile (!·.goexit)) := by
  induction h with
  | nil => exact .nil
  | @cons e e' l l' a b c d ih =>
    rw [List.dropWhile_cons, List.dropWhile_cons, c]
    cases e.goexit with
    | true => simp; exact .cons a b c d
    | false => simp; exact ih
theorem doneF_mode {r : Inj} {m m2 : FrameMode} (h : MoR r m m2) (c : Frame) (v : Value) : ∃ m3, doneF .deferred { c with mode := m2 } v = { c with mode := m3 } ∧ MoR r (afterD m) m3 := by
  cases h with
  | run => exact ⟨.run, rfl, .run⟩
  | ret => exact ⟨.returning, rfl, .ret⟩
  | pan hc =>
    cases hc with
    | nil => exact ⟨.panicking [], rfl, .pan .nil⟩
    | @cons e e' l l' a b cc d =>
      obtain ⟨ev, er, eg⟩ := e
      obtain ⟨ev', er', eg'⟩ := e'
      simp only at b cc a
      subst b
      cases er' with
      | false => exact ⟨.panicking (⟨ev', false, eg'⟩ :: l'), rfl, .pan (.cons a rfl cc d)⟩
      | true =>
        have hd := d.drop
        simp only [doneF, afterD]
        generalize l.dropWhile (!·.goexit) = x at hd
        generalize l'.dropWhile (!·.goexit) = y at hd
        cases hd with
        | nil => exact ⟨.returning, rfl, .ret⟩
        | cons a b c d => exact ⟨_, rfl, .pan (.cons a b c d)⟩
theorem raise_mode {r : Inj} {m m2 : FrameMode} (h : MoR r m m2) {ch ch' : List PanicEntry} (hc : ChR r ch ch') (c : Frame) : ∃ m3, ({ c with mode := m2 } : Frame).raise ch' = { c with mode := m3 } ∧ MoR r (raiseM m ch) m3 := by
  cases h with
  | run => exact ⟨_, rfl, .pan hc⟩
  | ret => exact ⟨_, rfl, .pan hc⟩
  | pan hd => exact ⟨_, rfl, .pan (hc.append hd)⟩
theorem DfsR.inv_nil {r : Inj} {l : List Deferred} (h : DfsR r [] l) : l = [] := by cases h; rfl

section
variable {E : Env} {call round : CallT} {dcall : DeferT} {w0 w : World} {r : Inj} {base : List Deferred × List Frame}
theorem lo_outF (af : AF) (up : Option FrameMode) : Loc (outF E af up) := by
  unfold outF
  cases af.mode with
  | run => exact lo_fail
  | returning => exact lo_on _ fun fn => lo_bind (lo_bind (lo_resL _ _) fun l => lo_pure _) fun v => lo_pure _
  | panicking c => exact lo_throw _
theorem np_resL (tm : T Value) : ∀ (l : List ResultVar), NoPan (resL E tm l)
  | [] => np_pure _
  | x :: l => by
    refine np_bind ?_ fun v => np_bind (np_resL tm l) fun l => np_pure _
    cases x with
    | tmp t => exact np_ofOpt _
    | cell a t => exact np_on _ fun a => np_bind (np_asA _) fun a => np_aLoad _ _ _
theorem lo_runD (c3 : DeferOK E dcall) (af : AF) (d : Deferred) : Loc (runD dcall af d) := by
  unfold runD
  split
  · refine lo_bind (lo_rdC _) fun c => ?_
    split
    · exact lo_bind (lo_wrC _ _) fun _ => lo_pure _
    · exact lo_fail
  · refine lo_bind (c3.loc _ _ _) fun p => ?_
    unfold backD
    cases p.1 with
    | none => simp only; split <;> first | exact lo_fail | exact lo_goMo _ _ _
    | some c => exact lo_goMo _ _ _
  · exact lo_fail
theorem lo_unwindF (c3 : DeferOK E dcall) (af : AF) : Loc (unwindF E dcall af) := by
  unfold unwindF
  refine lo_bind lo_getCx fun cx => ?_
  cases cx with
  | no => exact lo_fail
  | cx up d =>
    cases d with
    | none => exact lo_fail
    | some d =>
      cases d with
      | nil => exact lo_outF _ _
      | cons d ds => exact lo_noP (lo_bind (lo_putCx _) fun _ => lo_runD c3 _ _)
theorem stepA_run (af : AF) (hm : af.mode = .run) : stepA E call round dcall af = noP (runItems E call round { af with todo := skim 64 af.todo } (skim 64 af.todo)) := by
  obtain ⟨fn, n, g, tm, todo, mo, ki, ro⟩ := af
  simp only at hm
  subst hm
  rfl
theorem stepA_un (af : AF) (hm : af.mode ≠ .run) : stepA E call round dcall af = unwindF E dcall af := by
  obtain ⟨fn, n, g, tm, todo, mo, ki, ro⟩ := af
  simp only at hm
  cases mo with
  | run => exact absurd rfl hm
  | returning => rfl
  | panicking c => rfl
theorem lo_stepA (he : EnvOK E) (c1 : CallOK E call) (c2 : RoundOK E round) (c3 : DeferOK E dcall) (af : AF) : Loc (stepA E call round dcall af) := by
  by_cases hm : af.mode = .run
  · rw [stepA_run af hm]
    refine lo_noP ?_
    generalize skim 64 af.todo = l
    cases l with
    | nil => exact lo_leaveF _ _
    | cons x k => exact lo_itemF he c1 c2 _ _ _
  · rw [stepA_un af hm]; exact lo_unwindF c3 _
/-- A frame that is being left. -/
theorem unwindF_ok (he : EnvOK E) (c3 : DeferOK E dcall) {af : AF} {fr : Frame} {cs : List Frame} {s s' : St} {out : Out Step} (h : unwindF E dcall af s = rOf out s') (hF : FR E.P r af s.cx base fr cs) (hm : af.mode ≠ .run) (hr : Rel w0 r s.mem w) (hb : Bnd s) (hf : Fresh r s.next s'.next) :
    ∃ w' r', Goes w0 r s s' r' w' ∧ s'.lim = s.lim ∧ StepE E.P r' base s'.cx fr (lone fr cs w) w' out := by
  unfold unwindF at h
  rw [getCx_bind] at h
  have hmode : fr.mode ≠ .run := by
    have := hF.mode
    intro hx
    rw [hx] at this
    generalize af.mode = m at this hm
    cases this
    exact hm rfl
  have hunw : ∀ {w : World} {dd : List Deferred}, stepG E.P true { frame := { fr with defers := dd }, callers := cs, status := .running, dying := none } w = unwind E.P true { fr with defers := dd } cs none w := by
    intro w dd
    have : ({ fr with defers := dd } : Frame).mode = fr.mode := rfl
    cases hx : fr.mode with
    | run => exact absurd hx hmode
    | returning => simp [stepG, hx]
    | panicking c => simp [stepG, hx]
  have hfr : fr = { fr with defers := fr.defers } := rfl
  have hc := hF.cx
  cases hcx : s.cx with
  | no => rw [hcx] at h; exact (rOf_none h).elim
  | cx up d =>
    rw [hcx] at hc h
    cases d with
    | none => exact (rOf_none h).elim
    | some d =>
      obtain ⟨q1, q2, q3⟩ := hc
      obtain ⟨fn0, hfn0⟩ := hF.known q2
      cases d with
      | nil =>
        have hd0 := q3.inv_nil
        have hends : ∀ {s1 : St} {o : Out (Value × FrameMode)}, s1.cx = s.cx → (∀ v u, o = .inl (v, u) → u = up.getD .run) → ((fr.kind = .normal ∧ cs = base.2) ∨ ∃ u c0 rest m', s1.cx = .cx (some u) (some []) ∧ fr.kind = .deferred ∧ base.2 = c0 :: rest ∧ cs = { c0 with mode := m' } :: rest ∧ MoR r u m' ∧ ∀ v up, o = .inl (v, up) → up = u) := by
          intro s1 o e1 e2
          cases up with
          | none => exact .inl q1
          | some m =>
            obtain ⟨p1, c0, rest, m', p2, p3, p4⟩ := q1
            exact .inr ⟨m, c0, rest, m', by rw [e1, hcx], p1, p2, p3, p4, fun v u e => e2 v u e⟩
        replace h : outF E af up s = rOf out s' := h
        unfold outF at h
        have hMo := hF.mode
        cases hmo : af.mode with
        | run => exact absurd hmo hm
        | returning =>
          rw [hmo] at h hMo
          obtain ⟨fn, e1, h⟩ := on_rOf h
          rcases bind_rOf h with ⟨v, s1, e2, e3⟩ | ⟨c, e2, _⟩
          · obtain ⟨rfl, rfl⟩ := rOf_inl (show R.some (Step.fin v (up.getD .run)) s1 = rOf out s' from e3)
            obtain ⟨v', k1, k2, k3⟩ := resultsA_ok he.ty e2 hF.tm hr
            have hfmode : fr.mode = .returning := by cases hx : fr.mode <;> rw [hx] at hMo <;> cases hMo
            have hfuncs : E.P.funcs[fr.fn]? = some fn := by rw [hF.fn]; exact (he.fn _ _ e1).1
            refine ⟨w, r, .same k3 hr, k3.2.2.1, cs, hends k3.2.2.2 (fun v u e => by cases e; rfl), v', k2, fun c rest hcs => .one (step_lone_go ?_), fun _ hk => ⟨fr, rfl, ⟨hfmode, hd0, hk, fn, hfuncs, k1⟩, .refl _ _⟩⟩
            subst hcs
            have hkind : fr.kind = .normal ∨ fr.kind = .deferred := by
              cases up with
              | none => exact .inl q1.1
              | some m => exact .inr q1.1
            have h0 := hunw (w := w) (dd := fr.defers)
            rw [← hfr] at h0
            rw [h0]
            rcases hkind with hk | hk
            · simp only [unwind, hd0, hfmode, hfuncs, Sem.runT_eq, k1, GStep.bare_after, doReturn, hk, doneF]
              rfl
            · simp only [unwind, hd0, hfmode, hfuncs, Sem.runT_eq, k1, GStep.bare_after, doReturn, hk, doneF]
              rfl
          · exact ((np_bind (np_resL _ _) fun l => np_pure _).no _ _ _ e2).elim
        | panicking c =>
          rw [hmo] at h hMo
          obtain ⟨rfl, rfl⟩ := rOf_inr (show R.pan c s = rOf out s' from h)
          generalize hfm : fr.mode = fm at hMo
          cases hMo with
          | @pan _ c' hch =>
            refine ⟨w, r, .of_rel rfl hr, rfl, cs, hends rfl (fun v u e => by cases e), c', hch, fun c1 rest hcs => .one (step_lone_go ?_)⟩
            subst hcs
            have h0 := hunw (w := w) (dd := fr.defers)
            rw [← hfr] at h0
            rw [h0]
            have hcat : ∀ g : Frame, g.fn = fr.fn → g.catches E.P = false := by intro g hg; unfold Frame.catches; rw [hg, hfn0]
            simp only [unwind, hd0, hfm]
            rw [if_neg (by have := hcat ⟨fr.fn, fr.tmps, fr.todo, [], .panicking c', fr.kind, fr.roundOf⟩ rfl; rw [this]; simp)]
            rfl
      | cons d ds =>
        replace h : noP (M.bind (putCx (.cx up (some ds))) fun _ => runD dcall af d) s = rOf out s' := h
        obtain ⟨p, hout, h'⟩ := noP_rOf h
        clear h
        subst hout
        have h := h'
        clear h'
        rw [putCx_bind] at h
        generalize hdd : fr.defers = dd at q3
        cases q3 with
        | @cons _ d' _ ds' k1 k2 =>
          have hc' : CxR r base (.cx up (some ds)) fr ds' cs := ⟨q1, q2, k2⟩
          have h0 := hunw (w := w) (dd := d' :: ds')
          have hfr' : ({ fr with defers := d' :: ds' } : Frame) = fr := by rw [← hdd]
          rw [hfr'] at h0
          have hF2 : ∀ {r' : Inj} {m : FrameMode} {m3 : FrameMode} {cx : Ctx}, r.le r' → m ≠ .run → MoR r' m m3 → cx = .cx up (some ds) → FR E.P r' { af with mode := m } cx base { fr with defers := ds', mode := m3 } cs := by
            intro r' m m3 cx hle hne hmo hcx
            refine ⟨hF.fn, hF.size, hF.tm.mono hle, fun e => absurd e hne, hmo, hF.round.mono hle, hF.rk, hF.known, ?_⟩
            rw [hcx]
            exact hc'.mono hle
          cases k1 with
          | @coll bb bb' o hbb =>
            replace h : M.bind (rdC bb) (fun c => (match c with | .O (.deferred (some [])) => M.bind (wrC bb (.O (.deferred none))) fun _ => M.pure (Step.go af) | _ => M.fail)) ⟨s.mem, s.next, s.lim, s.rd, s.wr, .cx up (some ds)⟩ = .some p s' := h
            obtain ⟨c, s1, e1, e2⟩ := bind_some h
            obtain ⟨z1, z2⟩ := rdC_some e1
            have fin : c = .O (.deferred (some [])) := by
              cases c with
              | C a b => cases e2
              | O o =>
                cases o with
                | deferred l =>
                  cases l with
                  | none => cases e2
                  | some l => cases l with
                    | nil => rfl
                    | cons => cases e2
                | _ => cases e2
            subst fin
            obtain ⟨u, s2, e3, e4⟩ := bind_some e2
            obtain ⟨rfl, rfl⟩ := pure_some e4
            obtain ⟨b2, d2, o', y1, y2, y3⟩ := hr.obj _ _ z1 rfl
            rw [hbb] at y1
            cases y1
            have ho' : o' = .deferred (some []) := by
              unfold OR at y3
              cases o' with
              | deferred l =>
                cases l with
                | none => exact y3.elim
                | some l => cases l with
                  | nil => rfl
                  | cons => exact y3.elim
              | _ => exact y3.elim
            subst ho'
            obtain ⟨x1, x2, x3⟩ := wrO_ok (o2' := .deferred none) e3 (by rw [z2.1]; exact hr) (by rw [z2.1]; exact z1) rfl hbb (by simp [OR]) rfl
            have hgo : Goes w0 r s s2 r (World.setO w bb' (.deferred none)) := ⟨x1.le, by rw [← show (⟨s.mem, s.next, s.lim, s.rd, s.wr, .cx up (some ds)⟩ : St).next = s.next from rfl, ← z2.2.1]; exact x1.nxt, fun b hb => by
              have := x1.domB b hb; rw [z2.2.1] at this; exact this, fun b hb => by have := x1.domE b hb; rw [z2.2.1] at this; exact this, x1.rel⟩
            refine ⟨_, r, hgo, x2.trans z2.2.2.1, { fr with defers := ds', mode := fr.mode }, cs, rfl, hF2 (m := af.mode) (Inj.le_refl r) hm hF.mode (x3.trans z2.2.2.2), .one (step_lone_go ?_)⟩
            rw [h0]
            have hrun : (Instr.takeDeferred bb').run E.P w = .ok [] (World.setO w bb' (.deferred none)) := by
              simp [Instr.takeDeferred, getObj, setObj, Sem.run, y2, World.setO]
            simp only [unwind, hdd, Sem.runT_eq, hrun, GStep.bare_after]
            rfl
          | @fn f f' cc cc' aa aa' j1 j2 j3 =>
            cases f with
            | func f =>
              cases f' with
              | func f' =>
                simp only [FnR] at j1
                subst j1
                replace h : M.bind (dcall f (aa.toList ++ cc.toList) af.mode) (backD af) ⟨s.mem, s.next, s.lim, s.rd, s.wr, .cx up (some ds)⟩ = .some p s' := h
                obtain ⟨p1, s1, e1, e2⟩ := bind_some h
                have hnx : s'.next = s1.next ∧ s'.lim = s1.lim ∧ s'.cx = s1.cx ∧ s'.mem = s1.mem ∧ p = .go { af with mode := match p1.1 with | none => afterD p1.2 | some c => raiseM p1.2 c } ∧ (p1.1 = none → afterD p1.2 ≠ .run) := by
                  unfold backD at e2
                  cases hp : p1.1 with
                  | none =>
                    rw [hp] at e2
                    simp only at e2
                    cases hD : afterD p1.2 with
                    | run => rw [hD] at e2; cases e2
                    | returning => rw [hD] at e2; cases e2; exact ⟨rfl, rfl, rfl, rfl, rfl, fun _ h => by cases h⟩
                    | panicking c => rw [hD] at e2; cases e2; exact ⟨rfl, rfl, rfl, rfl, rfl, fun _ h => by cases h⟩
                  | some c => rw [hp] at e2; cases e2; exact ⟨rfl, rfl, rfl, rfl, rfl, fun h => by cases h⟩
                obtain ⟨n1, n2, n3, n4, rfl, n5⟩ := hnx
                obtain ⟨i1, i2⟩ := c3.ok (out := .inl p1) (args' := aa'.toList ++ cc'.toList) e1 hr hb (by rw [← n1]; exact hf) (j3.append j2) hF.mode
                obtain ⟨w', r', p', m2, a1, a2, a3, a4, a5, a6⟩ := i2 { fr with defers := ds' } cs rfl
                cases a1
                have hgo : Goes w0 r s s' r' w' := ⟨a2.le, by rw [n1]; exact a2.nxt, fun b hb => by rw [n1]; exact a2.domB b hb, fun b hb => by rw [n1]; exact a2.domE b hb, by rw [n4]; exact a2.rel⟩
                have henter : step E.P (lone fr cs w) = .next (lone (Frame.enter E.P f (aa'.toList ++ cc'.toList).toArray .deferred) ({ fr with defers := ds' } :: cs) w) := by
                  refine step_lone_go ?_
                  rw [h0]
                  have e0 : aa' ++ cc' = (aa'.toList ++ cc'.toList).toArray := by apply Array.toList_inj.1; simp
                  have hrun : (invoke (.fn (.func f) cc') aa').run E.P w = .ok (.enter f (aa'.toList ++ cc'.toList).toArray) w := by
                    simp only [invoke, e0, i1]
                  simp only [unwind, hdd, callDeferred, Sem.runT_eq, hrun, GStep.bare_after]
                  rfl
                cases hp : p1.1 with
                | none =>
                  rw [hp] at a6
                  obtain ⟨v', a6⟩ := a6
                  obtain ⟨m3, t1, t2⟩ := doneF_mode a5 { fr with defers := ds' } v'
                  rw [t1] at a6
                  have hne : afterD p1.2 ≠ .run := n5 hp
                  exact ⟨w', r', hgo, by rw [n2]; exact a3, { fr with defers := ds', mode := m3 }, cs, rfl, hF2 a2.le hne t2 (n3.trans a4), .head henter a6⟩
                | some ch =>
                  rw [hp] at a6
                  obtain ⟨ch', a6, a7⟩ := a6
                  obtain ⟨m3, t1, t2⟩ := raise_mode a5 a6 { fr with defers := ds' }
                  rw [t1] at a7
                  have hne : raiseM p1.2 ch ≠ .run := by
                    unfold raiseM
                    cases p1.2 <;> (intro h; cases h)
                  exact ⟨w', r', hgo, by rw [n2]; exact a3, { fr with defers := ds', mode := m3 }, cs, rfl, hF2 a2.le hne t2 (n3.trans a4), .head henter a7⟩
              | _ => simp only [FnR] at j1
            | _ => cases h
end
end Go.Proofs.Ytnhmbhpkebjjaaa.Am
