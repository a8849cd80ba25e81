/- Frames beside the evaluator's: loops over functions, code of every kind. -/
import Derived.Test.YtnhmbhpkebjjaaaAmFrame2
namespace Go.Proofs.Ytnhmbhpkebjjaaa.Am
open Go.RowKit

section
variable {E : Env} {call round : CallT} {w0 w : World} {r : Inj} {base : List Deferred × List Frame}
theorem rdO {l : Nat} {s s1 : St} {c : Cell} (h : rdC l s = .some c s1) (hr : Rel w0 r s.mem w) : T.get s.mem l = some c ∧ Same s s1 := rdC_some h
theorem begR_ok {af : AF} {fr : Frame} {cs : List Frame} {s s' : St} {out : Out Step} {k : List Item} (h : begR af k s = rOf out s') (hF : FR E.P r af s.cx base fr cs) (hm : af.mode = .run) (htodo : af.todo = .beginRound :: k) (hr : Rel w0 r s.mem w) :
    ∃ w' r', Goes w0 r s s' r' w' ∧ s'.lim = s.lim ∧ StepE E.P r' base s'.cx fr (lone fr cs w) w' out := by
  unfold begR at h
  cases hro : af.roundOf with
  | none => rw [hro] at h; exact (rOf_none h).elim
  | some l =>
    rw [hro] at h
    rcases bind_rOf h with ⟨c, s1, e1, e2⟩ | ⟨c, e1, _⟩
    · obtain ⟨q1, q2⟩ := rdC_some e1
      have fin : ∃ pe f n g tm ps as bd df, c = .O (.loop .ready pe f n g tm ps as bd df) ∧ M.bind (wrC l (.O (.loop .busy pe f n g tm ps as bd df))) (fun _ => goTo af k) s1 = rOf out s' := by
        cases c with
        | C a b => exact (rOf_none e2).elim
        | O o =>
          cases o with
          | loop st pe f n g tm ps as bd df =>
            cases st with
            | ready => exact ⟨pe, f, n, g, tm, ps, as, bd, df, rfl, e2⟩
            | _ => exact (rOf_none e2).elim
          | _ => exact (rOf_none e2).elim
      obtain ⟨pe, f, n, g, tm, ps, as, bd, df, rfl, e2⟩ := fin
      rcases bind_rOf e2 with ⟨u, s2, e3, e4⟩ | ⟨c, e3, _⟩
      · obtain ⟨rfl, rfl⟩ := rOf_inl ((goTo_eq af k s2).symm.trans e4)
        obtain ⟨b', d, o', g1, g2, g3⟩ := hr.obj _ _ q1 rfl
        have hro2 := hF.round
        rw [hro] at hro2
        cases hfr : fr.roundOf with
        | none => rw [hfr] at hro2; exact hro2.elim
        | some l' =>
          rw [hfr] at hro2
          obtain ⟨d', hro2⟩ := hro2
          rw [g1] at hro2
          cases hro2
          cases o' with
          | loop L =>
            obtain ⟨k1, k2, k3, k4, k5, k6, k7, k8, k9⟩ := g3
            have hOR : OR r (.loop .busy pe f n g tm ps as bd df) (.loop { L with state := .busy }) := ⟨rfl, k2, k3, k4, k5, k6, k7, k8, k9⟩
            obtain ⟨p1, p2, p3⟩ := wrO_ok e3 (by rw [q2.1]; exact hr) (by rw [q2.1]; exact q1) rfl g1 hOR rfl
            have hF' := hF.to k
            rw [← hm] at hF'
            refine ⟨_, r, (Goes.same q2 hr).trans p1, p2.trans q2.2.2.1, frm fr fr.tmps fr.defers k, cs, rfl, by rw [p3, q2.2.2.2]; exact hF', .one ?_⟩
            rw [hF.frm hm, htodo]
            refine step_lone_go ?_
            have hrun : (do ((frm fr fr.tmps fr.defers (.beginRound :: k)).roundOf).elim (stuck "beginRound: no round") Instr.beginRound; pure Next.skip : Sem Next).run E.P w = .ok .skip (World.setO w b' (.loop { L with state := .busy })) := by
              rw [show (frm fr fr.tmps fr.defers (.beginRound :: k)).roundOf = some b' from hfr]
              simp only [Option.elim_some, Instr.beginRound, Sem.run_bind, run_getLoop g2, Result.andThen_ok, run_setLoop g2, k1, Sem.run_pure]
            have e5 : stepG E.P true { frame := frm fr fr.tmps fr.defers (.beginRound :: k), callers := cs, status := .running, dying := none } w =
                stepG.apply E.P true (frm fr fr.tmps fr.defers (.beginRound :: k)) cs none (do ((frm fr fr.tmps fr.defers (.beginRound :: k)).roundOf).elim (stuck "beginRound: no round") Instr.beginRound; pure Next.skip) w := by
              simp [stepG, stepG.exec, frm]
            rw [e5]
            simp only [stepG.apply, Sem.runT_eq, hrun, GStep.bare_after]
            rfl
          | _ => exact g3.elim
      · exact ((np_wrC _ _).no _ _ _ e3).elim
    · exact ((np_rdC _).no _ _ _ e1).elim

/-- Where a loop's deferred calls are kept. -/
theorem dfsR_ok {af : AF} {fr : Frame} {cs : List Frame} {s s' : St} {d : Nat} (h : dfsR af.roundOf s = .some d s') (hF : FR E.P r af s.cx base fr cs) (hr : Rel w0 r s.mem w) (hf : Fresh r s.next s'.next) :
    ∃ w' r' b' mark, Goes w0 r s s' r' w' ∧ s'.lim = s.lim ∧ (∃ o, r'.blk d = some (b', o)) ∧ CxR r' base s'.cx fr (mark ++ fr.defers) cs ∧
      (∀ fn tm ps as bd, (Instr.enterLoop fn tm ps as bd fr.roundOf).run E.P w = .ok (w'.heap.size, mark) (w'.alloc (.loop { state := .ready, pending := none, fn, tmps := tm, params := ps, assign := as, body := bd, defers := b' }))) := by
  unfold dfsR at h
  have hro2 := hF.round
  cases hro : af.roundOf with
  | none =>
    rw [hro] at h hro2
    have hfr : fr.roundOf = none := by
      cases hx : fr.roundOf with
      | none => rfl
      | some y => rw [hx] at hro2; exact hro2.elim
    obtain ⟨d1, s1, e1, e2⟩ := bind_some h
    have hn : s.next = s1.next - 1 ∧ s1.next = s.next + 1 := by have := (newO_some e1).2.2.1; omega
    have e2' : (match s1.cx with | .cx up (some dfs) => M.bind (putCx (.cx up (some ({ target := .collected d1, args := #[] } :: dfs)))) fun _ => M.pure d1 | _ => M.fail) s1 = .some d s' := e2
    have hcx1 : s1.cx = s.cx := (newO_some e1).2.2.2.2
    have hc := hF.cx
    cases hcx : s1.cx with
    | no => rw [hcx] at e2'; cases e2'
    | cx up dd =>
      cases dd with
      | none => rw [hcx] at e2'; cases e2'
      | some dfs =>
        rw [hcx] at e2'
        have e3 : R.some d1 ⟨s1.mem, s1.next, s1.lim, s1.rd, s1.wr, .cx up (some ({ target := .collected d1, args := #[] } :: dfs))⟩ = R.some d s' := e2'
        cases e3
        obtain ⟨k1, k2, k3, k4, k5⟩ := newO_ok (o' := .deferred (some [])) e1 hr hf rfl (by simp [OR])
        rw [← hcx1, hcx] at hc
        obtain ⟨c1, c2, c3⟩ := hc
        refine ⟨_, _, w.heap.size, [{ target := .collected w.heap.size, args := #[] }], ⟨k2.le, k2.nxt, k2.domB, k2.domE, k2.rel⟩, k4, ⟨0, k3⟩, ?_, ?_⟩
        · have h1 : CxR (r.add s.next (w.heap.size, 0)) base (.cx up (some dfs)) fr fr.defers cs := CxR.mono k2.le (show CxR r base (.cx up (some dfs)) fr fr.defers cs from ⟨c1, c2, c3⟩)
          exact ⟨h1.1, h1.2.1, .cons (.coll k3) h1.2.2⟩
        · intro fn tm ps as bd
          simp [Instr.enterLoop, hfr, newObj, Sem.run]
  | some l =>
    rw [hro] at h hro2
    obtain ⟨c, s1, e1, e2⟩ := bind_some h
    obtain ⟨q1, q2⟩ := rdC_some e1
    cases c with
    | C a b => cases e2
    | O o =>
      cases o with
      | loop st pe f n g tm ps as bd df =>
        obtain ⟨rfl, rfl⟩ := pure_some e2
        obtain ⟨b', dd, o', g1, g2, g3⟩ := hr.obj _ _ q1 rfl
        cases hfr : fr.roundOf with
        | none => rw [hfr] at hro2; exact hro2.elim
        | some l' =>
          rw [hfr] at hro2
          obtain ⟨d', hro2⟩ := hro2
          rw [g1] at hro2
          cases hro2
          cases o' with
          | loop L =>
            obtain ⟨k1, k2, k3, k4, k5, k6, k7, k8, k9⟩ := g3
            refine ⟨w, r, L.defers, [], .same q2 hr, q2.2.2.1, k9, by rw [q2.2.2.2]; exact hF.cx, ?_⟩
            intro fn tm ps as bd
            simp [Instr.enterLoop, run_getLoop g2, newObj, Sem.run]
          | _ => exact g3.elim
      | _ => cases e2

theorem lo_dfsR (ro : Option Nat) : Loc (dfsR ro) := by
  unfold dfsR
  cases ro with
  | none =>
    refine lo_bind (lo_newO _) fun d => lo_bind lo_getCx fun cx => ?_
    cases cx with
    | no => exact lo_fail
    | cx up dfs =>
      cases dfs with
      | none => exact lo_fail
      | some dfs => exact lo_bind (lo_putCx _) fun _ => lo_pure _
  | some l =>
    refine lo_bind (lo_rdC _) fun c => ?_
    cases c with
    | C a b => exact lo_fail
    | O o => cases o <;> first | exact lo_pure _ | exact lo_fail
theorem lo_goTo (af : AF) (k : List Item) : Loc (goTo af k) := lo_pure _
theorem lo_goTm (af : AF) (k : List Item) (tm : T Value) : Loc (goTm af k tm) := lo_pure _
theorem lo_goMo (af : AF) (m : FrameMode) (tm : T Value) : Loc (goMo af m tm) := lo_pure _
theorem lo_afterR (af : AF) (k : List Item) (l : Nat) : Loc (afterR af k l) := by
  unfold afterR
  refine lo_bind (lo_rdC _) fun c => ?_
  cases c with
  | C a b => exact lo_fail
  | O o => cases o <;> first | exact lo_fail | exact lo_chk _ (lo_bind (lo_wrC _ _) fun _ => lo_goTo _ _)
theorem lo_callR (c1 : CallOK E call) (fv : Value) (l : Nat) : Loc (callR E call fv l) := by
  unfold callR
  split
  · exact lo_chk _ (c1.loc _ _)
  · exact lo_fail
theorem np_dfsR (ro : Option Nat) : NoPan (dfsR ro) := by
  unfold dfsR
  cases ro with
  | none =>
    refine np_bind (np_newO _) fun d => np_bind np_getCx fun cx => ?_
    cases cx with
    | no => exact np_fail
    | cx up dfs =>
      cases dfs with
      | none => exact np_fail
      | some dfs => exact np_bind (np_putCx _) fun _ => np_pure _
  | some l =>
    refine np_bind (np_rdC _) fun c => ?_
    cases c with
    | C a b => exact np_fail
    | O o => cases o <;> first | exact np_pure _ | exact np_fail
theorem np_afterR (af : AF) (k : List Item) (l : Nat) : NoPan (afterR af k l) := by
  unfold afterR
  refine np_bind (np_rdC _) fun c => ?_
  cases c with
  | C a b => exact np_fail
  | O o => cases o <;> first | exact np_fail | exact np_chk _ (np_bind (np_wrC _ _) fun _ => np_pure _)
theorem lo_rangeF (c1 : CallOK E call) (af : AF) (fv : Value) (ps : Array Nat) (as bd : Code) (k : List Item) : Loc (rangeF E call af fv ps as bd k) :=
  lo_bind (lo_dfsR _) fun _ => lo_bind (lo_newO _) fun _ => lo_bind (lo_noP (lo_callR c1 _ _)) fun _ => lo_afterR _ _ _
theorem noP_np {α : Type} (m : M α) : NoPan (noP m) := ⟨fun s c s' h => by
  unfold noP at h
  cases e : m s <;> rw [e] at h <;> cases h⟩
theorem rangeF_ok (he : EnvOK E) (c1 : CallOK E call) {af : AF} {fr : Frame} {cs : List Frame} {s s' : St} {out : Out Step} {fo : Operand} {fv : Value} {ps : Array Nat} {as bd : Code} {k : List Item}
    (h : rangeF E call af fv ps as bd k s = rOf out s') (hF : FR E.P r af s.cx base fr cs) (hm : af.mode = .run) (htodo : af.todo = .code (.rangeFunc fo ps as bd) :: k) (hv : VR r fv (Act.eval ⟨fr.tmps, fr.defers⟩ fo)) (hr : Rel w0 r s.mem w) (hb : Bnd s) (hf : Fresh r s.next s'.next) :
    ∃ w' r', Goes w0 r s s' r' w' ∧ s'.lim = s.lim ∧ StepE E.P r' base s'.cx fr (lone fr cs w) w' out := by
  unfold rangeF at h
  rcases bind_rOf h with ⟨d, s1, e1, e2⟩ | ⟨c, e1, _⟩
  case inr => exact ((np_dfsR _).no _ _ _ e1).elim
  have L1 := (lo_dfsR af.roundOf).at' s (.inl d) s1 e1 hb
  have L2 := (lo_bind (lo_newO (.loop .ready none af.fn af.n af.glob af.tmps ps.toList as bd d)) fun l => lo_bind (lo_noP (lo_callR c1 fv l)) fun _ => lo_afterR af k l).at' s1 out s' e2 L1.bnd
  obtain ⟨w1, r1, b', mark, g1, g2, ⟨o1, g3⟩, g4, g5⟩ := dfsR_ok e1 hF hr (fun b x y => hf b x (Nat.lt_of_lt_of_le y L2.next))
  rcases bind_rOf e2 with ⟨l, s2, e3, e4⟩ | ⟨c, e3, _⟩
  case inr => exact ((np_newO _).no _ _ _ e3).elim
  have L3 := (lo_newO (.loop .ready none af.fn af.n af.glob af.tmps ps.toList as bd d)).at' s1 (.inl l) s2 e3 L1.bnd
  have L4 := (lo_bind (lo_noP (lo_callR c1 fv l)) fun _ => lo_afterR af k l).at' s2 out s' e4 L3.bnd
  have hf1 := g1.fresh hf
  have hle2 : ∀ x, r1.le (r1.add s1.next x) := fun x => Inj.add_le x (hf1 s1.next (Nat.le_refl _) (by have := (newO_some e3).2.2.1; have := L4.next; omega)).1
  obtain ⟨k1, k2, k3, k4, k5⟩ := newO_ok (o' := .loop { state := .ready, pending := none, fn := fr.fn, tmps := fr.tmps, params := ps, assign := as, body := bd, defers := b' }) e3 g1.rel (fun b x y => hf1 b x (Nat.lt_of_lt_of_le y L4.next)) rfl
    ⟨rfl, rfl, hF.fn, hF.size, hF.tm.mono g1.le, rfl, rfl, rfl, o1, g3⟩
  rcases bind_rOf e4 with ⟨v, s3, e5, e6⟩ | ⟨c, e5, _⟩
  case inr => exact ((noP_np _).no _ _ _ e5).elim
  have L5 := (lo_noP (lo_callR c1 fv l)).at' s2 (.inl v) s3 e5 L3.bnd
  have L6 := (lo_afterR af k l).at' s3 out s' e6 L5.bnd
  obtain ⟨v0, q0, e5⟩ := noP_rOf (o := .inl v) e5
  cases q0
  have hf2 := k2.fresh hf1
  -- the call
  have fin : ∃ f first cap, fv = .func (.func f) first cap ∧ E.ext.get f = none ∧ call f (first.toList ++ (.func (.yield l) #[] #[] :: cap.toList)) s2 = .some v s3 := by
    unfold callR at e5
    split at e5
    · rename_i f first cap _
      cases hn : E.ext.get f with
      | none => rw [hn] at e5; exact ⟨_, _, _, rfl, hn, e5⟩
      | some m => rw [hn] at e5; cases e5
    · cases e5
  obtain ⟨f, first, cap, rfl, hnx, e5⟩ := fin
  obtain ⟨f', a', c', q1, q2, q3, q4⟩ := hv.func_inv
  cases f' with
  | func f' =>
    simp only [FnR] at q2
    subst q2
    have hle := Inj.le_trans g1.le k2.le
    have hyield : VR (r1.add s1.next (w1.heap.size, 0)) (.func (.yield l) #[] #[]) (.func (.yield w1.heap.size) #[] #[]) := .func ⟨0, k3⟩ rfl (fun i v v' e => by simp at e) rfl (fun i v v' e => by simp at e)
    obtain ⟨p1, p2⟩ := (c1.ok (out := .inl v) e5 k2.rel L3.bnd (fun b x y => hf2 b x (Nat.lt_of_lt_of_le y L6.next)) (args' := a'.toList ++ (.func (.yield w1.heap.size) #[] #[] :: c'.toList)) ((q3.mono hle).append (.cons hyield (q4.mono hle)))).resolve_right fun x => x.1 hnx
    obtain ⟨w3, r3, p3, p4, p5, v', p6, p7⟩ := p2 (frm fr fr.tmps (mark ++ fr.defers) (.inRangeFunc w1.heap.size :: k)) cs
    have hstart : step E.P (lone fr cs w) = .next (lone (Frame.enter E.P f (a'.toList ++ (.func (.yield w1.heap.size) #[] #[] :: c'.toList)).toArray .normal) (frm fr fr.tmps (mark ++ fr.defers) (.inRangeFunc w1.heap.size :: k) :: cs)
        (w1.alloc (.loop { state := .ready, pending := none, fn := fr.fn, tmps := fr.tmps, params := ps, assign := as, body := bd, defers := b' }))) := by
      rw [hF.frm hm, htodo]
      refine step_lone_go ?_
      have hrun := g5 fr.fn fr.tmps ps as bd
      have hev : (frm fr fr.tmps (mark ++ fr.defers) (.inRangeFunc w1.heap.size :: k)).eval fo = .func (.func f) a' c' := by
        rw [frm_eval]
        rw [← q1]
        cases fo <;> rfl
      have hinv : ∀ w, (do let d ← resolve (frm fr fr.tmps (mark ++ fr.defers) (.inRangeFunc w1.heap.size :: k)).eval { callee := .value fo, args := #[.const (.func (.yield w1.heap.size) #[] #[])], argTypes := #[] } 0; invoke d.target d.args : Sem Next).run E.P w =
          .ok (.enter f (a'.toList ++ (.func (.yield w1.heap.size) #[] #[] :: c'.toList)).toArray) w := by
        intro w
        rw [resolve_value _ rfl hev]
        have e1 : (a' ++ Array.map (frm fr fr.tmps (mark ++ fr.defers) (.inRangeFunc w1.heap.size :: k)).eval #[.const (.func (.yield w1.heap.size) #[] #[])] ++ c') = (a'.toList ++ (.func (.yield w1.heap.size) #[] #[] :: c'.toList)).toArray := by
          apply Array.toList_inj.1
          simp [Frame.eval]
        simp only [Sem.run_bind, Sem.run_pure, Result.andThen_ok, invoke, e1, p1]
      have e5 : (stepG E.P true { frame := frm fr fr.tmps fr.defers (.code (.rangeFunc fo ps as bd) :: k), callers := cs, status := .running, dying := none } w).bare =
          (stepG.apply E.P true (frm fr fr.tmps (mark ++ fr.defers) (.inRangeFunc w1.heap.size :: k)) cs none (do let d ← resolve (frm fr fr.tmps (mark ++ fr.defers) (.inRangeFunc w1.heap.size :: k)).eval { callee := .value fo, args := #[.const (.func (.yield w1.heap.size) #[] #[])], argTypes := #[] } 0; invoke d.target d.args)
            (w1.alloc (.loop { state := .ready, pending := none, fn := fr.fn, tmps := fr.tmps, params := ps, assign := as, body := bd, defers := b' }))).bare := by
        have hro : (frm fr fr.tmps fr.defers (.code (.rangeFunc fo ps as bd) :: k)).roundOf = fr.roundOf := rfl
        simp only [stepG, stepG.exec, frm, Sem.runT_eq, hrun, GStep.bare_after]
      rw [e5]
      simp only [stepG.apply, Sem.runT_eq, hinv, GStep.bare_after]
      rfl
    -- behind it
    have e6' := e6
    unfold afterR at e6
    rcases bind_rOf e6 with ⟨c, s4, e7, e8⟩ | ⟨c, e7, _⟩
    case inr => exact ((np_rdC _).no _ _ _ e7).elim
    obtain ⟨z1, z2⟩ := rdC_some e7
    have fin2 : ∃ st pe f n g tm ps as bd df, c = .O (.loop st pe f n g tm ps as bd df) ∧ st ≠ .busy ∧ M.bind (wrC l (.O (.loop .exhausted pe f n g tm ps as bd df))) (fun _ => goTo af (pendL pe ++ k)) s4 = rOf out s' := by
      cases c with
      | C a b => exact (rOf_none e8).elim
      | O o =>
        cases o with
        | loop st pe f n g tm ps as bd df =>
          cases st with
          | busy => exact (rOf_none e8).elim
          | ready => exact ⟨_, _, _, _, _, _, _, _, _, _, rfl, (by intro h; cases h), e8⟩
          | done => exact ⟨_, _, _, _, _, _, _, _, _, _, rfl, (by intro h; cases h), e8⟩
          | exhausted => exact ⟨_, _, _, _, _, _, _, _, _, _, rfl, (by intro h; cases h), e8⟩
        | _ => exact (rOf_none e8).elim
    obtain ⟨st, pe, lf, ln, lg, ltm, lps, las, lbd, ldf, rfl, hst, e8⟩ := fin2
    rcases bind_rOf e8 with ⟨u, s5, e9, e10⟩ | ⟨c, e9, _⟩
    case inr => exact ((np_wrC _ _).no _ _ _ e9).elim
    obtain ⟨rfl, rfl⟩ := rOf_inl ((goTo_eq af _ s5).symm.trans e10)
    obtain ⟨lb, ld, lo, y1, y2, y3⟩ := p3.rel.obj _ _ z1 rfl
    have hlb : r3.blk l = some (w1.heap.size, 0) := p3.le.1 _ _ k3
    rw [hlb] at y1
    cases y1
    cases lo with
    | loop LL =>
      obtain ⟨j1, j2, j3, j4, j5, j6, j7, j8, j9⟩ := y3
      have hOR : OR r3 (.loop .exhausted pe lf ln lg ltm lps las lbd ldf) (.loop { LL with state := .exhausted }) := ⟨rfl, j2, j3, j4, j5, j6, j7, j8, j9⟩
      obtain ⟨x1, x2, x3⟩ := wrO_ok e9 (by rw [z2.1]; exact p3.rel) (by rw [z2.1]; exact z1) rfl hlb hOR rfl
      have hgo : Goes w0 r s s' r3 (World.setO w3 w1.heap.size (.loop { LL with state := .exhausted })) := g1.trans (k2.trans (p3.trans ((Goes.same z2 p3.rel).trans x1)))
      refine ⟨_, r3, hgo, x2.trans (z2.2.2.1.trans (p4.trans (k4.trans g2))), frm fr fr.tmps (mark ++ fr.defers) (pendL pe ++ k), cs, rfl, ?_, ?_⟩
      · refine ⟨hF.fn, hF.size, hF.tm.mono hgo.le, fun _ => rfl, by rw [show ({ af with todo := pendL pe ++ k } : AF).mode = .run from hm]; exact .run, hF.round.mono hgo.le, hF.rk, hF.known, ?_⟩
        rw [x3, z2.2.2.2, p5, k5]
        exact g4.mono (Inj.le_trans k2.le p3.le)
      · refine .head hstart (p7.trans (.one ?_))
        refine step_lone_go ?_
        have hrun : (Instr.endLoop w1.heap.size).run E.P w3 = .ok pe (World.setO w3 w1.heap.size (.loop { LL with state := .exhausted })) := by
          have hb : (LL.state == LoopState.busy) = false := by
            rw [j1]
            cases st <;> first | rfl | exact absurd rfl hst
          simp only [Instr.endLoop, Sem.run_bind, run_getLoop y2, Result.andThen_ok, hb, Bool.false_eq_true, if_false, run_setLoop y2, Sem.run_pure, j2]
        have hfin : (frm fr fr.tmps (mark ++ fr.defers) (.inRangeFunc w1.heap.size :: k)).finish v' = frm fr fr.tmps (mark ++ fr.defers) (.endRangeFunc w1.heap.size :: k) := rfl
        rw [hfin]
        have hpend : (pe.map Item.code).toList ++ k = pendL pe ++ k := by cases pe <;> rfl
        simp only [stepG, stepG.exec, frm, Sem.runT_eq, hrun, GStep.bare_after, hpend]
        rfl
    | _ => exact y3.elim
  | _ => simp only [FnR] at q2
end
end Go.Proofs.Ytnhmbhpkebjjaaa.Am
