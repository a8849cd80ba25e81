import Derived.Test.YtchnfdaebboaeaaGreatDoorSFl06
import Derived.RowKit3
import Derived.Laws.AppendOwn
import Derived.CallsIn
noncomputable section
namespace Go.Proofs.YtchnfdaebboaeaaGreatDoor.Am
open Go.RowKit
structure DeferOK (E : Env) (dcall : Dh) : Prop where
  loc : ∀ f args m, Loc (dcall f args m)
  ok : ∀ {w0 w : World} {r : Inj} {f : Nat} {args args' : List Value} {m m' : FrameMode} {s : St} {out : Out (Option (List PanicEntry) × FrameMode)} {s' : St}, dcall f args m s = rOf out s' → Rel w0 r s.mem w → Bnd s → AL r s.next s'.next → VRs r args args' → MoR r m m' →
    (∀ w, (callFunc f args'.toArray).run E.P w = .ok (.enter f args'.toArray) w) ∧
    ∀ c cs, c.mode = m' → ∃ w' r' p m2, out = .inl p ∧ Goes w0 r s s' r' w' ∧ s'.lim = s.lim ∧ s'.cx = s.cx ∧ MoR r' p.2 m2 ∧
      (match p.1 with
       | none => ∃ v', Steps E.P (lone (Frame.enter E.P f args'.toArray .deferred) (c :: cs) w) (lone (E4 .deferred { c with mode := m2 } v') cs w')
       | some ch => ∃ ch', ChR r' ch ch' ∧ Steps E.P (lone (Frame.enter E.P f args'.toArray .deferred) (c :: cs) w) (lone (({ c with mode := m2 } : Frame).raise ch') cs w'))
theorem ChR.drop {r : Inj} {l l' : List PanicEntry} (h : ChR r l l') : ChR r (l.dropWhile (!·.goexit)) (l'.dropWhile (!·.goexit)) := by
 induction h with
 | nil => exact .nil
 | @cons e e' l l' a b c d ih =>
   rw [List.dropWhile_cons, List.dropWhile_cons, c]
   cases e.goexit with
   | true => simp; exact .cons a b c d
   | false => simp; exact ih
theorem Hn_ {r : Inj} {m m2 : FrameMode} (h : MoR r m m2) (c : Frame) (v : Value) : ∃ m3, E4 .deferred { c with mode := m2 } v = { c with mode := m3 } ∧ MoR r (Et m) m3 := by
 cases h with
 | run => exact ⟨.run, rfl, .run⟩
 | ret => exact ⟨.returning, rfl, .ret⟩
 | pan hc =>
   cases hc with
   | nil => exact ⟨.panicking [], rfl, .pan .nil⟩
   | @cons e e' l l' a b cc d =>
     obtain ⟨ev, er, eg⟩ := e
     obtain ⟨ev', er', eg'⟩ := e'
     simp only at b cc a
     subst b
     cases er' with
     | false => exact ⟨.panicking (⟨ev', false, eg'⟩ :: l'), rfl, .pan (.cons a rfl cc d)⟩
     | true =>
       have hd := d.drop
       simp only [E4, Et]
       generalize l.dropWhile (!·.goexit) = x at hd
       generalize l'.dropWhile (!·.goexit) = y at hd
       cases hd with
       | nil => exact ⟨.returning, rfl, .ret⟩
       | cons a b c d => exact ⟨_, rfl, .pan (.cons a b c d)⟩
theorem Do_ {r : Inj} {m m2 : FrameMode} (h : MoR r m m2) {ch ch' : List PanicEntry} (hc : ChR r ch ch') (c : Frame) : ∃ m3, ({ c with mode := m2 } : Frame).raise ch' = { c with mode := m3 } ∧ MoR r (Ht m ch) m3 := by
 cases h with
 | run => exact ⟨_, rfl, .pan hc⟩
 | ret => exact ⟨_, rfl, .pan hc⟩
 | pan hd => exact ⟨_, rfl, .pan (hc.append hd)⟩
theorem DfsR.inv_nil {r : Inj} {l : List Deferred} (h : DfsR r [] l) : l = [] := by cases h; rfl
section
variable {E : Env} {call round : Ae} {dcall : Dh} {w0 w : World} {r : Inj} {base : List Deferred × List Frame}
theorem EC_ (af : AF) (up : Option FrameMode) : Loc (outF E af up) := by
 unfold outF
 cases af.mode with
 | run => exact Ad
 | returning => exact Ah _ fun fn => Aa (Aa (PE _ _) fun l => Ab _) fun v => Ab _
 | panicking c => exact Lr _
theorem Ol (tm : T Value) : ∀ (l : List ResultVar), NoPan (resL E tm l)
 | [] => Ag _
 | x :: l => by
   refine Ac ?_ fun v => Ac (Ol tm l) fun l => Ag _
   cases x with
   | tmp t => exact Aw _
   | cell a t => exact Ai _ fun a => Ac (FV _) fun a => NT _ _ _
theorem Fn_ (c3 : DeferOK E dcall) (af : AF) (d : Deferred) : Loc (runD dcall af d) := by
 unfold runD
 split
 · refine Aa (B1 _) fun c => ?_
   split
   · exact Aa (BO _ _) fun _ => Ab _
   · exact Ad
 · refine Aa (c3.loc _ _ _) fun p => ?_
   unfold Jk
   cases p.1 with
   | none => simp only; split <;> first | exact Ad | exact Ff _ _ _
   | some c => exact Ff _ _ _
 · exact Ad
theorem V9 (c3 : DeferOK E dcall) (af : AF) : Loc (Dv E dcall af) := by
 unfold Dv
 refine Aa Hx fun cx => ?_
 cases cx with
 | no => exact Ad
 | cx up d =>
   cases d with
   | none => exact Ad
   | some d =>
     cases d with
     | nil => exact EC_ _ _
     | cons d ds => exact DX (Aa (JY _) fun _ => Fn_ c3 _ _)
theorem QT (af : AF) (hm : af.mode = .run) : BF E call round dcall af = noP (Eu E call round { af with todo := skim 64 af.todo } (skim 64 af.todo)) := by
 obtain ⟨fn, n, g, tm, todo, mo, ki, ro⟩ := af
 simp only at hm
 subst hm
 rfl
theorem ON (af : AF) (hm : af.mode ≠ .run) : BF E call round dcall af = Dv E dcall af := by
 obtain ⟨fn, n, g, tm, todo, mo, ki, ro⟩ := af
 simp only at hm
 cases mo with
 | run => exact absurd rfl hm
 | returning => rfl
 | panicking c => rfl
theorem F8 (he : EnvOK E) (c1 : CallOK E call) (c2 : RoundOK E round) (c3 : DeferOK E dcall) (af : AF) : Loc (BF E call round dcall af) := by
 by_cases hm : af.mode = .run
 · rw [QT af hm]
   refine DX ?_
   generalize skim 64 af.todo = l
   cases l with
   | nil => exact Mw _ _
   | cons x k => exact V2 he c1 c2 _ _ _
 · rw [ON af hm]; exact V9 c3 _
theorem Ui (he : EnvOK E) (c3 : DeferOK E dcall) {af : AF} {fr : Frame} {cs : List Frame} {s s' : St} {out : Out Step} (h : Dv E dcall af s = rOf out s') (hF : FR E.P r af s.cx base fr cs) (hm : af.mode ≠ .run) (hr : Rel w0 r s.mem w) (hb : Bnd s) (hf : AL r s.next s'.next) :
   ∃ w' r', Goes w0 r s s' r' w' ∧ s'.lim = s.lim ∧ BJ E.P r' base s'.cx fr (lone fr cs w) w' out := by
 unfold Dv at h
 rw [MF] at h
 have hmode : fr.mode ≠ .run := by
   have := hF.mode
   intro hx
   rw [hx] at this
   generalize af.mode = m at this hm
   cases this
   exact hm rfl
 have hunw : ∀ {w : World} {dd : List Deferred}, stepG E.P true { frame := { fr with defers := dd }, callers := cs, status := .running, dying := none } w = unwind E.P true { fr with defers := dd } cs none w := by
   intro w dd
   have : ({ fr with defers := dd } : Frame).mode = fr.mode := rfl
   cases hx : fr.mode with
   | run => exact absurd hx hmode
   | returning => simp [stepG]
   | panicking c => simp [stepG]
 have hfr : fr = { fr with defers := fr.defers } := rfl
 have hc := hF.cx
 cases hcx : s.cx with
 | no => rw [hcx] at h; exact (AH h).elim
 | cx up d =>
   rw [hcx] at hc h
   cases d with
   | none => exact (AH h).elim
   | some d =>
     obtain ⟨q1, q2, q3⟩ := hc
     obtain ⟨fn0, hfn0⟩ := hF.known q2
     cases d with
     | nil =>
       have hd0 := q3.inv_nil
       have hends : ∀ {s1 : St} {o : Out (Value × FrameMode)}, s1.cx = s.cx → (∀ v u, o = .inl (v, u) → u = up.getD .run) → ((fr.kind = .normal ∧ cs = base.2) ∨ ∃ u c0 rest m', s1.cx = .cx (some u) (some []) ∧ fr.kind = .deferred ∧ base.2 = c0 :: rest ∧ cs = { c0 with mode := m' } :: rest ∧ MoR r u m' ∧ ∀ v up, o = .inl (v, up) → up = u) := by
         intro s1 o e1 e2
         cases up with
         | none => exact .inl q1
         | some m =>
           obtain ⟨p1, c0, rest, m', p2, p3, p4⟩ := q1
           exact .inr ⟨m, c0, rest, m', by rw [e1, hcx], p1, p2, p3, p4, fun v u e => e2 v u e⟩
       replace h : outF E af up s = rOf out s' := h
       unfold outF at h
       have hMo := hF.mode
       cases hmo : af.mode with
       | run => exact absurd hmo hm
       | returning =>
         rw [hmo] at h hMo
         obtain ⟨fn, e1, h⟩ := Dw h
         rcases Ba h with ⟨v, s1, e2, e3⟩ | ⟨c, e2, _⟩
         · obtain ⟨rfl, rfl⟩ := AU (show R.some (Step.fin v (up.getD .run)) s1 = rOf out s' from e3)
           obtain ⟨v', k1, k2, k3⟩ := Zf he.ty e2 hF.tm hr
           have hfmode : fr.mode = .returning := by cases hx : fr.mode <;> rw [hx] at hMo <;> cases hMo
           have hfuncs : E.P.funcs[fr.fn]? = some fn := by rw [hF.fn]; exact (he.fn _ _ e1).1
           refine ⟨w, r, .same k3 hr, k3.2.2.1, cs, hends k3.2.2.2 (fun v u e => by cases e; rfl), v', k2, fun c rest hcs => .one (step_lone_go ?_), fun _ hk => ⟨fr, rfl, ⟨hfmode, hd0, hk, fn, hfuncs, k1⟩, .refl _ _⟩⟩
           subst hcs
           have hkind : fr.kind = .normal ∨ fr.kind = .deferred := by
             cases up with
             | none => exact .inl q1.1
             | some m => exact .inr q1.1
           have h0 := hunw (w := w) (dd := fr.defers)
           rw [← hfr] at h0
           rw [h0]
           rcases hkind with hk | hk
           · simp only [unwind, hd0, hfmode, hfuncs, Sem.runT_eq, k1, GStep.bare_after, doReturn, hk, E4]
             rfl
           · simp only [unwind, hd0, hfmode, hfuncs, Sem.runT_eq, k1, GStep.bare_after, doReturn, hk, E4]
             rfl
         · exact ((Ac (Ol _ _) fun l => Ag _).no _ _ _ e2).elim
       | panicking c =>
         rw [hmo] at h hMo
         obtain ⟨rfl, rfl⟩ := GN (show R.pan c s = rOf out s' from h)
         generalize hfm : fr.mode = fm at hMo
         cases hMo with
         | @pan _ c' hch =>
           refine ⟨w, r, .of_rel rfl hr, rfl, cs, hends rfl (fun v u e => by cases e), c', hch, fun c1 rest hcs => .one (step_lone_go ?_)⟩
           subst hcs
           have h0 := hunw (w := w) (dd := fr.defers)
           rw [← hfr] at h0
           rw [h0]
           have hcat : ∀ g : Frame, g.fn = fr.fn → g.catches E.P = false := by intro g hg; unfold Frame.catches; rw [hg, hfn0]
           simp only [unwind, hd0, hfm]
           rw [if_neg (by have := hcat ⟨fr.fn, fr.tmps, fr.todo, [], .panicking c', fr.kind, fr.roundOf⟩ rfl; rw [this]; simp)]
           rfl
     | cons d ds =>
       replace h : noP (M.bind (putCx (.cx up (some ds))) fun _ => runD dcall af d) s = rOf out s' := h
       obtain ⟨p, hout, h'⟩ := Fl h
       clear h
       subst hout
       have h := h'
       clear h'
       rw [CM_] at h
       generalize hdd : fr.defers = dd at q3
       cases q3 with
       | @cons _ d' _ ds' k1 k2 =>
         have hc' : CxR r base (.cx up (some ds)) fr ds' cs := ⟨q1, q2, k2⟩
         have h0 := hunw (w := w) (dd := d' :: ds')
         have hfr' : ({ fr with defers := d' :: ds' } : Frame) = fr := by rw [← hdd]
         rw [hfr'] at h0
         have hF2 : ∀ {r' : Inj} {m : FrameMode} {m3 : FrameMode} {cx : Ctx}, r.le r' → m ≠ .run → MoR r' m m3 → cx = .cx up (some ds) → FR E.P r' { af with mode := m } cx base { fr with defers := ds', mode := m3 } cs := by
           intro r' m m3 cx hle hne hmo hcx
           refine ⟨hF.fn, hF.size, hF.tm.mono hle, fun e => absurd e hne, hmo, hF.round.mono hle, hF.rk, hF.known, ?_⟩
           rw [hcx]
           exact hc'.mono hle
         cases k1 with
         | @coll bb bb' o hbb =>
           replace h : M.bind (rdC bb) (fun c => (match c with | .O (.deferred (some [])) => M.bind (wrC bb (.O (.deferred none))) fun _ => M.pure (Step.go af) | _ => M.fail)) ⟨s.mem, s.next, s.lim, s.rd, s.wr, .cx up (some ds)⟩ = .some p s' := h
           obtain ⟨c, s1, e1, e2⟩ := bind_some h
           obtain ⟨z1, z2⟩ := B0 e1
           have fin : c = .O (.deferred (some [])) := by
             cases c with
             | C a b => cases e2
             | O o =>
               cases o with
               | deferred l =>
                 cases l with
                 | none => cases e2
                 | some l => cases l with
                   | nil => rfl
                   | cons => cases e2
               | _ => cases e2
           subst fin
           obtain ⟨u, s2, e3, e4⟩ := bind_some e2
           obtain ⟨rfl, rfl⟩ := Af e4
           obtain ⟨b2, d2, o', y1, y2, y3⟩ := hr.obj _ _ z1 rfl
           rw [hbb] at y1
           cases y1
           have ho' : o' = .deferred (some []) := by
             unfold OR at y3
             cases o' with
             | deferred l =>
               cases l with
               | none => exact y3.elim
               | some l => cases l with
                 | nil => rfl
                 | cons => exact y3.elim
             | _ => exact y3.elim
           subst ho'
           obtain ⟨x1, x2, x3⟩ := FX (o2' := .deferred none) e3 (by rw [z2.1]; exact hr) (by rw [z2.1]; exact z1) rfl hbb (by simp [OR]) rfl
           have hgo : Goes w0 r s s2 r (World.setO w bb' (.deferred none)) := ⟨x1.le, by rw [← show (⟨s.mem, s.next, s.lim, s.rd, s.wr, .cx up (some ds)⟩ : St).next = s.next from rfl, ← z2.2.1]; exact x1.nxt, fun b hb => by
             have := x1.domB b hb; rw [z2.2.1] at this; exact this, fun b hb => by have := x1.domE b hb; rw [z2.2.1] at this; exact this, x1.rel⟩
           refine ⟨_, r, hgo, x2.trans z2.2.2.1, { fr with defers := ds', mode := fr.mode }, cs, rfl, hF2 (m := af.mode) (Inj.le_refl r) hm hF.mode (x3.trans z2.2.2.2), .one (step_lone_go ?_)⟩
           rw [h0]
           have hrun : (Instr.takeDeferred bb').run E.P w = .ok [] (World.setO w bb' (.deferred none)) := by
             simp [Instr.takeDeferred, getObj, setObj, Sem.run, y2, World.setO]
           simp only [unwind, hdd, Sem.runT_eq, hrun, GStep.bare_after]
           rfl
         | @fn f f' cc cc' aa aa' j1 j2 j3 =>
           cases f with
           | func f =>
             cases f' with
             | func f' =>
               simp only [FnR] at j1
               subst j1
               replace h : M.bind (dcall f (aa.toList ++ cc.toList) af.mode) (Jk af) ⟨s.mem, s.next, s.lim, s.rd, s.wr, .cx up (some ds)⟩ = .some p s' := h
               obtain ⟨p1, s1, e1, e2⟩ := bind_some h
               have hnx : s'.next = s1.next ∧ s'.lim = s1.lim ∧ s'.cx = s1.cx ∧ s'.mem = s1.mem ∧ p = .go { af with mode := match p1.1 with | none => Et p1.2 | some c => Ht p1.2 c } ∧ (p1.1 = none → Et p1.2 ≠ .run) := by
                 unfold Jk at e2
                 cases hp : p1.1 with
                 | none =>
                   rw [hp] at e2
                   simp only at e2
                   cases hD : Et p1.2 with
                   | run => rw [hD] at e2; cases e2
                   | returning => rw [hD] at e2; cases e2; exact ⟨rfl, rfl, rfl, rfl, rfl, fun _ h => by cases h⟩
                   | panicking c => rw [hD] at e2; cases e2; exact ⟨rfl, rfl, rfl, rfl, rfl, fun _ h => by cases h⟩
                 | some c => rw [hp] at e2; cases e2; exact ⟨rfl, rfl, rfl, rfl, rfl, fun h => by cases h⟩
               obtain ⟨n1, n2, n3, n4, rfl, n5⟩ := hnx
               obtain ⟨i1, i2⟩ := c3.ok (out := .inl p1) (args' := aa'.toList ++ cc'.toList) e1 hr hb (by rw [← n1]; exact hf) (j3.append j2) hF.mode
               obtain ⟨w', r', p', m2, a1, a2, a3, a4, a5, a6⟩ := i2 { fr with defers := ds' } cs rfl
               cases a1
               have hgo : Goes w0 r s s' r' w' := ⟨a2.le, by rw [n1]; exact a2.nxt, fun b hb => by rw [n1]; exact a2.domB b hb, fun b hb => by rw [n1]; exact a2.domE b hb, by rw [n4]; exact a2.rel⟩
               have henter : step E.P (lone fr cs w) = .next (lone (Frame.enter E.P f (aa'.toList ++ cc'.toList).toArray .deferred) ({ fr with defers := ds' } :: cs) w) := by
                 refine step_lone_go ?_
                 rw [h0]
                 have e0 : aa' ++ cc' = (aa'.toList ++ cc'.toList).toArray := by apply Array.toList_inj.1; simp
                 have hrun : (invoke (.fn (.func f) cc') aa').run E.P w = .ok (.enter f (aa'.toList ++ cc'.toList).toArray) w := by
                   simp only [invoke, e0, i1]
                 simp only [unwind, hdd, callDeferred, Sem.runT_eq, hrun]
                 rfl
               cases hp : p1.1 with
               | none =>
                 rw [hp] at a6
                 obtain ⟨v', a6⟩ := a6
                 obtain ⟨m3, t1, t2⟩ := Hn_ a5 { fr with defers := ds' } v'
                 rw [t1] at a6
                 have hne : Et p1.2 ≠ .run := n5 hp
                 exact ⟨w', r', hgo, by rw [n2]; exact a3, { fr with defers := ds', mode := m3 }, cs, rfl, hF2 a2.le hne t2 (n3.trans a4), .head henter a6⟩
               | some ch =>
                 rw [hp] at a6
                 obtain ⟨ch', a6, a7⟩ := a6
                 obtain ⟨m3, t1, t2⟩ := Do_ a5 a6 { fr with defers := ds' }
                 rw [t1] at a7
                 have hne : Ht p1.2 ch ≠ .run := by
                   unfold Ht
                   cases p1.2 <;> (intro h; cases h)
                 exact ⟨w', r', hgo, by rw [n2]; exact a3, { fr with defers := ds', mode := m3 }, cs, rfl, hF2 a2.le hne t2 (n3.trans a4), .head henter a7⟩
             | _ => simp only [FnR] at j1
           | _ => cases h
end
section
variable {E : Env} {call round : Ae} {dcall : Dh} {w0 w : World} {r : Inj} {base : List Deferred × List Frame}
theorem FinE.head {P : Program} {cx' : Ctx} {fr fr0 : Frame} (hk : Kin fr0 fr) {m m1 : Machine} {w' : World} {out : Out (Value × FrameMode)} (hs : Steps P m m1) (h : FinE P r base cx' fr m1 w' out) : FinE P r base cx' fr0 m w' out := by
 obtain ⟨cs', h1, h2⟩ := h
 unfold Kin at hk
 simp only [Prod.mk.injEq] at hk
 obtain ⟨e1, e2, e3⟩ := hk
 rw [e1] at h1
 refine ⟨cs', h1, ?_⟩
 cases out with
 | inl p =>
   obtain ⟨v', q1, q2, q3⟩ := h2
   rw [e1, e2, e3] at *
   exact ⟨v', q1, fun c rest e => hs.trans (q2 c rest e), fun a b => let ⟨fr', x, y, z⟩ := q3 a b; ⟨fr', x, y, hs.trans z⟩⟩
 | inr ch => obtain ⟨ch', q1, q2⟩ := h2; exact ⟨ch', q1, fun c rest e => hs.trans (q2 c rest e)⟩
theorem BJ.head {P : Program} {cx' : Ctx} {fr fr0 : Frame} (hk : Kin fr0 fr) {m m1 : Machine} {w' : World} {out : Out Step} (hs : Steps P m m1) (h : BJ P r base cx' fr m1 w' out) : BJ P r base cx' fr0 m w' out := by
 cases out with
 | inr ch => exact FinE.head hk hs h
 | inl p =>
   cases p with
   | fin v up => exact FinE.head hk hs h
   | go af' =>
     obtain ⟨fr', cs', q1, q2, q3⟩ := h
     exact ⟨fr', cs', q1.trans hk, q2, hs.trans q3⟩
theorem JA (he : EnvOK E) (c1 : CallOK E call) (c2 : RoundOK E round) (c3 : DeferOK E dcall) {af : AF} {fr : Frame} {cs : List Frame} {s s' : St} {out : Out Step} (h : BF E call round dcall af s = rOf out s') (hF : FR E.P r af s.cx base fr cs)
   (hr : Rel w0 r s.mem w) (hb : Bnd s) (hf : AL r s.next s'.next) :
   ∃ w' r', Goes w0 r s s' r' w' ∧ s'.lim = s.lim ∧ BJ E.P r' base s'.cx fr (lone fr cs w) w' out := by
 by_cases hm : af.mode = .run
 · rw [QT af hm] at h
   obtain ⟨p, hout, h'⟩ := Fl h
   clear h
   subst hout
   have h := h'
   clear h'
   have hsk := Ct (P := E.P) (b := fr) (t := fr.tmps) (d := fr.defers) (cs := cs) (w := w) 64 af.todo
   rw [← hF.frm hm] at hsk
   have hF' := hF.to (skim 64 af.todo)
   rw [← hm] at hF'
   have fin : ∃ w' r', Goes w0 r s s' r' w' ∧ s'.lim = s.lim ∧ BJ E.P r' base s'.cx (frm fr fr.tmps fr.defers (skim 64 af.todo)) (lone (frm fr fr.tmps fr.defers (skim 64 af.todo)) cs w) w' (.inl p) := by
     cases ht : skim 64 af.todo with
     | nil => rw [ht] at h hF'; exact KN (out := .inl p) h hF' hm hr hF'.csr (.inl ⟨rfl, rfl⟩)
     | cons x k => rw [ht] at h hF'; exact AZ_ (out := .inl p) he c1 c2 h hF' hm rfl hr hb hf
   obtain ⟨w', r', k1, k2, k3⟩ := fin
   exact ⟨w', r', k1, k2, k3.head rfl hsk⟩
 · rw [ON af hm] at h
   exact Ui he c3 h hF hm hr hb hf
structure RunOK (E : Env) (run : AF → M (Value × FrameMode)) : Prop where
  loc : ∀ af, Loc (run af)
  ok : ∀ {w0 w : World} {r : Inj} {base : List Deferred × List Frame} {af : AF} {fr : Frame} {cs : List Frame} {s : St} {out : Out (Value × FrameMode)} {s' : St}, run af s = rOf out s' → FR E.P r af s.cx base fr cs → Rel w0 r s.mem w → Bnd s → AL r s.next s'.next →
    ∃ w' r', Goes w0 r s s' r' w' ∧ s'.lim = s.lim ∧ FinE E.P r' base s'.cx fr (lone fr cs w) w' out
theorem MX {g : Nat} {y : Nat} {v : Value} : ∀ {l : List Value} {i : Nat} {t : T Value}, T.get (C1 g l i t) y = some v → (∃ j, y = i + j ∧ l[j]? = some v ∧ Nat.testBit g y = true) ∨ T.get t y = some v
 | [], _, _, h => .inr h
 | a :: l, i, t, h => by
   replace h : T.get (C1 g l (Nat.succ i) (putG g i a t)) y = some v := h
   rcases MX h with ⟨j, h1, h2, h3⟩ | h
   · exact .inl ⟨j + 1, by omega, by simpa using h2, h3⟩
   · unfold putG at h
     cases hb : Nat.testBit g i with
     | false => rw [hb] at h; exact .inr h
     | true =>
       rw [hb] at h
       simp only [T.get_set] at h
       split at h
       · rename_i hy
         cases h
         exact .inl ⟨0, hy, rfl, by rw [hy]; exact hb⟩
       · exact .inr h
theorem PZ {f : Nat} {args : List Value} {kind : CallKind} {s s' : St} {af : AF} (h : BL E f args kind s = .some af s') : s = s' ∧ ∃ fn c, E.fn.get f = some fn ∧ fn.body = some c ∧ args.length ≤ fn.ntmps ∧
   af = { fn := f, n := fn.ntmps, glob := BK fn, tmps := C1 (BK fn) args 0 .E, todo := [.code c], mode := .run, kind, roundOf := none } := by
 unfold BL at h
 obtain ⟨fn, h1, h⟩ := AS h
 obtain ⟨c, h2, h⟩ := AS h
 obtain ⟨h3, h⟩ := AP h
 rw [AG, AG] at h
 obtain ⟨rfl, rfl⟩ := Af h
 exact ⟨rfl, fn, c, h1, h2, Nat.le_of_ble_eq_true h3, rfl⟩
theorem Pa (f : Nat) (args : List Value) (kind : CallKind) : Loc (BL E f args kind) := Ah _ fun _fn => Ah _ fun _c => Ak _ (Ao _ fun _n => Ao _ fun _g => Ab _)
theorem Gh (f : Nat) (args : List Value) (kind : CallKind) : NoPan (BL E f args kind) := Ai _ fun _fn => Ai _ fun _c => An _ (As _ fun _n => As _ fun _g => Ag _)
theorem Ic (he : EnvOK E) {f : Nat} {args args' : List Value} {kind : CallKind} {s s' : St} {af : AF} (h : BL E f args kind s = .some af s') (ha : VRs r args args') {cx : Ctx} {cs : List Frame} (hcx : CxR r base cx (Frame.enter E.P f args'.toArray kind) [] cs) :
   (∀ w, (callFunc f args'.toArray).run E.P w = .ok (.enter f args'.toArray) w) ∧ FR E.P r af cx base (Frame.enter E.P f args'.toArray kind) cs ∧ s = s' := by
 obtain ⟨rfl, fn, c, h1, h2, h3, rfl⟩ := PZ h
 obtain ⟨k1, k2⟩ := he.fn f fn h1
 refine ⟨fun w => ?_, ⟨rfl, ?_, ?_, fun _ => ?_, .run, True.intro, fun e => absurd rfl e, fun _ => ⟨fn, k1⟩, hcx⟩, rfl⟩
 · unfold callFunc
   simp [Sem.run, program, k1, k2, h2]
 · simp only [Frame.enter, k1, Option.map_some, Option.getD_some, Array.size_append, List.size_toArray, Array.size_replicate]
   have := ha.1
   omega
 · intro y v e
   rcases MX e with ⟨j, e1, e2, e3⟩ | e
   · obtain ⟨v', q1, q2⟩ := ha.get e2
     refine ⟨e3, v', ?_, q2⟩
     rw [Nat.zero_add] at e1
     subst e1
     simp only [Frame.enter]
     rw [Array.getElem?_append_left (by simpa using (List.getElem?_eq_some_iff.1 q1).1)]
     simpa using q1
   · cases e
 · simp [Frame.enter, k1, h2]
theorem Qr {α : Type} (c : Ctx) (m : M α) (s : St) : within c m s = match m ⟨s.mem, s.next, s.lim, s.rd, s.wr, c⟩ with
   | .none => .none
   | .some a s1 => .some a ⟨s1.mem, s1.next, s1.lim, s1.rd, s1.wr, s.cx⟩
   | .pan p s1 => .pan p ⟨s1.mem, s1.next, s1.lim, s1.rd, s1.wr, s.cx⟩ := by
 obtain ⟨mem, next, lim, rd, wr, cx⟩ := s
 unfold within
 simp only
 cases m ⟨mem, next, lim, rd, wr, c⟩ <;> rfl
theorem Dq {α : Type} {c : Ctx} {m : M α} {s s' : St} {o : Out α} (h : within c m s = rOf o s') : ∃ s1, m ⟨s.mem, s.next, s.lim, s.rd, s.wr, c⟩ = rOf o s1 ∧ s' = ⟨s1.mem, s1.next, s1.lim, s1.rd, s1.wr, s.cx⟩ := by
 rw [Qr] at h
 cases e : m ⟨s.mem, s.next, s.lim, s.rd, s.wr, c⟩ with
 | none => rw [e] at h; exact (AH h).elim
 | some a s1 => rw [e] at h; obtain ⟨rfl, rfl⟩ := AU h; exact ⟨s1, rfl, rfl⟩
 | pan p s1 => rw [e] at h; obtain ⟨rfl, rfl⟩ := GN h; exact ⟨s1, rfl, rfl⟩
theorem JZ {α : Type} (c : Ctx) {m : M α} (h : Loc m) : Loc (within c m) := ⟨fun s o s' e hb => by
 obtain ⟨s1, e1, rfl⟩ := Dq e
 obtain ⟨Rd, Wr, dr, dw, g, i1, i2⟩ := h.at' _ o s1 e1 hb
 refine ⟨Rd, Wr, dr, dw, ⟨g.rd, g.wr, g.nxt, g.lim, g.bnd, g.rlt, g.wlt, g.old, fun t e1 e2 e3 e4 => ?_⟩, i1, i2⟩
 obtain ⟨t', q1, q2, q3, q4, q5, q6, q7, q8⟩ := g.any ⟨t.mem, t.next, t.lim, t.rd, t.wr, c⟩ e1 e2 rfl e4
 refine ⟨⟨t'.mem, t'.next, t'.lim, t'.rd, t'.wr, t.cx⟩, ?_, q2, q3, e3, q5, q6, q7, q8⟩
 rw [Qr, q1]
 cases o <;> rfl⟩
theorem Ex {run : AF → M (Value × FrameMode)} {m : M AF} (hm : NoPan m) {s s' : St} {out : Out Value} (h : M.bind (M.bind m run) fstV s = rOf out s') :
   ∃ af s1 o, m s = .some af s1 ∧ run af s1 = rOf o s' ∧ out = (match o with | .inl p => .inl p.1 | .inr c => .inr c) := by
 rcases Ba h with ⟨p, s2, e1, e2⟩ | ⟨c, e1, rfl⟩
 · obtain ⟨af, s1, e3, e4⟩ := bind_some e1
   obtain ⟨rfl, rfl⟩ := AU (show R.some p.1 s2 = rOf out s' from e2)
   exact ⟨af, s1, .inl p, e3, e4, rfl⟩
 · rcases Ip e1 with e3 | ⟨af, s1, e3, e4⟩
   · exact (hm.no _ _ _ e3).elim
   · exact ⟨af, s1, .inr c, e3, e4, rfl⟩
theorem LZ (he : EnvOK E) {run : AF → M (Value × FrameMode)} (hrun : RunOK E run) : CallOK E (AJ E run) where
 loc := fun f args => by
   unfold AJ
   cases ho : E.orc.get f with
   | some m => exact he.orcLoc f m ho args
   | none =>
     cases hx : E.ext.get f with
     | some m => exact he.extLoc f m hx args
     | none => exact JZ _ (Aa (Aa (Pa _ _ _) hrun.loc) fun p => Ab _)
 ok := by
   intro w0 w r f args args' s out s' h hr hb hf ha
   unfold AJ at h
   cases ho : E.orc.get f with
   | some m => rw [ho] at h; exact .inl (he.orc ho h hr hb hf ha)
   | none =>
     rw [ho] at h
     cases hx : E.ext.get f with
     | some m => rw [hx] at h; exact .inr ⟨(fun e => by cases e), he.ext hx h hr ha⟩
     | none =>
     rw [hx] at h
     refine .inl ?_
     obtain ⟨s2, e1, rfl⟩ := Dq (show within cxN (M.bind (M.bind (BL E f args .normal) run) fstV) s = rOf out s' from h)
     obtain ⟨af, s1, o, e2, e3, rfl⟩ := Ex (Gh _ _ _) e1
     have hen := fun (c : Frame) (cs : List Frame) => Ic (base := ([], c :: cs)) (cx := cxN) he e2 ha (cs := c :: cs) ⟨⟨rfl, rfl⟩, rfl, .nil⟩
     refine ⟨(hen default []).1, fun c cs => ?_⟩
     obtain ⟨_, hF, rfl⟩ := hen c cs
     obtain ⟨w', r', k1, k2, cs', k3, k4⟩ := hrun.ok e3 hF hr hb hf
     have hcs : cs' = c :: cs := by
       rcases k3 with k3 | ⟨_, _, _, _, _, k, _⟩
       · exact k3.2
       · cases k
     refine ⟨w', r', ⟨k1.le, k1.nxt, k1.domB, k1.domE, k1.rel⟩, k2, rfl, ?_⟩
     cases o with
     | inl p =>
       obtain ⟨v', q1, q2, q3⟩ := k4
       exact ⟨v', q1, q2 c cs hcs⟩
     | inr ch =>
       obtain ⟨ch', q1, q2⟩ := k4
       exact ⟨ch', q1, q2 c cs hcs⟩
theorem N5 {g : Nat} {y : Nat} {v : Value} : ∀ {ps : List Nat} {l : List Value} {t : T Value}, T.get (Hl g ps l t) y = some v → ∀ {_n : Nat} {r : Inj} {tt : Array Value} {l' : List Value}, TmR r g t tt → VRs r l l' → l.length = ps.length → (∀ p ∈ ps, p < tt.size) →
   Nat.testBit g y = true ∧ ∃ v', ((ps.zip l').foldl (fun tmps (x : Nat × Value) => tmps.setIfInBounds x.1 x.2) tt)[y]? = some v' ∧ VR r v v'
 | [], l, t, h, n, r, tt, l', hT, hl, _, _ => by simpa using hT y v h
 | p :: ps, [], t, h, n, r, tt, l', hT, hl, hlen, _ => by simp at hlen
 | p :: ps, a :: l, t, h, n, r, tt, l', hT, hl, hlen, hp => by
   obtain ⟨a', l1, rfl, q1, q2⟩ := hl.inv
   replace h : T.get (Hl g ps l (putG g p a t)) y = some v := h
   have hps : p < tt.size := hp p List.mem_cons_self
   have := N5 h (_n := n) (r := r) (tt := tt.setIfInBounds p a') (l' := l1) (fun x u e => by
     unfold putG at e
     cases hb : Nat.testBit g p with
     | true =>
       rw [hb] at e
       simp only [T.get_set] at e
       split at e
       · rename_i hx
         cases e
         subst hx
         exact ⟨hb, a', by simp [hps], q1⟩
       · rename_i hx
         obtain ⟨z1, u', z2, z3⟩ := hT x u e
         exact ⟨z1, u', by rw [Array.getElem?_setIfInBounds_ne (fun e => hx e.symm)]; exact z2, z3⟩
     | false =>
       rw [hb] at e
       obtain ⟨z1, u', z2, z3⟩ := hT x u e
       refine ⟨z1, u', ?_, z3⟩
       rw [Array.getElem?_setIfInBounds_ne]
       · exact z2
       · intro hx
         subst hx
         rw [z1] at hb
         cases hb) q2 (by simpa using hlen) (fun x hx => by rw [Array.size_setIfInBounds]; exact hp x (List.mem_cons_of_mem _ hx))
   simpa using this
theorem Qp : ∀ (l : List (Nat × Value)) (tt : Array Value), (l.foldl (fun tmps (x : Nat × Value) => tmps.setIfInBounds x.1 x.2) tt).size = tt.size
 | [], tt => rfl
 | p :: l, tt => by rw [List.foldl_cons, Qp l]; simp
theorem Bi_ (l : Nat) (args : List Value) : Loc (FN l args) := by
 unfold FN
 refine Aa (B1 _) fun c => ?_
 cases c with
 | C a b => exact Ad
 | O o => cases o <;> first | exact Ad | exact Ak _ (Ab _)
theorem Ys (l : Nat) (args : List Value) : NoPan (FN l args) := by
 unfold FN
 refine Ac (B7 _) fun c => ?_
 cases c with
 | C a b => exact Aj
 | O o => cases o <;> first | exact Aj | exact An _ (Ag _)
theorem Sr {run : AF → M (Value × FrameMode)} (hrun : RunOK E run) : RoundOK E (BB run) where
 loc := fun l args => DX (JZ _ (Aa (Aa (Bi_ _ _) hrun.loc) fun p => Ab _))
 ok := by
   intro w0 w r l l' d args args' s out s' h hr hb hf ha hl
   obtain ⟨v, hout, h'⟩ := Fl h
   clear h
   subst hout
   have h := h'
   clear h'
   obtain ⟨s2, e1, rfl⟩ := Dq (o := .inl v) h
   obtain ⟨af, s1, o, e2, e3, e4⟩ := Ex (Ys _ _) e1
   cases o with
   | inr c => cases e4
   | inl p =>
     cases e4
     unfold FN at e2
     obtain ⟨c, s3, e5, e6⟩ := bind_some e2
     obtain ⟨z1, z2⟩ := B0 e5
     cases c with
     | C a b => cases e6
     | O o =>
       cases o with
       | loop st pe f n g tm ps as bd df =>
         obtain ⟨e7, e8⟩ := AP e6
         obtain ⟨rfl, rfl⟩ := Af e8
         rw [Bool.and_eq_true] at e7
         obtain ⟨b', d', o', y1, y2, y3⟩ := hr.obj _ _ z1 rfl
         rw [hl] at y1
         cases y1
         cases o' with
         | loop L =>
           obtain ⟨j1, j2, j3, j4, j5, j6, j7, j8, j9⟩ := y3
           have hlen : args.length = ps.length := Nat.eq_of_beq_eq_true e7.1
           have hps : ∀ p ∈ ps, p < L.tmps.size := fun p hp => by
             rw [j4]
             exact A3 (List.all_eq_true.1 e7.2 p hp)
           have hsize : args'.toArray.size = L.params.size := by
             rw [List.size_toArray, ← ha.1, hlen, ← j6, Array.length_toList]
           have hzip : (L.params.zip args'.toArray).foldl (fun tmps (x : Nat × Value) => tmps.setIfInBounds x.1 x.2) L.tmps = (ps.zip args').foldl (fun tmps (x : Nat × Value) => tmps.setIfInBounds x.1 x.2) L.tmps := by
             rw [← Array.foldl_toList, Array.toList_zip, j6]
           refine ⟨L.fn, (ps.zip args').foldl (fun tmps (x : Nat × Value) => tmps.setIfInBounds x.1 x.2) L.tmps, L.assign, L.body, ?_, fun c cs => ?_⟩
           · simp only [Instr.yield, Sem.run_bind, GW y2, Result.andThen_ok]
             rw [if_neg (by simpa using hsize)]
             simp only [Sem.run_pure, ← hzip]
           · have hF : FR E.P r { fn := f, n, glob := g, tmps := Hl g ps args tm, todo := [.code as, .beginRound, .code bd], mode := .run, kind := .normal, roundOf := some l } cxR ([], c :: cs)
                 (Frame.round l' L.fn ((ps.zip args').foldl (fun tmps (x : Nat × Value) => tmps.setIfInBounds x.1 x.2) L.tmps) L.assign L.body .normal) (c :: cs) := by
               refine ⟨j3, by simp only [Frame.round]; rw [Qp, j4], fun y v e => N5 e (_n := n) j5 ha hlen hps, fun _ => ?_, .run, ⟨d, hl⟩, fun _ => rfl, (fun e => by cases e), ⟨⟨rfl, rfl⟩, (by simp [Frame.round]), rfl⟩⟩
               simp only [Frame.round, j7, j8]
             have z2' : s3.mem = s.mem ∧ s3.next = s.next ∧ s3.lim = s.lim ∧ s3.cx = cxR := z2
             obtain ⟨w', r', k1, k2, cs', k3, k4⟩ := hrun.ok (out := .inl p) e3 (by rw [z2'.2.2.2]; exact hF) (by rw [z2'.1]; exact hr) (show s3.lim ≤ s3.next by rw [z2'.2.2.1, z2'.2.1]; exact hb) (by rw [z2'.2.1]; exact hf)
             have hcs : cs' = c :: cs := by
               rcases k3 with k3 | ⟨_, _, _, _, _, k, _⟩
               · exact k3.2
               · cases k
             obtain ⟨v', q1, q2, q3⟩ := k4
             refine ⟨w', r', ⟨k1.le, by rw [← z2'.2.1]; exact k1.nxt, fun b hb => by rw [← z2'.2.1]; exact k1.domB b hb, fun b hb => by rw [← z2'.2.1]; exact k1.domE b hb, k1.rel⟩, by rw [← z2'.2.2.1]; exact k2, rfl, v', q1, q2 c cs hcs⟩
         | _ => exact y3.elim
       | _ => cases e6
theorem PJ (he : EnvOK E) {run : AF → M (Value × FrameMode)} (hrun : RunOK E run) : DeferOK E (D1 E run) where
 loc := fun f args m => JZ _ (by
   refine GP (m := M.bind (BL E f args .deferred) run) (f := fun p => M.pure (none, p.2)) (g := fun c => M.bind getCx fun cx => M.pure (some c, upOf cx)) (Aa (Pa _ _ _) hrun.loc) (fun p => Ab _) fun c => Aa Hx fun cx => Ab _)
 ok := by
   intro w0 w r f args args' m m' s out s' h hr hb hf ha hm
   obtain ⟨s2, e1, rfl⟩ := Dq h
   have e1' : R.rec (motive := fun _ => R (Option (List PanicEntry) × FrameMode)) .none (fun p s => .some (none, p.2) s) (fun c s => .some (some c, upOf s.cx) s) (M.bind (BL E f args .deferred) run ⟨s.mem, s.next, s.lim, s.rd, s.wr, .cx (some m) (some [])⟩) = rOf out s2 := e1
   have main : ∃ af s1 o, BL E f args .deferred ⟨s.mem, s.next, s.lim, s.rd, s.wr, .cx (some m) (some [])⟩ = .some af s1 ∧ run af s1 = rOf o s2 ∧ out = .inl (match o with | .inl p => (none, p.2) | .inr c => (some c, upOf s2.cx)) := by
     cases e2 : M.bind (BL E f args .deferred) run ⟨s.mem, s.next, s.lim, s.rd, s.wr, .cx (some m) (some [])⟩ with
     | none => rw [e2] at e1'; exact (AH e1').elim
     | some p s3 =>
       rw [e2] at e1'
       obtain ⟨rfl, rfl⟩ := AU (show R.some (none, p.2) s3 = rOf out s2 from e1')
       obtain ⟨af, s1, e3, e4⟩ := bind_some e2
       exact ⟨af, s1, .inl p, e3, e4, rfl⟩
     | pan c s3 =>
       rw [e2] at e1'
       obtain ⟨rfl, rfl⟩ := AU (show R.some (some c, upOf s3.cx) s3 = rOf out s2 from e1')
       rcases Ip e2 with e3 | ⟨af, s1, e3, e4⟩
       · exact ((Gh _ _ _).no _ _ _ e3).elim
       · exact ⟨af, s1, .inr c, e3, e4, rfl⟩
   obtain ⟨af, s1, o, e2, e3, rfl⟩ := main
   have hen := fun (c : Frame) (cs : List Frame) (hc : c.mode = m') => Ic (base := ([], c :: cs)) (cx := .cx (some m) (some [])) he e2 ha (cs := c :: cs) ⟨⟨rfl, c, cs, m', rfl, by rw [← hc], hm⟩, rfl, .nil⟩
   refine ⟨(hen { (default : Frame) with mode := m' } [] rfl).1, fun c cs hc => ?_⟩
   obtain ⟨_, hF, rfl⟩ := hen c cs hc
   obtain ⟨w', r', k1, k2, cs', k3, k4⟩ := hrun.ok e3 hF hr hb hf
   rcases k3 with ⟨k3, _⟩ | ⟨u, c0, rest, m2, k5, k6, k7, k8, k9, k10⟩
   · cases k3
   · cases k7
     refine ⟨w', r', _, m2, rfl, ⟨k1.le, k1.nxt, k1.domB, k1.domE, k1.rel⟩, k2, rfl, ?_, ?_⟩
     · cases o with
       | inl p => rw [show p.2 = u from k10 p.1 p.2 rfl]; exact k9
       | inr ch => rw [show upOf s2.cx = u by rw [k5]; rfl]; exact k9
     · cases o with
       | inl p =>
         obtain ⟨v', q1, q2, q3⟩ := k4
         exact ⟨v', q2 _ _ k8⟩
       | inr ch =>
         obtain ⟨ch', q1, q2⟩ := k4
         exact ⟨ch', q1, q2 _ _ k8⟩
theorem El (he : EnvOK E) : ∀ fuel, RunOK E (runF E fuel)
 | 0 => ⟨fun _ => Ad, fun h => (AH h).elim⟩
 | fuel + 1 => by
   have ih := El he fuel
   have c1 := LZ he ih
   have c2 := Sr ih
   have c3 := PJ he ih
   have h0 : ∀ af, runF E (fuel + 1) af = M.bind (BF E (AJ E (runF E fuel)) (BB (runF E fuel)) (D1 E (runF E fuel)) af) (BG (runF E fuel)) := fun _ => rfl
   have lR : ∀ p, Loc (BG (runF E fuel) p) := fun p => by
     cases p with
     | go af => exact ih.loc af
     | fin v u => exact Ab _
   refine ⟨fun af => by rw [h0]; exact Aa (F8 he c1 c2 c3 af) lR, ?_⟩
   intro w0 w r base af fr cs s out s' h hF hr hb hf
   rw [h0] at h
   rcases Ba h with ⟨p, s1, e1, e2⟩ | ⟨c, e1, rfl⟩
   · have L1 := (F8 he c1 c2 c3 af).at' s (.inl p) s1 e1 hb
     have L2 := (lR p).at' s1 out s' e2 L1.bnd
     obtain ⟨w1, r1, k1, k2, k3⟩ := JA (out := .inl p) he c1 c2 c3 e1 hF hr hb (fun b x y => hf b x (Nat.lt_of_lt_of_le y L2.next))
     cases p with
     | go af' =>
       obtain ⟨fr', cs', k4, k5, k6⟩ := k3
       obtain ⟨w2, r2, q1, q2, q3⟩ := ih.ok (show runF E fuel af' s1 = rOf out s' from e2) k5 k1.rel L1.bnd (k1.fresh hf)
       exact ⟨w2, r2, k1.trans q1, q2.trans k2, q3.head k4 k6⟩
     | fin v u =>
       obtain ⟨rfl, rfl⟩ := AU (show R.some (v, u) s1 = rOf out s' from e2)
       exact ⟨w1, r1, k1, k2, k3⟩
   · obtain ⟨w1, r1, k1, k2, k3⟩ := JA (out := .inr c) he c1 c2 c3 e1 hF hr hb hf
     exact ⟨w1, r1, k1, k2, k3⟩
end
theorem Gm {E : Env} (he : EnvOK E) (fuel : Nat) : CallOK E (callF E fuel) := LZ he (El he fuel)
theorem Rel.empty (w : World) {K : Know} (hK : K.sure w) : Rel w (.nil K) .E w :=
 ⟨.refl _ _, (fun b b' d e => by cases e), (fun l b v e => by cases e), (fun l1 l2 b1 v1 b2 v2 b' d1 d2 e => by cases e), (fun l o e => by cases e), (fun l1 l2 o1 o2 b' d1 d2 e => by cases e), (fun t sz e => by cases e), (fun t1 t2 s1 s2 k1 k2 e => by cases e), hK, (fun l n e => by cases e), ⟨(fun l b v e => by cases e), (fun l b v b' d e => by cases e), (fun l o b' d e => by cases e), (fun l n b' d e => by cases e)⟩⟩
def st0 : St := ⟨.E, 0, 0, [], [], .no⟩
theorem O0 {E : Env} (he : EnvOK E) {fuel f : Nat} {v : Value} {s' : St} (ho : E.orc.get f = none) (hx : E.ext.get f = none) (h : callF E fuel f [] st0 = .some v s') (hp : plain v = true) (w : World) : Calls E.P f #[] w fun e w' => e = .returned v ∧ Below w.heap.size w w' := by
 intro cs
 replace h : AJ E (runF E fuel) f [] st0 = .some v s' := h
 unfold AJ at h
 rw [ho, hx] at h
 obtain ⟨s2, e1, rfl⟩ := Dq (o := .inl v) (show within cxN (M.bind (M.bind (BL E f [] .normal) (runF E fuel)) fstV) st0 = rOf (.inl v) s' from h)
 obtain ⟨af, s1, o, e2, e3, e4⟩ := Ex (Gh _ _ _) e1
 obtain ⟨_, hF, rfl⟩ := Ic (r := .nil .no) (base := ([], cs)) (cx := cxN) he e2 .nil (cs := cs) ⟨⟨rfl, rfl⟩, rfl, .nil⟩
 obtain ⟨w', r', k1, k2, cs', k3, k4⟩ := (El he fuel).ok e3 hF (Rel.empty w (Know.no_sure w)) (Nat.le_refl _) (fun _ _ _ => ⟨rfl, rfl⟩)
 cases o with
 | inr c => cases e4
 | inl p =>
   cases e4
   obtain ⟨v', q1, q2, q3⟩ := k4
   obtain ⟨fr', x1, x2, x3⟩ := q3 rfl rfl
   have hcs : cs' = cs := by
     rcases k3 with k3 | ⟨_, _, _, _, _, k, _⟩
     · exact k3.2
     · cases k
   subst hcs
   exact ⟨.returned v', w', fr', ⟨by rw [q1.eq_of_plain hp], k1.rel.below⟩, x3, x1, x2⟩
def T.tab {α : Type} (f : Nat → Option α) (fuel : Nat) : Nat → Nat → T α :=
  Nat.rec (motive := fun _ => Nat → Nat → T α) (fun _ _ => .E) (fun _ ih a s => fN (Nat.add a s) fun b => fN (Nat.add b s) fun c => fN (Nat.add s s) fun d => .N (f a) (ih b d) (ih c d)) fuel
theorem T.tab_succ {α : Type} (f : Nat → Option α) (n a s : Nat) : T.tab f (n + 1) a s = .N (f a) (T.tab f n (a + s) (s + s)) (T.tab f n (a + s + s) (s + s)) := by
 show fN (Nat.add a s) (fun b => fN (Nat.add b s) fun c => fN (Nat.add s s) fun d => T.N (f a) (T.tab f n b d) (T.tab f n c d)) = _
 rw [AG, AG, AG]
 rfl
theorem T.tab_some {α : Type} (f : Nat → Option α) : ∀ (n a s k : Nat) {x : α}, T.get (T.tab f n a s) k = some x → f (a + s * k) = some x
 | 0, _, _, _, _, h => by cases h
 | n + 1, a, s, 0, x, h => by
   rw [T.tab_succ, T.get_zero] at h
   simpa using h
 | n + 1, a, s, k + 1, x, h => by
   rw [T.tab_succ, T.get_succ] at h
   split at h
   · rename_i hk
     have := T.tab_some f n _ _ _ h
     rw [← this]
     congr 1
     have e : k = 2 * (k / 2) := by omega
     rw [Nat.add_mul, Nat.mul_add, ← Nat.two_mul, Nat.mul_left_comm, ← e]
     omega
   · rename_i hk
     have := T.tab_some f n _ _ _ h
     rw [← this]
     congr 1
     have e : k = 2 * (k / 2) + 1 := by omega
     have e2 : s * (k + 1) = s * (2 * (k / 2)) + s + s := by rw [e]; rw [show 2 * ((2 * (k / 2) + 1) / 2) = 2 * (k / 2) by omega]; rw [Nat.mul_add, Nat.mul_add]; omega
     rw [e2, Nat.add_mul, ← Nat.two_mul, Nat.mul_left_comm]
     omega
theorem T.tab_get {α : Type} (f : Nat → Option α) : ∀ (n a s k : Nat), k + 1 < 2 ^ n → T.get (T.tab f n a s) k = f (a + s * k)
 | 0, _, _, k, h => by simp at h
 | n + 1, a, s, 0, _ => by rw [T.tab_succ]; rfl
 | n + 1, a, s, k + 1, h => by
   rw [T.tab_succ, T.get_succ]
   split
   · rename_i hk
     rw [T.tab_get f n _ _ _ (by rw [Nat.pow_succ] at h; omega)]
     congr 1
     have e : k = 2 * (k / 2) := by omega
     rw [Nat.add_mul, Nat.mul_add, ← Nat.two_mul, Nat.mul_left_comm, ← e]
     omega
   · rename_i hk
     rw [T.tab_get f n _ _ _ (by rw [Nat.pow_succ] at h; omega)]
     congr 1
     have e : k = 2 * (k / 2) + 1 := by omega
     have e2 : s * (k + 1) = s * (2 * (k / 2)) + s + s := by rw [e]; rw [show 2 * ((2 * (k / 2) + 1) / 2) = 2 * (k / 2) by omega]; rw [Nat.mul_add, Nat.mul_add]; omega
     rw [e2, Nat.add_mul, ← Nat.two_mul, Nat.mul_left_comm]
     omega
def ti0 (P : Program) (t : Nat) : Option TI :=
  match P.info? t, P.underlying t with
  | some n, some u => (match n.zero with
    | some z => Bool.rec (motive := fun _ => Option TI) none (some ⟨u, n.size, aggD u, z.cells.toList, n.bytes⟩) (Nat.beq z.cells.toList.length n.size && z.cells.toList.all plain && (aggV z == aggD u))
    | none => none)
  | _, _ => none
def EI (ok : Nat → Bool) (u : TypeDesc) : Bool :=
  match u with
  | .struct fs => fs.toList.all fun f => ok f.type
  | _ => true
def tyB (P : Program) (n : Nat) : Nat → Bool :=
  Nat.rec (motive := fun _ => Nat → Bool) (fun _ => false) (fun _ ih t => Nat.blt t 4095 && Option.rec (motive := fun _ => Bool) false (fun i => EI ih i.u) (ti0 P t)) n
def tyAt (P : Program) (t : Nat) : Option TI := Bool.rec (motive := fun _ => Option TI) none (ti0 P t) (tyB P 8 t)
def fnAt (P : Program) (f : Nat) : Option Func :=
  match P.funcs[f]? with
  | some fn => Bool.rec (motive := fun _ => Option Func) (some fn) none (fn.name == "runtime.NumGoroutine")
  | none => none
def envOf (P : Program) (orc ext : T (List Value → M Value)) : Env := ⟨P, T.tab (tyAt P) 12 0 1, T.tab (fnAt P) 12 0 1, orc, ext⟩
theorem WQ {P : Program} {t : Nat} {i : TI} (h : ti0 P t = some i) : TyOK P t i := by
 unfold ti0 at h
 split at h
 · rename_i n u h1 h2
   split at h
   · rename_i z h3
     cases hb : (Nat.beq z.cells.toList.length n.size && z.cells.toList.all plain && (aggV z == aggD u)) with
     | false => rw [hb] at h; cases h
     | true =>
       rw [hb] at h
       cases h
       rw [Bool.and_eq_true, Bool.and_eq_true] at hb
       refine ⟨⟨n, h1, rfl, rfl, z, h3, rfl⟩, h2, rfl, Nat.eq_of_beq_eq_true hb.1.1, fun v hv => List.all_eq_true.1 hb.1.2 v hv, fun n' z' e1 e2 => ?_⟩
       rw [h1] at e1
       cases e1
       rw [h3] at e2
       cases e2
       exact eq_of_beq hb.2
   · cases h
 · cases h
theorem Mh {P : Program} {n t : Nat} : tyB P (n + 1) t = (Nat.blt t 4095 && Option.rec (motive := fun _ => Bool) false (fun i => EI (tyB P n) i.u) (ti0 P t)) := rfl
theorem MZ {P : Program} : ∀ {n t : Nat}, tyB P n t = true → tyB P (n + 1) t = true
 | 0, _, h => by cases h
 | n + 1, t, h => by
   rw [Mh, Bool.and_eq_true] at h ⊢
   refine ⟨h.1, ?_⟩
   have h2 := h.2
   cases e : ti0 P t with
   | none => rw [e] at h2; cases h2
   | some i =>
     rw [e] at h2
     replace h2 : EI (tyB P n) i.u = true := h2
     show EI (tyB P (n + 1)) i.u = true
     unfold EI at h2 ⊢
     cases hu : i.u with
     | struct fs =>
       rw [hu] at h2
       simp only at h2 ⊢
       exact List.all_eq_true.2 fun f hf => MZ (List.all_eq_true.1 h2 f hf)
     | _ => rfl
theorem Nr {P : Program} {t : Nat} {i : TI} (h : tyAt P t = some i) : tyB P 8 t = true ∧ ti0 P t = some i := by
 unfold tyAt at h
 cases e : tyB P 8 t with
 | false => rw [e] at h; cases h
 | true => rw [e] at h; exact ⟨rfl, h⟩
theorem Ri (P : Program) (orc ext : T (List Value → M Value)) : EnvTy (envOf P orc ext) where
 ok := fun t i h => by
   have h1 := T.tab_some (tyAt P) 12 0 1 t h
   rw [Nat.zero_add, Nat.one_mul] at h1
   exact WQ (Nr h1).2
 flds := fun t i fs h hu f hf => by
   have h1 := T.tab_some (tyAt P) 12 0 1 t h
   rw [Nat.zero_add, Nat.one_mul] at h1
   obtain ⟨h2, h3⟩ := Nr h1
   rw [show (8 : Nat) = 7 + 1 from rfl, Mh, Bool.and_eq_true, h3] at h2
   have h4 : EI (tyB P 7) i.u = true := h2.2
   unfold EI at h4
   rw [hu] at h4
   have h5 : tyB P 7 f.type = true := List.all_eq_true.1 h4 f (by simpa using hf)
   have h6 := MZ h5
   have h7 := h6
   rw [Mh, Bool.and_eq_true] at h7
   have h8 : f.type < 4095 := A3 h7.1
   have h9 : T.get (envOf P orc ext).ty f.type = tyAt P f.type := by
     have := T.tab_get (tyAt P) 12 0 1 f.type (Nat.succ_lt_succ h8)
     rw [Nat.zero_add, Nat.one_mul] at this
     exact this
   rw [h9]
   unfold tyAt
   rw [h6]
   cases e : ti0 P f.type with
   | none => rw [e] at h7; cases h7.2
   | some fi => exact ⟨fi, rfl⟩
theorem NH (P : Program) (orc ext : T (List Value → M Value)) (f : Nat) (fn : Func) (h : T.get (envOf P orc ext).fn f = some fn) : P.funcs[f]? = some fn ∧ fn.name ≠ "runtime.NumGoroutine" := by
 have h1 := T.tab_some (fnAt P) 12 0 1 f h
 rw [Nat.zero_add, Nat.one_mul] at h1
 unfold fnAt at h1
 split at h1
 · rename_i fn' h2
   cases hb : (fn'.name == "runtime.NumGoroutine") with
   | true => rw [hb] at h1; cases h1
   | false =>
     rw [hb] at h1
     cases h1
     exact ⟨h2, fun e => by rw [e] at hb; simp at hb⟩
 · cases h1
theorem envOf_ok (P : Program) (h : P.follows .mixedOrders = true) : EnvOK (envOf P .E .E) :=
 ⟨Ri P .E .E, NH P .E .E, h, (fun f m e => by cases e), (fun e => by cases e), (fun f m e => by cases e), (fun e => by cases e)⟩
structure OrcOK (P : Program) (f : Nat) (m : List Value → M Value) : Prop where
  loc : ∀ args, Loc (m args)
  ok : ∀ {w0 w : World} {r : Inj} {args args' : List Value} {s : St} {out : Out Value} {s' : St}, m args s = rOf out s' → Rel w0 r s.mem w → Bnd s → AL r s.next s'.next → VRs r args args' →
    (∀ w, (callFunc f args'.toArray).run P w = .ok (.enter f args'.toArray) w) ∧
    ∀ c cs, ∃ w' r', Goes w0 r s s' r' w' ∧ s'.lim = s.lim ∧ s'.cx = s.cx ∧ Ends P r' out (lone (Frame.enter P f args'.toArray .normal) (c :: cs) w) c cs w'
def OrcT (P : Program) (orc : T (List Value → M Value)) : Prop := ∀ f m, T.get orc f = some m → OrcOK P f m
theorem OrcT.E (P : Program) : OrcT P .E := fun f m h => by cases h
theorem OrcT.set {P : Program} {orc : T (List Value → M Value)} (h : OrcT P orc) {f : Nat} {m : List Value → M Value} (k : OrcOK P f m) : OrcT P (T.set orc f m) := fun g n e => by
 rw [T.get_set] at e
 split at e
 · rename_i hg
   cases e
   rw [hg]
   exact k
 · exact h g n e
def valR (r : R Value) : Option Value := R.rec (motive := fun _ => Option Value) none (fun v _ => some v) (fun _ _ => none) r
theorem IW {r : R Value} {v : Value} (h : valR r = some v) : ∃ s, r = .some v s := by
 cases r with
 | none => cases h
 | some a s => cases h; exact ⟨s, rfl⟩
 | pan c s => cases h
def SO (v : Value) (args : List Value) : M Value := List.rec (motive := fun _ => M Value) (M.pure v) (fun _ _ _ => M.fail) args
theorem Xe {E : Env} (he : EnvOK E) {fuel f : Nat} {args : List Value} {v : Value} {s s' : St} (ho : E.orc.get f = none) (hx : E.ext.get f = none) (h : callF E fuel f args s = .some v s') (args' : Array Value) (w : World) : (callFunc f args').run E.P w = .ok (.enter f args') w := by
 replace h : AJ E (runF E fuel) f args s = .some v s' := h
 unfold AJ at h
 rw [ho, hx] at h
 obtain ⟨s2, e1, rfl⟩ := Dq (o := .inl v) (show within cxN (M.bind (M.bind (BL E f args .normal) (runF E fuel)) fstV) s = rOf (.inl v) s' from h)
 obtain ⟨af, s1, o, e2, _⟩ := Ex (Gh _ _ _) e1
 obtain ⟨_, fn, c, h1, h2, _⟩ := PZ e2
 obtain ⟨k1, k2⟩ := he.fn f fn h1
 unfold callFunc
 simp [Sem.run, program, k1, k2, h2]
theorem CA_ {E : Env} (he : EnvOK E) {fuel f : Nat} {v : Value} (ho : E.orc.get f = none) (hx : E.ext.get f = none) (h : valR (callF E fuel f [] st0) = some v) (hp : plain v = true) : OrcOK E.P f (SO v) where
 loc := fun args => by cases args <;> first | exact Ab _ | exact Ad
 ok := by
   intro w0 w r args args' s out s' e hr hb hf ha
   obtain ⟨s1, h⟩ := IW h
   cases args with
   | cons a l => exact (AH e).elim
   | nil =>
     obtain ⟨rfl, rfl⟩ := AU (show R.some v s = rOf out s' from e)
     rw [ha.inv_nil]
     refine ⟨fun w => Xe he ho hx h _ w, fun c cs => ?_⟩
     obtain ⟨e, w', fr, ⟨rfl, hbl⟩, hs, _, hl⟩ := O0 he ho hx h hp w (c :: cs)
     exact ⟨w', r, .of_rel rfl (hr.beyond hbl), rfl, rfl, v, .of_plain hp, hs.trans (.one (step_leave_returned hl))⟩
theorem calls_of {E : Env} (he : EnvOK E) {fuel f : Nat} {v : Value} (ho : E.orc.get f = none) (hx : E.ext.get f = none) (h : valR (callF E fuel f [] st0) = some v) (hp : plain v = true) (w : World) : Calls E.P f #[] w fun e w' => e = .returned v ∧ Below w.heap.size w w' := by
 obtain ⟨s1, h⟩ := IW h
 exact O0 he ho hx h hp w
structure ExtOK (P : Program) (f : Nat) (m : List Value → M Value) : Prop where
  loc : ∀ args, Loc (m args)
  ok : ∀ {w0 w : World} {r : Inj} {args args' : List Value} {s : St} {out : Out Value} {s' : St}, m args s = rOf out s' → Rel w0 r s.mem w → VRs r args args' → KX P w0 w r s f args' out s'
def ExtT (P : Program) (ext : T (List Value → M Value)) : Prop := ∀ f m, T.get ext f = some m → ExtOK P f m
theorem ExtT.E (P : Program) : ExtT P .E := fun f m h => by cases h
theorem ExtT.set {P : Program} {ext : T (List Value → M Value)} (h : ExtT P ext) {f : Nat} {m : List Value → M Value} (k : ExtOK P f m) : ExtT P (T.set ext f m) := fun g n e => by
 rw [T.get_set] at e
 split at e
 · rename_i hg
   cases e
   rw [hg]
   exact k
 · exact h g n e
theorem Mt (P : Program) (h : P.follows .mixedOrders = true) {orc ext : T (List Value → M Value)} (ho : OrcT P orc) (hx : ExtT P ext) : EnvOK (envOf P orc ext) :=
 ⟨Ri P orc ext, NH P orc ext, h, fun f m e => (ho f m e).loc, fun e => (ho _ _ e).ok, fun f m e => (hx f m e).loc, fun e => (hx _ _ e).ok⟩
section
variable {P : Program} {f : Nat} {fn : Func}
theorem T7 {e : Array Value → Sem Value} (hf : P.funcs[f]? = some fn) (h1 : (fn.name == "runtime.NumGoroutine") = false) (h2 : fn.body = none) (h3 : Extern.findNext fn = none) (h4 : Extern.find fn = some e)
   (args : Array Value) {w w' : World} {v : Value} (h : (e args).run P w = .ok v w') : (callFunc f args).run P w = .ok (.value v) w' := by
 have h1' : ¬fn.name = "runtime.NumGoroutine" := by simpa using h1
 unfold callFunc
 simp [run_program, Sem.run_bind, hf, h1', h2, h3, h4, h]
theorem EE_ (op : IntKind → Int → Int → Sem Value) (k : IntKind) (b : Bool) (x y : Value) : Extern.Atomic.update op k b #[x, y] = (do
   let a ← asAddr x
   let old ← Extern.Atomic.read (.int k) a
   let new ← op k (← asInt old) (← asInt y)
   store a new .atomic
   pure (if b then new else old)) := rfl
def Jo (args : List Value) : M Value :=
  match args with
  | [.pointer (some a), .int .i64 y] => M.bind (rdV a) fun v => match v with
    | .int .i64 x => fI (wrap64 (addI x y)) fun n => M.bind (wrV a (.int .i64 n)) fun _ => M.pure (.int .i64 n)
    | _ => M.fail
  | _ => M.fail
theorem CG_ (hf : P.funcs[f]? = some fn) (h1 : (fn.name == "runtime.NumGoroutine") = false) (h2 : fn.body = none) (h3 : Extern.findNext fn = none) (h4 : Extern.find fn = some (Extern.Atomic.update (Op.intArith .add) .i64 true)) : ExtOK P f Jo where
 loc := fun args => by
   unfold Jo
   split
   · refine Aa (DZ _) fun v => ?_
     split
     · exact Ar _ fun n => Aa (Oz _ _) fun _ => Ab _
     · exact Ad
   · exact Ad
 ok := by
   intro w0 w r args args' s out s' e hr ha
   unfold Jo at e
   split at e
   · rename_i a y
     obtain ⟨p', l', rfl, q1, q2⟩ := ha.inv
     obtain ⟨y', l2, rfl, q3, q4⟩ := q2.inv
     obtain ⟨a', rfl, qa⟩ := q1.ptr_inv
     have := q4.inv_nil
     subst this
     have := q3.int_inv
     subst this
     rcases Ba e with ⟨v, s1, e1, e2⟩ | ⟨c, e1, _⟩
     case inr => exact ((D5 _).no _ _ _ e1).elim
     obtain ⟨v', g1, g2, g3⟩ := Ea e1 hr qa
     split at e2
     · rename_i x
       have := g2.int_inv
       subst this
       rw [BP, Hw, MJ] at e2
       rcases Ba e2 with ⟨u, s2, e3, e4⟩ | ⟨c, e3, _⟩
       case inr => exact ((OU _ _).no _ _ _ e3).elim
       obtain ⟨rfl, rfl⟩ := AU (show R.some (Value.int .i64 (IntKind.i64.wrap (x + y))) s2 = rOf out s' from e4)
       obtain ⟨k1, k2, k3, k4, k5, k6, k7⟩ := Ov (P := P) (v' := .int .i64 (IntKind.i64.wrap (x + y))) e3 (by rw [g3.1]; exact hr) qa (.of_plain rfl)
       refine ⟨.int .i64 (IntKind.i64.wrap (x + y)), .int .i64 (IntKind.i64.wrap (x + y)), w.setCell a' (.int .i64 (IntKind.i64.wrap (x + y))), r, rfl, .of_plain rfl, .of_rel (by rw [k3]; exact g3.2.1) k2, by rw [k4]; exact g3.2.2.1, by rw [k5]; exact g3.2.2.2, T7 hf h1 h2 h3 h4 _ ?_⟩
       show (Extern.Atomic.update (Op.intArith .add) .i64 true #[.pointer (some a'), .int .i64 y]).run P w = _
       rw [EE_]
       simp [Extern.Atomic.read, asAddr, asInt, asIntOf, load, store, Sem.run, g1, Op.intArith, k7]
     · exact (AH e2).elim
   · exact (AH e).elim
end
section
variable {P : Program} {w0 w : World} {r : Inj}
theorem Z5 {f : Nat} {fn : Func} (hf : P.funcs[f]? = some fn) (h1 : (fn.name == "runtime.NumGoroutine") = false) (h2 : fn.body.isNone = false) (args : Array Value) (w : World) : (callFunc f args).run P w = .ok (.enter f args) w := by
 have h1' : ¬fn.name = "runtime.NumGoroutine" := by simpa using h1
 have h2' : ¬fn.body = none := fun e => by rw [e] at h2; cases h2
 unfold callFunc
 simp [run_program, Sem.run_bind, hf, h1', h2']
def Owed (P : Program) (f : Nat) (w0 w : World) (r : Inj) (args' : List Value) (s : St) (v : Value) (s' : St) : Prop :=
  ∃ Q, Calls P f args'.toArray w Q ∧ ∀ e w', Q e w' → ∃ v' r', e = .returned v' ∧ VR r' v v' ∧ Goes w0 r s s' r' w' ∧ s'.lim = s.lim ∧ s'.cx = s.cx
theorem IF {f : Nat} {fn : Func} {m : List Value → M Value} (hf : P.funcs[f]? = some fn) (h1 : (fn.name == "runtime.NumGoroutine") = false) (h2 : fn.body.isNone = false) (hl : ∀ args, Loc (m args)) (hn : ∀ args, NoPan (m args))
   (h : ∀ {w0 w : World} {r : Inj} {args args' : List Value} {s s' : St} {v : Value}, m args s = .some v s' → Rel w0 r s.mem w → AL r s.next s'.next → VRs r args args' → Owed P f w0 w r args' s v s') : OrcOK P f m where
 loc := hl
 ok := by
   intro w0 w r args args' s out s' e hr hb hfr ha
   cases out with
   | inr c => exact ((hn args).no _ _ _ e).elim
   | inl v =>
     refine ⟨fun w => Z5 hf h1 h2 _ w, fun c cs => ?_⟩
     obtain ⟨Q, hc, hq⟩ := h (show m args s = .some v s' from e) hr hfr ha
     obtain ⟨e, w', fr, hQ, hs, _, hl⟩ := hc (c :: cs)
     obtain ⟨v', r', rfl, hv, hg, k1, k2⟩ := hq e w' hQ
     exact ⟨w', r', hg, k1, k2, v', hv, hs.trans (.one (step_leave_returned hl))⟩
def rowM (vs : List Value) : M Value :=
  List.rec (motive := fun _ => M Value) (M.pure (.slice none 0 0)) (fun _ _ _ => fN vs.length fun n => rowN vs n) vs
theorem Cz_ (vs : List Value) : Loc (rowM vs) := by
 cases vs with
 | nil => exact Ab _
 | cons v l => exact (show Loc (fN (v :: l).length fun n => rowN (v :: l) n) from Ao _ fun n => Ps _ n)
theorem YX (vs : List Value) : NoPan (rowM vs) := by
 cases vs with
 | nil => exact Ag _
 | cons v l => exact (show NoPan (fN (v :: l).length fun n => rowN (v :: l) n) from As _ fun n => Oa _ n)
theorem Dp_ {vs vs' : List Value} {s s' : St} {v v' : Value} {w' : World} {e : TypeId} (h : rowM vs s = .some v s') (hr : Rel w0 r s.mem w) (hf : AL r s.next s'.next) (hv : VRs r vs vs') (hb : Below w.heap.size w w') (ho : w'.ownsRow w.heap.size e 1 v' vs'.length vs') (hnil : v' = .slice none 0 0 ↔ vs' = []) :
   ∃ r', VR r' v v' ∧ Goes w0 r s s' r' w' ∧ s'.lim = s.lim ∧ s'.cx = s.cx := by
 cases vs with
 | nil =>
   obtain ⟨rfl, rfl⟩ := Af (show M.pure (Value.slice none 0 0) s = .some v s' from h)
   have := hv.inv_nil
   subst this
   rw [hnil.2 rfl]
   exact ⟨r, .slNil, .same (.refl _) (hr.beyond hb), rfl, rfl⟩
 | cons a l =>
   replace h : fN (a :: l).length (fun n => rowN (a :: l) n) s = .some v s' := h
   rw [AG] at h
   unfold rowN at h
   obtain ⟨hlt, h⟩ := AP h
   obtain ⟨b, s1, e1, h⟩ := bind_some h
   obtain ⟨u, s2, e2, h⟩ := bind_some h
   have hlen : vs'.length = (a :: l).length := hv.1.symm
   rcases ho.2 with ⟨rfl, h0⟩ | ⟨g, cap, cur, rfl, hbase, hg, q1, q2, q3, q4⟩
   · have : vs' = [] := hnil.1 rfl
     rw [this] at hlen
     cases hlen
   · have hz : g < w'.heap.size := by
       rcases Nat.lt_or_ge g w'.heap.size with h | h
       · exact h
       · rw [Array.getElem?_eq_none h] at hg; cases hg
     have hr' := hr.beyond hb
     have cellat : ∀ j, j < cap → w'.cell? ⟨g, 0 + j, none⟩ = cur[j]? := fun j _ => by
       rw [Nat.zero_add]
       simp [World.cell?, hg]
     obtain ⟨r', k1, k2, k3, k4⟩ := LK (need := (a :: l).length) (size := 1) (cap' := cap) (bb := g) (o := 0) hr' e1 e2 rfl h hf hv (by rw [Nat.mul_one]) (by decide) (by decide) (A3 hlt) (by rw [← hlen]; exact q1) (Nat.le_trans hr.below.size hbase) hz
       (fun i x hx => by
         have hi : i < vs'.length := (List.getElem?_eq_some_iff.1 hx).1
         rw [cellat i (by omega)]
         rw [← q4, Nat.mul_one, List.getElem?_take_of_lt hi] at hx
         simpa using hx)
       (fun j hj => by
         rw [Nat.mul_one] at hj
         have hj' : j < cur.size := by rw [q3, Nat.mul_one]; exact hj
         refine ⟨cur[j], by rw [cellat j hj]; exact Array.getElem?_eq_getElem hj', ?_⟩
         rw [Nat.zero_add]
         simp [World.frozen?, hg])
       (fun loc b v d e1 e2 => absurd (hr.dom _ _ _ e2).2 (Nat.not_lt_of_le hbase))
       (fun t2 sz k2 e1 e2 hk => by
         obtain ⟨k, g1, _, _, g2, _⟩ := hr.tok _ _ e1
         rw [g1] at e2
         cases e2
         rw [hk] at g2
         exact absurd g2 (Nat.not_lt_of_le hbase))
       (fun h => absurd h (by decide))
     refine ⟨r', ?_, k1, k3, k4⟩
     rw [hlen]
     exact k2
end
def T.mapT {α : Type} (f : α → α) : T α → T α
  | .E => .E
  | .N v l r => .N (v.map f) (T.mapT f l) (T.mapT f r)
theorem T.get_mapT {α : Type} (f : α → α) : ∀ (t : T α) (k : Nat), T.get (T.mapT f t) k = (T.get t k).map f
 | .E, k => by rw [T.mapT, T.get_E]; rfl
 | .N v l r, 0 => by rw [T.mapT, T.get_zero, T.get_zero]
 | .N v l r, k + 1 => by
   rw [T.mapT, T.get_succ, T.get_succ]
   split
   · exact T.get_mapT f l _
   · exact T.get_mapT f r _
def cV (nv : Nat → IntKind × Int) (v : Value) : Value := match v with
  | .complex k a b => if a = 6 then .int (nv b).1 (nv b).2 else .complex k a b
  | v => v
def cA (nv : Nat → IntKind × Int) (v : Value) : Value := match v with
  | .agg c => .agg (c.map (cV nv))
  | v => cV nv v
def cC (nv : Nat → IntKind × Int) (c : Cell) : Cell := match c with
  | .C b v => .C b (cV nv v)
  | c => c
section
variable {nv : Nat → IntKind × Int} {r : Inj} {w0 w : World} {v v' : Value}
theorem VR.conc (hk : r.known.nv = nv) (h : VR r v v') : VR r (cV nv v) v' := by
 cases h with
 | complex h =>
   rename_i k a b
   unfold cV
   simp only
   split
   · rename_i e
     subst e
     have h' : v' = .int (r.known.nv b).1 (r.known.nv b).2 := h
     rw [h', hk]
     exact .int _ _
   · exact .complex h
 | bool b => exact .bool b
 | int k n => exact .int k n
 | float k n => exact .float k n
 | string s => exact .string s
 | ptrNil => exact .ptrNil
 | ptr e => exact .ptr e
 | slNil => exact .slNil
 | sl e c l => exact .sl e c l
 | slEnd a b => exact .slEnd a b
 | mapNil => exact .mapNil
 | map e => exact .map e
 | chanNil => exact .chanNil
 | iter e => exact .iter e
 | func f a x c y => exact .func f a x c y
 | nilFunc => exact .nilFunc
 | iface h => exact .iface h
 | nilIface => exact .nilIface
 | agg a h => exact .agg a h
 | tuple a h => exact .tuple a h
theorem VR.unconc (hk : r.known.nv = nv) (h : VR r (cV nv v) v') : VR r v v' := by
 cases v with
 | complex k a b =>
   unfold cV at h
   simp only at h
   split at h
   · rename_i e
     subst e
     refine .complex ?_
     have h' := h.eq_of_plain rfl
     show v' = _
     rw [h', hk]
   · exact h
 | _ => exact h
theorem VR.swap (hk : r.known.nv = nv) {u : Value} (e : cV nv u = cV nv v) (h : VR r v v') : VR r u v' := .unconc hk (by rw [e]; exact h.conc hk)
theorem VR.concA (hk : r.known.nv = nv) (h : VR r v v') : VR r (cA nv v) v' := by
 cases h with
 | agg a h =>
   rename_i c c'
   refine .agg (by rw [Array.size_map]; exact a) fun i x x' e e' => ?_
   rw [Array.getElem?_map] at e
   obtain ⟨y, e1, e2⟩ := Option.map_eq_some_iff.1 e
   rw [← e2]
   exact (h i y x' e1 e').conc hk
 | complex h => exact VR.conc hk (.complex h)
 | bool b => exact .bool b
 | int k n => exact .int k n
 | float k n => exact .float k n
 | string s => exact .string s
 | ptrNil => exact .ptrNil
 | ptr e => exact .ptr e
 | slNil => exact .slNil
 | sl e c l => exact .sl e c l
 | slEnd a b => exact .slEnd a b
 | mapNil => exact .mapNil
 | map e => exact .map e
 | chanNil => exact .chanNil
 | iter e => exact .iter e
 | func f a x c y => exact .func f a x c y
 | nilFunc => exact .nilFunc
 | iface h => exact .iface h
 | nilIface => exact .nilIface
 | tuple a h => exact .tuple a h
theorem VR.unconcA (hk : r.known.nv = nv) (h : VR r (cA nv v) v') : VR r v v' := by
 cases v with
 | agg c =>
   have h' : VR r (.agg (c.map (cV nv))) v' := h
   clear h
   cases h' with
   | agg a h2 =>
     rename_i c'
     refine .agg (by rw [← a, Array.size_map]) fun i x x' e e' => ?_
     exact VR.unconc hk (h2 i _ x' (by rw [Array.getElem?_map, e]; rfl) e')
 | complex k a b => exact VR.unconc hk h
 | _ => exact h
theorem VR.swapA (hk : r.known.nv = nv) {u : Value} (e : cA nv u = cA nv v) (h : VR r v v') : VR r u v' := .unconcA hk (by rw [e]; exact h.concA hk)
theorem cC_C {c : Cell} {b : Nat} {v : Value} (e : cC nv (.C b v) = cC nv c) : ∃ v1, c = .C b v1 ∧ cV nv v = cV nv v1 := by
 cases c with
 | C b' v1 =>
   have e' : Cell.C b (cV nv v) = .C b' (cV nv v1) := e
   injection e' with e1 e2
   subst e1
   exact ⟨v1, rfl, e2⟩
 | O o => cases e
theorem cC_O {c : Cell} {o : AObj} (e : cC nv (.O o) = cC nv c) : c = .O o := by
 cases c with
 | C b' v1 => cases e
 | O o' =>
   have e' : Cell.O o = .O o' := e
   exact e'.symm
theorem Rel.swap {mem mem' : T Cell} (h : Rel w0 r mem w) (hk : r.known.nv = nv) (hm : ∀ loc c, T.get mem' loc = some c → ∃ c1, T.get mem loc = some c1 ∧ cC nv c = cC nv c1) : Rel w0 r mem' w := by
 have iC : ∀ {loc b v}, T.get mem' loc = some (.C b v) → ∃ v1, T.get mem loc = some (.C b v1) ∧ cV nv v = cV nv v1 := fun e => by
   obtain ⟨c1, e1, e2⟩ := hm _ _ e
   obtain ⟨v1, rfl, e3⟩ := cC_C e2
   exact ⟨v1, e1, e3⟩
 have iO : ∀ {loc o}, T.get mem' loc = some (.O o) → T.get mem loc = some (.O o) := fun e => by
   obtain ⟨c1, e1, e2⟩ := hm _ _ e
   rw [cC_O e2] at e1
   exact e1
 refine ⟨h.below, h.dom, fun loc b v e => ?_, fun l1 l2 b1 v1 b2 v2 b' d1 d2 e1 e2 => ?_, fun loc o e => h.obj loc o (iO e), fun l1 l2 o1 o2 b' d1 d2 e1 e2 => h.sepO l1 l2 o1 o2 b' d1 d2 (iO e1) (iO e2), fun t sz e => ?_, fun t1 t2 s1 s2 k1 k2 e1 e2 => h.sepT t1 t2 s1 s2 k1 k2 (iO e1) (iO e2), h.known, fun l n e => h.szs l n (iO e), ⟨fun l b v e => h.olds.old l b v (iO e), fun l b v b' d e => ?_, fun l o b' d e => h.olds.newO l o b' d (iO e), fun l n b' d e => h.olds.newS l n b' d (iO e)⟩⟩
 · obtain ⟨v1, e1, e2⟩ := iC e
   obtain ⟨b', d, x, g1, g2, g3, g4, g5⟩ := h.cell _ _ _ e1
   exact ⟨b', d, x, g1, g2, g3, g4.swap hk e2, g5⟩
 · obtain ⟨u1, f1, _⟩ := iC e1
   obtain ⟨u2, f2, _⟩ := iC e2
   exact h.sep _ _ _ _ _ _ _ _ _ f1 f2
 · obtain ⟨k, g1, g2, g3, g4, g5, g6⟩ := h.tok t sz (iO e)
   refine ⟨k, g1, g2, g3, g4, g5, fun l b v d e1 => ?_⟩
   obtain ⟨u1, f1, _⟩ := iC e1
   exact g6 l b u1 d f1
 · obtain ⟨u1, f1, _⟩ := iC e
   exact h.olds.newC l b u1 b' d f1
theorem YK (v : Value) : cV nv (cV nv v) = cV nv v := by
 cases v with
 | complex k a b =>
   unfold cV
   simp only
   by_cases e : a = 6
   · rw [if_pos e]
   · rw [if_neg e]
     simp only [if_neg e]
 | _ => rfl
theorem K1 (c : Cell) : cC nv (cC nv c) = cC nv c := by
 cases c with
 | C b v =>
   show Cell.C b (cV nv (cV nv v)) = .C b (cV nv v)
   rw [YK]
 | O o => rfl
theorem Rel.conc {mem : T Cell} (h : Rel w0 r mem w) (hk : r.known.nv = nv) : Rel w0 r (T.mapT (cC nv) mem) w := h.swap hk fun loc c e => by
 rw [T.get_mapT] at e
 obtain ⟨c1, e1, e2⟩ := Option.map_eq_some_iff.1 e
 exact ⟨c1, e1, by rw [← e2, K1]⟩
def St.conc (nv : Nat → IntKind × Int) (s : St) : St := ⟨T.mapT (cC nv) s.mem, s.next, s.lim, s.rd, s.wr, s.cx⟩
theorem RL {E : Env} (he : EnvOK E) {f fuel : Nat} (hx : E.ext.get f = none) {m : List Value → M Value} (lo : ∀ a, Loc (m a)) (np : ∀ a, NoPan (m a))
   (h : ∀ nv, BU nv → ∀ args s v s', m args s = .some v s' → s.lim ≤ s.next → s'.lim = s.lim ∧ s'.cx = s.cx ∧ s.next ≤ s'.next ∧ ∃ v1 s1, callF E fuel f (args.map (cA nv)) (s.conc nv) = .some v1 s1 ∧ cA nv v = cA nv v1 ∧ s1.next ≤ s'.next ∧ ∀ loc c, T.get s'.mem loc = some c → ∃ c1, T.get s1.mem loc = some c1 ∧ cC nv c = cC nv c1) : OrcOK E.P f m where
 loc := lo
 ok := by
   intro w0 w r args args' s out s' hm hr hb hf ha
   cases out with
   | inr ch => exact ((np args).no s ch s' hm).elim
   | inl v =>
     have hsn : BU r.known.nv := hr.known.2
     obtain ⟨g1, g2, g3, v1, s1, e1, e2, e3, e4⟩ := h r.known.nv hsn args s v s' hm hb
     have hr' : Rel w0 r (s.conc r.known.nv).mem w := hr.conc rfl
     have ha' : VRs r (args.map (cA r.known.nv)) args' := ⟨by rw [List.length_map]; exact ha.1, fun i x x' q q' => by
       rw [List.getElem?_map] at q
       obtain ⟨y, f1, f2⟩ := Option.map_eq_some_iff.1 q
       rw [← f2]
       exact (ha.2 i y x' f1 q').concA rfl⟩
     rcases (Gm he fuel).ok (show callF E fuel f (args.map (cA r.known.nv)) (s.conc r.known.nv) = rOf (.inl v1) s1 from e1) hr' hb (fun b b1 b2 => hf b b1 (Nat.lt_of_lt_of_le b2 e3)) ha' with ⟨q1, q2⟩ | ⟨q, _⟩
     · refine ⟨q1, fun c cs => ?_⟩
       obtain ⟨w', r', k1, k2, k3, v', k4, k5⟩ := q2 c cs
       have hk : r'.known.nv = r.known.nv := by rw [k1.le.3]
       refine ⟨w', r', ⟨k1.le, g3, fun b q => (k1.domB b q).imp id fun h => ⟨h.1, Nat.lt_of_lt_of_le h.2 e3⟩, fun b q => (k1.domE b q).imp id fun h => ⟨h.1, Nat.lt_of_lt_of_le h.2 e3⟩, k1.rel.swap hk e4⟩, g1, g2, v', k4.swapA hk e2, k5⟩
     · exact absurd hx q
end
def altS (p : List Value → M Bool) (m1 m2 : List Value → M Value) (args : List Value) : M Value := M.bind (p args) fun b => M.if b (m1 args) (m2 args)
def Bb {α : Type} (p : M α) : Prop := ∀ s b s', p s = .some b s' → s'.mem = s.mem ∧ s'.next = s.next ∧ s'.lim = s.lim ∧ s'.cx = s.cx
theorem Bb.pure {α : Type} (a : α) : Bb (M.pure a) := fun s b s' h => by cases h; exact ⟨rfl, rfl, rfl, rfl⟩
theorem Bb.fail {α : Type} : Bb (M.fail : M α) := fun s b s' h => by cases h
theorem Bb.bind {α β : Type} {m : M α} {f : α → M β} (h : Bb m) (k : ∀ a, Bb (f a)) : Bb (M.bind m f) := fun s b s' e => by
 obtain ⟨a, s1, e1, e2⟩ := bind_some e
 obtain ⟨h1, h2, h3, h4⟩ := h _ _ _ e1
 obtain ⟨k1, k2, k3, k4⟩ := k a _ _ _ e2
 exact ⟨k1.trans h1, k2.trans h2, k3.trans h3, k4.trans h4⟩
theorem EH_ {P : Program} {f : Nat} {p : List Value → M Bool} {m1 m2 : List Value → M Value} (lp : ∀ a, Loc (p a)) (np : ∀ a, NoPan (p a)) (hp : ∀ a, Bb (p a)) (h1 : OrcOK P f m1) (h2 : OrcOK P f m2) : OrcOK P f (altS p m1 m2) where
 loc := fun a => by
   unfold altS
   exact Aa (lp a) fun b => by cases b <;> first | exact h1.loc a | exact h2.loc a
 ok := by
   intro w0 w r args args' s out s' hm hr hb hf ha
   have key : ∃ b s1, p args s = .some b s1 ∧ M.if b (m1 args) (m2 args) s1 = rOf out s' := by
     cases out with
     | inl v => exact bind_some hm
     | inr c =>
       rcases Ip hm with e | ⟨b, s1, e1, e2⟩
       · exact ((np args).no _ _ _ e).elim
       · exact ⟨b, s1, e1, e2⟩
   obtain ⟨b, s1, e1, e2⟩ := key
   obtain ⟨g1, g2, g3, g4⟩ := hp args _ _ _ e1
   have hm1 : OrcOK P f (if b then m1 else m2) := by cases b <;> assumption
   have e3 : (if b then m1 else m2) args s1 = rOf out s' := by cases b <;> exact e2
   obtain ⟨q1, q2⟩ := hm1.ok e3 (by rw [g1]; exact hr) (by unfold Bnd; rw [g2, g3]; exact hb) (by rw [g2]; exact hf) ha
   refine ⟨q1, fun c cs => ?_⟩
   obtain ⟨w', r', k1, k2, k3⟩ := q2 c cs
   exact ⟨w', r', ⟨k1.le, by rw [← g2]; exact k1.nxt, fun b q => by rw [← g2]; exact k1.domB b q, fun b q => by rw [← g2]; exact k1.domE b q, k1.rel⟩, k2.trans g3, k3.1.trans g4, k3.2⟩
section
variable {α β : Type} {s : St}
def W (m : M α) (s : St) (Q : α → St → Prop) : Prop := ∃ a s', m s = .some a s' ∧ Q a s'
theorem W.mono {m : M α} {Q R : α → St → Prop} (h : W m s Q) (k : ∀ a s', Q a s' → R a s') : W m s R := let ⟨a, s', e, q⟩ := h; ⟨a, s', e, k a s' q⟩
theorem W.of {m : M α} {Q : α → St → Prop} {a : α} {s' : St} (e : m s = .some a s') (q : Q a s') : W m s Q := ⟨a, s', e, q⟩
theorem W.pure {a : α} {Q : α → St → Prop} (q : Q a s) : W (M.pure a) s Q := ⟨a, s, rfl, q⟩
theorem AW {m : M α} {f : α → M β} {a : α} {s1 : St} (e : m s = .some a s1) : M.bind m f s = f a s1 := by
 unfold M.bind
 rw [e]
theorem W.bind {m : M α} {f : α → M β} {Q : β → St → Prop} (h : W m s fun a s1 => W (f a) s1 Q) : W (M.bind m f) s Q := by
 obtain ⟨a, s1, e, b, s2, e2, q⟩ := h
 refine ⟨b, s2, ?_, q⟩
 unfold M.bind
 rw [e]
 exact e2
theorem W.chk {b : Bool} {m : M α} {Q : α → St → Prop} (hb : b = true) (h : W m s Q) : W (M.chk b m) s Q := by subst hb; exact h
theorem W.on {x : Option α} {a : α} {f : α → M β} {Q : β → St → Prop} (e : x = some a) (h : W (f a) s Q) : W (M.on x f) s Q := by subst e; exact h
theorem W.ofOpt {x : Option α} {a : α} {Q : α → St → Prop} (e : x = some a) (q : Q a s) : W (M.ofOpt x) s Q := by subst e; exact W.pure q
theorem W.cast {m n : M α} {Q : α → St → Prop} (e : m s = n s) (h : W n s Q) : W m s Q := let ⟨a, s', e', q⟩ := h; ⟨a, s', e.trans e', q⟩
theorem W.np {m : M α} {Q : α → St → Prop} (h : W m s Q) : W (noP m) s Q := by
 obtain ⟨a, s1, e, q⟩ := h
 exact ⟨a, s1, by unfold noP; rw [e], q⟩
theorem Bv {a b : Nat} (h : a < b) : Nat.blt a b = true := by simpa using h
theorem GV {a b : Nat} (h : b ≤ a) : Nat.blt a b = false := by
 cases e : Nat.blt a b with
 | false => rfl
 | true => exact absurd (A3 e) (Nat.not_lt_of_le h)
def St.rdN (s : St) (l : Nat) : St := ⟨s.mem, s.next, s.lim, notes l s.lim s.rd, s.wr, s.cx⟩
def St.wrN (s : St) (l : Nat) (c : Cell) : St := ⟨T.set s.mem l c, s.next, s.lim, s.rd, notes l s.lim s.wr, s.cx⟩
def St.cxN (s : St) (c : Ctx) : St := ⟨s.mem, s.next, s.lim, s.rd, s.wr, c⟩
theorem FC (l lim : Nat) (r : List Nat) : ∃ d, notes l lim r = d ++ r ∧ ∀ x ∈ d, x < lim ∧ x = l := by
 rcases Nat.lt_or_ge l lim with h | h
 · exact ⟨[l], by unfold notes; rw [Bv h]; rfl, fun x hx => by
     have : x = l := by simpa using hx
     exact ⟨by omega, this⟩⟩
 · exact ⟨[], by unfold notes; rw [GV h]; rfl, fun x hx => by cases hx⟩
structure Ext (F G : Nat → Prop) (s s' : St) : Prop where
  nxt : s.next ≤ s'.next
  lim : s'.lim = s.lim
  cx : s'.cx = s.cx
  mem : ∀ l, l < s.next → ¬ G l → T.get s'.mem l = T.get s.mem l
  rd : ∃ d, s'.rd = d ++ s.rd ∧ ∀ l ∈ d, l < s.lim ∧ F l
  wr : ∃ d, s'.wr = d ++ s.wr ∧ ∀ l ∈ d, l < s.lim ∧ G l
abbrev Non : Nat → Prop := fun _ => False
theorem Ext.refl {F G : Nat → Prop} (s : St) : Ext F G s s := ⟨Nat.le_refl _, rfl, rfl, fun _ _ _ => rfl, ⟨[], rfl, fun _ h => by cases h⟩, ⟨[], rfl, fun _ h => by cases h⟩⟩
theorem Ext.trans {F G F' G' : Nat → Prop} {s s1 s2 : St} (h : Ext F G s s1) (k : Ext F' G' s1 s2) (hb : s.lim ≤ s.next) (hF : ∀ l, l < s.lim → F' l → F l) (hG : ∀ l, l < s.next → G' l → G l) : Ext F G s s2 := by
 refine ⟨Nat.le_trans h.nxt k.nxt, k.lim.trans h.lim, k.cx.trans h.cx, fun l hl hg => ?_, ?_, ?_⟩
 · rw [k.mem l (Nat.lt_of_lt_of_le hl h.nxt) fun x => hg (hG l hl x)]
   exact h.mem l hl hg
 · obtain ⟨d1, e1, q1⟩ := h.rd
   obtain ⟨d2, e2, q2⟩ := k.rd
   refine ⟨d2 ++ d1, by rw [e2, e1, List.append_assoc], fun l hl => ?_⟩
   rcases List.mem_append.1 hl with hl | hl
   · have := q2 l hl
     rw [h.lim] at this
     exact ⟨this.1, hF l this.1 this.2⟩
   · exact q1 l hl
 · obtain ⟨d1, e1, q1⟩ := h.wr
   obtain ⟨d2, e2, q2⟩ := k.wr
   refine ⟨d2 ++ d1, by rw [e2, e1, List.append_assoc], fun l hl => ?_⟩
   rcases List.mem_append.1 hl with hl | hl
   · have := q2 l hl
     rw [h.lim] at this
     exact ⟨this.1, hG l (Nat.lt_of_lt_of_le this.1 hb) this.2⟩
   · exact q1 l hl
theorem Ext.weak {F G F' G' : Nat → Prop} {s s1 : St} (k : Ext F' G' s s1) (hb : s.lim ≤ s.next) (hF : ∀ l, l < s.lim → F' l → F l) (hG : ∀ l, l < s.next → G' l → G l) : Ext F G s s1 := (Ext.refl s).trans k hb hF hG
theorem Ext.rdN {F G : Nat → Prop} (s : St) (l : Nat) (hF : l < s.lim → F l) : Ext F G s (s.rdN l) := by
 obtain ⟨d, e, q⟩ := FC l s.lim s.rd
 exact ⟨Nat.le_refl _, rfl, rfl, fun _ _ _ => rfl, ⟨d, e, fun x hx => ⟨(q x hx).1, by have := q x hx; rw [this.2]; exact hF (by rw [← this.2]; exact this.1)⟩⟩, ⟨[], rfl, fun _ h => by cases h⟩⟩
theorem Ext.wrN {F G : Nat → Prop} (s : St) (l : Nat) (c : Cell) (hG : G l) : Ext F G s (s.wrN l c) := by
 obtain ⟨d, e, q⟩ := FC l s.lim s.wr
 refine ⟨Nat.le_refl _, rfl, rfl, fun x _ hx => ?_, ⟨[], rfl, fun _ h => by cases h⟩, ⟨d, e, fun x hx => ⟨(q x hx).1, by rw [(q x hx).2]; exact hG⟩⟩⟩
 show T.get (T.set s.mem l c) x = _
 rw [T.get_set, if_neg]
 intro h
 exact hx (by rw [h]; exact hG)
theorem Ext.bnd {F G : Nat → Prop} {s s' : St} (h : Ext F G s s') (hb : s.lim ≤ s.next) : s'.lim ≤ s'.next := by rw [h.lim]; exact Nat.le_trans hb h.nxt
def At (s : St) (b o : Nat) (v : Value) : Prop := b + o < s.next ∧ (T.get s.mem (b + o) = some (.C b v) ∨ T.get s.mem (b + o) = some (.O (.old b v)))
def Own (s : St) (b o : Nat) (v : Value) : Prop := b + o < s.next ∧ T.get s.mem (b + o) = some (.C b v)
theorem Own.at' {b o : Nat} {v : Value} (h : Own s b o v) : At s b o v := ⟨h.1, .inl h.2⟩
theorem At.ext {F G : Nat → Prop} {s s' : St} {b o : Nat} {v : Value} (h : At s b o v) (e : Ext F G s s') (hG : ¬ G (b + o)) : At s' b o v :=
 ⟨Nat.lt_of_lt_of_le h.1 e.nxt, by rw [e.mem _ h.1 hG]; exact h.2⟩
theorem Own.ext {F G : Nat → Prop} {s s' : St} {b o : Nat} {v : Value} (h : Own s b o v) (e : Ext F G s s') (hG : ¬ G (b + o)) : Own s' b o v :=
 ⟨Nat.lt_of_lt_of_le h.1 e.nxt, by rw [e.mem _ h.1 hG]; exact h.2⟩
theorem At.same {s s' : St} {b o : Nat} {v : Value} (h : At s b o v) (hm : s'.mem = s.mem) (hn : s'.next = s.next) : At s' b o v := by
 unfold At at *
 rw [hm, hn]
 exact h
theorem Own.same {s s' : St} {b o : Nat} {v : Value} (h : Own s b o v) (hm : s'.mem = s.mem) (hn : s'.next = s.next) : Own s' b o v := by
 unfold Own at *
 rw [hm, hn]
 exact h
def Row (s : St) (b o : Nat) (l : List Value) : Prop := ∀ i v, l[i]? = some v → At s b (o + i) v
def Al (s : St) (b o : Nat) (l : List Value) : Prop := ∀ i v, l[i]? = some v → Own s b (o + i) v
theorem Al.row {b o : Nat} {l : List Value} (h : Al s b o l) : Row s b o l := fun i v e => (h i v e).at'
theorem Row.ext {F G : Nat → Prop} {s s' : St} {b o : Nat} {l : List Value} (h : Row s b o l) (e : Ext F G s s') (hG : ∀ i, i < l.length → ¬ G (b + (o + i))) : Row s' b o l := fun i v q => (h i v q).ext e (hG i (List.getElem?_eq_some_iff.1 q).1)
theorem Al.ext {F G : Nat → Prop} {s s' : St} {b o : Nat} {l : List Value} (h : Al s b o l) (e : Ext F G s s') (hG : ∀ i, i < l.length → ¬ G (b + (o + i))) : Al s' b o l := fun i v q => (h i v q).ext e (hG i (List.getElem?_eq_some_iff.1 q).1)
theorem Row.ext0 {F : Nat → Prop} {s s' : St} {b o : Nat} {l : List Value} (h : Row s b o l) (e : Ext F Non s s') : Row s' b o l := h.ext e fun _ _ => id
theorem Al.ext0 {F : Nat → Prop} {s s' : St} {b o : Nat} {l : List Value} (h : Al s b o l) (e : Ext F Non s s') : Al s' b o l := h.ext e fun _ _ => id
theorem At.ext0 {F : Nat → Prop} {s s' : St} {b o : Nat} {v : Value} (h : At s b o v) (e : Ext F Non s s') : At s' b o v := h.ext e id
theorem Own.ext0 {F : Nat → Prop} {s s' : St} {b o : Nat} {v : Value} (h : Own s b o v) (e : Ext F Non s s') : Own s' b o v := h.ext e id
theorem Row.tail {b o : Nat} {v : Value} {l : List Value} (h : Row s b o (v :: l)) : Row s b (o + 1) l := fun i x e => by
 have := h (i + 1) x (by simpa using e)
 rw [show o + 1 + i = o + (i + 1) by omega]
 exact this
theorem W.rdC {l : Nat} {c : Cell} {Q : Cell → St → Prop} (h : T.get s.mem l = some c) (hl : l < s.next) (q : Q c (s.rdN l)) : W (rdC l) s Q := by
 obtain ⟨mem, next, lim, rd, wr, cx⟩ := s
 refine ⟨c, _, ?_, q⟩
 unfold Am.rdC
 simp only at h hl ⊢
 rw [Bv hl, h]
 rfl
theorem W.wrC {l : Nat} {c : Cell} {Q : Unit → St → Prop} (hl : l < s.next) (q : Q () (s.wrN l c)) : W (wrC l c) s Q := by
 obtain ⟨mem, next, lim, rd, wr, cx⟩ := s
 refine ⟨(), _, ?_, q⟩
 unfold Am.wrC
 simp only at hl ⊢
 obtain ⟨v, a, b, e⟩ := T.set_N mem l c
 rw [Bv hl]
 show T.rec (motive := fun _ => R Unit) .none (fun a b d _ _ => R.some () (St.mk (.N a b d) next lim rd (notes l lim wr) cx)) (T.set mem l c) = R.some () (St.mk (T.set mem l c) next lim rd (notes l lim wr) cx)
 rw [e]
theorem KI (a : Nat) : Nat.beq a a = true := Nat.beq_refl a
theorem W.rdV {b o : Nat} {v : Value} {Q : Value → St → Prop} (h : At s b o v) (q : Q v (s.rdN (b + o))) : W (rdV ⟨b, o, none⟩) s Q := by
 refine W.bind ?_
 rcases h with ⟨h1, h2 | h2⟩
 · refine W.rdC h2 h1 (W.ofOpt (a := v) ?_ q)
   show Bool.rec (motive := fun _ => Option Value) none (some v) (Nat.beq b b) = _
   rw [KI]
 · refine W.rdC h2 h1 (W.ofOpt (a := v) ?_ q)
   show Bool.rec (motive := fun _ => Option Value) none (some v) (Nat.beq b b) = _
   rw [KI]
theorem W.wrV {b o : Nat} {u v : Value} {Q : Unit → St → Prop} (h : Own s b o u) (hv : oneCell v = true) (q : Q () ((s.rdN (b + o)).wrN (b + o) (.C b v))) : W (wrV ⟨b, o, none⟩ v) s Q := by
 refine W.bind (W.rdC h.2 h.1 (W.chk ?_ (W.wrC h.1 q)))
 show (Nat.beq b b && oneCell v) = true
 rw [KI, hv]
 rfl
theorem W.fA {γ : Type} {a : Addr} {K : Addr → M γ} {Q : γ → St → Prop} (h : W (K a) s Q) : W (fA a K) s Q := by rw [Cf]; exact h
theorem W.fN {γ : Type} {n : Nat} {K : Nat → M γ} {Q : γ → St → Prop} (h : W (K n) s Q) : W (fN n K) s Q := by rw [AG]; exact h
theorem W.rdL : ∀ {l : List Value} {s : St} {b o : Nat} {Q : List Value → St → Prop}, Row s b o l →
   (∀ s1, s1.mem = s.mem → s1.next = s.next → Ext (fun x => b + o ≤ x ∧ x < b + o + l.length) Non s s1 → Q l s1) → W (rdL l.length ⟨b, o, none⟩) s Q
 | [], s, b, o, Q, _, q => W.pure (q s rfl rfl (Ext.refl s))
 | v :: l, s, b, o, Q, h, q => by
   have hv := h 0 v rfl
   show W (Am.fA (⟨b, o, none⟩ : Addr) fun a => M.bind (Am.rdV a) fun v => M.bind (Am.rdL l.length ⟨a.block, Nat.succ a.off, a.spot⟩) fun l => M.pure (v :: l)) s Q
   refine W.fA (W.bind (W.rdV hv (W.bind (W.rdL (l := l) (s := s.rdN (b + (o + 0))) (b := b) (o := o + 1) (fun i x e => (h.tail i x e).same rfl rfl) fun s1 h1 h2 h3 => W.pure (q s1 h1 h2 ?_)))))
   have e0 : Ext (fun x => b + o ≤ x ∧ x < b + o + (v :: l).length) Non s (s.rdN (b + (o + 0))) := Ext.rdN s _ fun _ => by simp
   obtain ⟨d1, p1, p2⟩ := e0.rd
   obtain ⟨d2, p3, p4⟩ := h3.rd
   obtain ⟨d3, p5, p6⟩ := h3.wr
   refine ⟨Nat.le_of_eq h2.symm, h3.lim, h3.cx, fun x _ _ => by rw [h1]; rfl, ⟨d2 ++ d1, by rw [p3, p1, List.append_assoc], fun x hx => ?_⟩, ⟨d3, p5, p6⟩⟩
   rcases List.mem_append.1 hx with hx | hx
   · have := p4 x hx
     simp only [List.length_cons]
     exact ⟨this.1, by omega, by omega⟩
   · exact p2 x hx
end
section
variable {α β : Type} {s : St}
abbrev In (b o n : Nat) : Nat → Prop := fun x => b + o ≤ x ∧ x < b + o + n
theorem wrLs : ∀ {l : List Value} {s : St} {b o : Nat}, (∀ i, i < l.length → ∃ u, Own s b (o + i) u) → l.all oneCell = true →
   ∃ s1, wrL l ⟨b, o, none⟩ s = .some () s1 ∧ s1.next = s.next ∧ Ext (In b o l.length) (In b o l.length) s s1 ∧ Al s1 b o l
 | [], s, b, o, _, _ => ⟨s, rfl, rfl, Ext.refl s, fun i v e => by simp at e⟩
 | v :: l, s, b, o, h, h1 => by
   rw [List.all_cons, Bool.and_eq_true] at h1
   obtain ⟨u, hu⟩ := h 0 (by simp)
   obtain ⟨a, s1, e1, rfl⟩ : ∃ a s1, wrV ⟨b, o, none⟩ v s = .some a s1 ∧ s1 = (s.rdN (b + o)).wrN (b + o) (.C b v) := W.wrV hu h1.1 rfl
   have x1 : Ext (In b o (l.length + 1)) (In b o (l.length + 1)) s ((s.rdN (b + o)).wrN (b + o) (.C b v)) := by
     have a1 : Ext (In b o (l.length + 1)) (In b o (l.length + 1)) s (s.rdN (b + o)) := Ext.rdN s _ fun _ => ⟨Nat.le_refl _, by omega⟩
     have a2 : Ext (In b o (l.length + 1)) (In b o (l.length + 1)) (s.rdN (b + o)) ((s.rdN (b + o)).wrN (b + o) (.C b v)) := Ext.wrN _ _ _ ⟨Nat.le_refl _, by omega⟩
     obtain ⟨d1, p1, p2⟩ := a1.rd
     obtain ⟨d2, p3, p4⟩ := a2.wr
     exact ⟨Nat.le_refl _, rfl, rfl, fun x q1 q2 => a2.mem x q1 q2, ⟨d1, p1, p2⟩, ⟨d2, p3, p4⟩⟩
   have own : ∀ i w, i ≠ 0 → Own s b (o + i) w → Own ((s.rdN (b + o)).wrN (b + o) (.C b v)) b (o + i) w := fun i w hi hw => ⟨hw.1, by
     show T.get (T.set s.mem (b + o) (.C b v)) (b + (o + i)) = _
     rw [T.get_set, if_neg (by omega)]
     exact hw.2⟩
   obtain ⟨s2, e2, n2, x2, r2⟩ := wrLs (l := l) (s := (s.rdN (b + o)).wrN (b + o) (.C b v)) (b := b) (o := o + 1) (fun i hi => by
     obtain ⟨w, hw⟩ := h (i + 1) (by simpa using hi)
     rw [show o + 1 + i = o + (i + 1) by omega]
     exact ⟨w, own _ _ (by omega) hw⟩) h1.2
   have e3 : wrL (v :: l) ⟨b, o, none⟩ s = .some () s2 := by
     show Am.fA (⟨b, o, none⟩ : Addr) (fun a => M.bind (wrV a v) fun _ => wrL l ⟨a.block, Nat.succ a.off, a.spot⟩) s = _
     rw [Cf]
     unfold M.bind
     rw [e1]
     exact e2
   refine ⟨s2, e3, n2, ?_, fun i w e => ?_⟩
   · obtain ⟨d1, p1, p2⟩ := x1.rd
     obtain ⟨d2, p3, p4⟩ := x2.rd
     obtain ⟨d3, p5, p6⟩ := x1.wr
     obtain ⟨d4, p7, p8⟩ := x2.wr
     have sub : ∀ x, In b (o + 1) l.length x → In b o (l.length + 1) x := fun x hx => ⟨by have := hx.1; omega, by have := hx.2; omega⟩
     refine ⟨Nat.le_of_eq n2.symm, x2.lim, x2.cx, fun x q1 q2 => (x2.mem x q1 fun y => q2 (sub x y)).trans (x1.mem x q1 q2), ⟨d2 ++ d1, by rw [p3, p1, List.append_assoc], fun x hx => ?_⟩, ⟨d4 ++ d3, by rw [p7, p5, List.append_assoc], fun x hx => ?_⟩⟩
     · rcases List.mem_append.1 hx with hx | hx
       · exact ⟨(p4 x hx).1, sub x (p4 x hx).2⟩
       · exact p2 x hx
     · rcases List.mem_append.1 hx with hx | hx
       · exact ⟨(p8 x hx).1, sub x (p8 x hx).2⟩
       · exact p6 x hx
   · cases i with
     | zero =>
       have : v = w := by simpa using e
       subst this
       have o1 : Own ((s.rdN (b + o)).wrN (b + o) (.C b v)) b o v := ⟨hu.1, by
         show T.get (T.set s.mem (b + o) (.C b v)) (b + o) = _
         rw [T.get_set, if_pos rfl]⟩
       exact o1.ext x2 fun y => by have := y.1; omega
     | succ i =>
       rw [show o + (i + 1) = o + 1 + i by omega]
       exact r2 i w (by simpa using e)
theorem W.wrL {l : List Value} {b o : Nat} {Q : Unit → St → Prop} (h : ∀ i, i < l.length → ∃ u, Own s b (o + i) u) (h1 : l.all oneCell = true)
   (q : ∀ s1, s1.next = s.next → Ext (In b o l.length) (In b o l.length) s s1 → Al s1 b o l → Q () s1) : W (wrL l ⟨b, o, none⟩) s Q := by
 obtain ⟨s1, e, h2, h3, h4⟩ := wrLs h h1
 exact ⟨(), s1, e, q s1 h2 h3 h4⟩
theorem K8 : ∀ (vs : List Value) (b loc : Nat) (t : T Cell) (l : Nat), T.get (layL b vs loc t) l = if loc ≤ l ∧ l < loc + vs.length then (vs[l - loc]?).map (Cell.C b) else T.get t l
 | [], b, loc, t, l => by
   rw [if_neg (by simp)]
   rfl
 | v :: vs, b, loc, t, l => by
   have e : layL b (v :: vs) loc t = layL b vs (loc + 1) (T.set t loc (.C b v)) := by
     show Am.fN loc (fun loc => layL b vs (Nat.succ loc) (T.set t loc (.C b v))) = _
     rw [AG]
   rw [e, K8 vs b (loc + 1), T.get_set]
   simp only [List.length_cons]
   by_cases h1 : l = loc
   · subst h1
     rw [if_neg (by omega), if_pos rfl, if_pos (by omega), Nat.sub_self]
     rfl
   · by_cases h2 : loc + 1 ≤ l ∧ l < loc + 1 + vs.length
     · rw [if_pos h2, if_pos (by omega), show l - loc = (l - (loc + 1)) + 1 by omega]
       rfl
     · rw [if_neg h2, if_neg h1, if_neg (by omega)]
theorem Uf (vs : List Value) (s : St) : ∃ s1, newL vs s = .some s.next s1 ∧ s1.next = s.next + vs.length + 1 ∧ Ext Non Non s s1 ∧ Al s1 s.next 0 vs := by
 obtain ⟨mem, next, lim, rd, wr, cx⟩ := s
 refine ⟨⟨layL next vs next mem, next + vs.length + 1, lim, rd, wr, cx⟩, ?_, rfl, ⟨by simp only; omega, rfl, rfl, fun l hl _ => ?_, ⟨[], rfl, fun _ h => by cases h⟩, ⟨[], rfl, fun _ h => by cases h⟩⟩, fun i v e => ?_⟩
 · show Am.fN next (fun b => Am.fN (Nat.succ (Nat.add b vs.length)) fun n => R.some b (St.mk (layL b vs b mem) n lim rd wr cx)) = _
   rw [AG, AG]
   rfl
 · simp only at hl ⊢
   rw [K8, if_neg (by omega)]
 · have hi := (List.getElem?_eq_some_iff.1 e).1
   refine ⟨by simp only; omega, ?_⟩
   simp only
   rw [K8, if_pos (by omega), show next + (0 + i) - next = i by omega, e]
   rfl
theorem W.newL {vs : List Value} {Q : Nat → St → Prop} (q : ∀ s1, s1.next = s.next + vs.length + 1 → Ext Non Non s s1 → Al s1 s.next 0 vs → Q s.next s1) : W (newL vs) s Q := by
 obtain ⟨s1, e, h1, h2, h3⟩ := Uf vs s
 exact ⟨_, s1, e, q s1 h1 h2 h3⟩
theorem W.run {E : Env} {n : Nat} {af : AF} {Q : Value × FrameMode → St → Prop} (h : W (BF E (AJ E (runF E n)) (BB (runF E n)) (D1 E (runF E n)) af) s fun p s1 => W (BG (runF E n) p) s1 Q) : W (runF E (n + 1) af) s Q :=
 W.bind (m := BF E (AJ E (runF E n)) (BB (runF E n)) (D1 E (runF E n)) af) (f := BG (runF E n)) h
theorem W.code {E : Env} {n f nt g : Nat} {tm : T Value} {todo k : List Item} {c : Code} {ki : CallKind} {ro : Option Nat} {Q : Value × FrameMode → St → Prop} (ht : skim 64 todo = .code c :: k)
   (h : W (codeF E (AJ E (runF E n)) (BB (runF E n)) ⟨f, nt, g, tm, .code c :: k, .run, ki, ro⟩ k c) s fun p s1 => W (BG (runF E n) p) s1 Q) : W (runF E (n + 1) ⟨f, nt, g, tm, todo, .run, ki, ro⟩) s Q := by
 refine W.run ?_
 show W (noP (Eu E (AJ E (runF E n)) (BB (runF E n)) ⟨f, nt, g, tm, skim 64 todo, .run, ki, ro⟩ (skim 64 todo))) s _
 rw [ht]
 exact W.np h
theorem W.go {E : Env} {n : Nat} {af : AF} {Q : Value × FrameMode → St → Prop} (h : W (runF E n af) s Q) : W (BG (runF E n) (.go af)) s Q := h
def Tm (tm : T Value) (l : List (Nat × Value)) : Prop := ∀ p ∈ l, T.get tm p.1 = some p.2
theorem No {E : Env} {tm : T Value} : ∀ {rs : List Nat} {vs : List Value} {s : St}, rs.map (T.get tm) = vs.map some → resL E tm (rs.map .tmp) s = .some vs s
 | [], [], _, _ => rfl
 | [], _ :: _, _, h => by simp at h
 | _ :: _, [], _, h => by simp at h
 | r :: rs, v :: vs, s, h => by
   simp only [List.map_cons, List.cons.injEq] at h
   show M.bind (resV E tm (.tmp r)) (fun v => M.bind (resL E tm (rs.map .tmp)) fun l => M.pure (v :: l)) s = _
   have e1 : resV E tm (.tmp r) s = .some v s := by
     show M.ofOpt (tm.get r) s = _
     rw [h.1]
     rfl
   rw [AW e1, AW (No h.2)]
   rfl
theorem W.ret {E : Env} {n f nt g : Nat} {tm : T Value} {todo : List Item} {ki : CallKind} {fn : Func} {rs : List Nat} {vs : List Value} {up : Option FrameMode} {Q : Value × FrameMode → St → Prop} (ht : (∃ k, skim 64 todo = .code .ret :: k) ∨ skim 64 todo = [])
   (hf : E.fn.get f = some fn) (hr : fn.results.toList = rs.map .tmp) (hv : rs.map (T.get tm) = vs.map some) (hc : s.cx = .cx up (some [])) (q : Q (tupV vs, up.getD .run) s) : W (runF E (n + 2) ⟨f, nt, g, tm, todo, .run, ki, none⟩) s Q := by
 have h1 : W (runF E (n + 1) ⟨f, nt, g, tm, skim 64 todo, .returning, ki, none⟩) s Q := by
   refine W.run ?_
   show W (Dv E (D1 E (runF E n)) ⟨f, nt, g, tm, skim 64 todo, .returning, ki, none⟩) s _
   refine W.bind (W.of (a := s.cx) (s' := s) (by obtain ⟨mem, next, lim, rd, wr, cx⟩ := s; rfl) ?_)
   rw [hc]
   show W (outF E ⟨f, nt, g, tm, skim 64 todo, .returning, ki, none⟩ up) s _
   refine W.on hf (W.bind (W.of (a := tupV vs) (s' := s) ?_ (W.pure (W.pure q))))
   show M.bind (resL E tm fn.results.toList) (fun l => M.pure (tupV l)) s = _
   rw [hr, AW (No hv)]
   rfl
 rcases ht with ⟨k, ht⟩ | ht
 · refine W.code ht ?_
   rw [ht] at h1
   exact W.pure h1
 · refine W.run ?_
   show W (noP (Eu E (AJ E (runF E (n + 1))) (BB (runF E (n + 1))) ⟨f, nt, g, tm, skim 64 todo, .run, ki, none⟩ (skim 64 todo))) s _
   rw [ht] at h1 ⊢
   exact W.np (W.pure h1)
theorem W.within {c : Ctx} {m : M α} {Q : α → St → Prop} (h : W m (s.cxN c) fun a s1 => Q a (s1.cxN s.cx)) : W (within c m) s Q := by
 obtain ⟨a, s1, e, q⟩ := h
 obtain ⟨mem, next, lim, rd, wr, cx⟩ := s
 obtain ⟨mem1, next1, lim1, rd1, wr1, cx1⟩ := s1
 refine ⟨a, _, ?_, q⟩
 have e' : m ⟨mem, next, lim, rd, wr, c⟩ = .some a ⟨mem1, next1, lim1, rd1, wr1, cx1⟩ := e
 unfold Am.within
 simp only [e']
 rfl
theorem W.call {E : Env} {ih : AF → M (Value × FrameMode)} {f nt g : Nat} {fn : Func} {body : Code} {args : List Value} {Q : Value → St → Prop} (ho : E.orc.get f = none) (hx : E.ext.get f = none) (hf : E.fn.get f = some fn) (hb : fn.body = some body)
   (hn : fn.ntmps = nt) (hg : BK fn = g) (ha : args.length ≤ nt) (h : W (ih ⟨f, nt, g, C1 g args 0 .E, [.code body], .run, .normal, none⟩) (s.cxN cxN) fun p s1 => Q p.1 (s1.cxN s.cx)) : W (AJ E ih f args) s Q := by
 unfold AJ
 rw [ho, hx]
 refine W.within (W.bind (W.bind ?_))
 have e : BL E f args .normal (s.cxN cxN) = .some ⟨f, nt, g, C1 g args 0 .E, [.code body], .run, .normal, none⟩ (s.cxN cxN) := by
   unfold BL
   rw [hf]
   show M.on fn.body (fun c => M.chk (Nat.ble args.length fn.ntmps) (Am.fN fn.ntmps fun n => Am.fN (BK fn) fun g => M.pure (⟨f, n, g, C1 g args 0 .E, [.code c], .run, .normal, none⟩ : AF))) _ = _
   rw [hb]
   show M.chk (Nat.ble args.length fn.ntmps) (Am.fN fn.ntmps fun n => Am.fN (BK fn) fun g => M.pure (⟨f, n, g, C1 g args 0 .E, [.code body], .run, .normal, none⟩ : AF)) _ = _
   rw [show Nat.ble args.length fn.ntmps = true from Nat.ble_eq_true_of_le (by rw [hn]; exact ha), AG, AG, hn, hg]
   rfl
 exact W.of e (h.mono fun p s1 q => W.pure q)
end
section
variable {α β : Type} {s : St}
theorem Eb {n : Int} (h1 : -9223372036854775808 ≤ n) (h2 : n ≤ 9223372036854775807) : wrap64 n = n := by
 rw [Hw]
 have e : IntKind.i64.wrap n = if n % 18446744073709551616 ≥ 9223372036854775808 then n % 18446744073709551616 - 18446744073709551616 else n % 18446744073709551616 := by
   unfold IntKind.wrap
   simp [IntKind.bits, IntKind.signed]
 rw [e]
 by_cases h : n % 18446744073709551616 ≥ 9223372036854775808
 · rw [if_pos h]; omega
 · rw [if_neg h]; omega
theorem Pg (n : Int) (s : St) : rI n s = .some (.int .i64 (wrap64 n)) s := by unfold rI; rw [BP]
theorem Gy (b : Bool) (s : St) : rB b s = .some (.bool b) s := by cases b <;> rfl
theorem FK (f : Int → Int → St → R Value) (slow : Value → Value → M Value) (a b : Int) : int2 f slow (.int .i64 a) (.int .i64 b) s = f a b s := rfl
theorem OV (slow : Value → Value → M Value) (a b : Int) : int2 (fun a b s => rI (addI a b) s) slow (.int .i64 a) (.int .i64 b) s = .some (.int .i64 (wrap64 (a + b))) s := by rw [FK, Pg, MJ]
theorem Bk_ (slow : Value → Value → M Value) (a b : Int) : int2 (fun a b s => rI (subI a b) s) slow (.int .i64 a) (.int .i64 b) s = .some (.int .i64 (wrap64 (a - b))) s := by rw [FK, Pg, Qv]
theorem YY (slow : Value → Value → M Value) (a b : Int) : int2 (fun a b s => rB (ltI a b) s) slow (.int .i64 a) (.int .i64 b) s = .some (.bool (decide (a < b))) s := by rw [FK, Gy, HE]
theorem ZY (slow : Value → Value → M Value) (a b : Int) : int2 (fun a b s => rB (ltI b a) s) slow (.int .i64 a) (.int .i64 b) s = .some (.bool (decide (b < a))) s := by rw [FK, Gy, HE]
theorem FY_ (slow : Value → Value → M Value) (a b : Int) : int2 (fun a b s => rB (!ltI a b) s) slow (.int .i64 a) (.int .i64 b) s = .some (.bool (decide (b ≤ a))) s := by
 rw [FK, Gy, HE]
 congr 2
 by_cases h : a < b
 · simp [h]
 · simp [h]; omega
theorem XC (slow : Value → Value → M Value) (a b : Int) : int2 (fun a b s => rB (eqI a b) s) slow (.int .i64 a) (.int .i64 b) s = .some (.bool (decide (a = b))) s := by rw [FK, Gy, Ld]
def setF {γ : Type} (d : Nat) (v : Value) (tm : T Value) (K : T Value → M γ) : M γ := fun s => T.rec (motive := fun _ => R γ) .none (fun a b c _ _ => K (.N a b c) s) (T.set tm d v)
def setT {γ : Type} (d : Nat) (v : Value) (tm : T Value) (K : T Value → M γ) : M γ := T.rec (motive := fun _ => M γ) M.fail (fun a b c _ _ => K (.N a b c)) (T.set tm d v)
theorem W.setF {γ : Type} {d : Nat} {v : Value} {tm : T Value} {K : T Value → M γ} {Q : γ → St → Prop} (h : W (K (T.set tm d v)) s Q) : W (setF d v tm K) s Q := by
 obtain ⟨x, a, b, e⟩ := T.set_N tm d v
 unfold Am.setF
 rw [e] at h ⊢
 exact h
theorem W.setT {γ : Type} {d : Nat} {v : Value} {tm : T Value} {K : T Value → M γ} {Q : γ → St → Prop} (h : W (K (T.set tm d v)) s Q) : W (setT d v tm K) s Q := by
 obtain ⟨x, a, b, e⟩ := T.set_N tm d v
 unfold Am.setT
 rw [e] at h ⊢
 exact h
def IR (m : M ((Rho × T Value) × List OpLog)) (bef : List Nat) : M (Rho × T Value) := fun s => St.rec (motive := fun _ => R (Rho × T Value)) (fun mem next lim rd wr cx =>
  R.rec (motive := fun _ => R (Rho × T Value)) .none (fun p s => Prod.rec (motive := fun _ => R (Rho × T Value)) (fun q l => St.rec (motive := fun _ => R (Rho × T Value)) (fun mem' next' _ _ _ _ =>
    Bool.rec (motive := fun _ => R (Rho × T Value)) .none (.some q (St.mk mem' next' lim (rdsL lim l rd) (wrsL lim l wr) cx)) (BC next l.reverse bef)) s) p) (fun _ _ => .none)
    (m (St.mk mem next (nat_lit 0) [] [] .no))) s
def dSt (mem : T Cell) (next : Nat) : St := ⟨mem, next, 0, [], [], .no⟩
def oSt (mem : T Cell) (next : Nat) : St := ⟨mem, next, next, [], [], .no⟩
theorem W.draw {m : M ((Rho × T Value) × List OpLog)} {bef : List Nat} {Q : Rho × T Value → St → Prop}
   (h : W m (dSt s.mem s.next) fun p s1 => BC s.next p.2.reverse bef = true ∧ Q p.1 ⟨s1.mem, s1.next, s.lim, rdsL s.lim p.2 s.rd, wrsL s.lim p.2 s.wr, s.cx⟩) : W (IR m bef) s Q := by
 obtain ⟨⟨q, l⟩, s1, e, ha, hq⟩ := h
 obtain ⟨mem, next, lim, rd, wr, cx⟩ := s
 obtain ⟨mem1, next1, lim1, rd1, wr1, cx1⟩ := s1
 refine ⟨q, _, ?_, hq⟩
 have e' : m ⟨mem, next, 0, [], [], .no⟩ = .some (q, l) ⟨mem1, next1, lim1, rd1, wr1, cx1⟩ := e
 have ha' : BC next l.reverse bef = true := ha
 unfold IR
 simp only [e', ha']
theorem W.dop {m : M α} {f : α × OpLog → M β} {mem : T Cell} {next : Nat} {Q : β → St → Prop}
   (h : W m (oSt mem next) fun v s1 => ∃ F, Ext F Non (oSt mem next) s1 ∧ ∀ rd, (∀ x ∈ rd, x < next ∧ F x) → W (f (v, ⟨next, s1.next, rd, []⟩)) (dSt s1.mem s1.next) Q) : W (M.bind (apartO m) f) (dSt mem next) Q := by
 obtain ⟨a, s1, e, F, x, q⟩ := h
 obtain ⟨mem1, next1, lim1, rd1, wr1, cx1⟩ := s1
 have hcx : cx1 = .no := x.cx
 obtain ⟨d1, p1, p2⟩ := x.rd
 obtain ⟨d2, p3, p4⟩ := x.wr
 have e1 : rd1 = d1 := by simpa [oSt] using p1
 have e2 : wr1 = [] := by
   have : wr1 = d2 := by simpa [oSt] using p3
   rw [this]
   cases d2 with
   | nil => rfl
   | cons y l => exact (p4 y (by simp)).2.elim
 subst hcx
 subst e2
 refine W.bind (W.of (a := (a, ⟨next, next1, rd1, []⟩)) (s' := dSt mem1 next1) ?_ (q rd1 fun y hy => p2 y (by rw [← e1]; exact hy)))
 have e' : m ⟨mem, next, next, [], [], .no⟩ = .some a ⟨mem1, next1, lim1, rd1, [], .no⟩ := e
 show Am.apartO m ⟨mem, next, 0, [], [], .no⟩ = _
 unfold Am.apartO
 simp only [e']
 rfl
theorem LB (n0 : Nat) (l acc : List Nat) : ∀ x, x ∈ A9 n0 l acc → (x ∈ l ∧ n0 ≤ x) ∨ x ∈ acc := by
 induction l with
 | nil => exact fun x h => .inr h
 | cons a l ih =>
   intro x h
   have h' : x ∈ Bool.rec (motive := fun _ => List Nat) (A9 n0 l acc) (a :: A9 n0 l acc) (Nat.ble n0 a) := h
   cases e : Nat.ble n0 a with
   | false =>
     rw [e] at h'
     rcases ih x h' with ⟨h1, h2⟩ | h1
     · exact .inl ⟨by simp [h1], h2⟩
     · exact .inr h1
   | true =>
     rw [e] at h'
     rcases List.mem_cons.1 h' with rfl | h'
     · exact .inl ⟨by simp, Nat.le_of_ble_eq_true e⟩
     · rcases ih x h' with ⟨h1, h2⟩ | h1
       · exact .inl ⟨by simp [h1], h2⟩
       · exact .inr h1
theorem Ob (lo hi : Nat) (l : List Nat) (h : ∀ x ∈ l, ¬ (lo ≤ x ∧ x < hi)) : CP lo hi l = false := by
 induction l with
 | nil => rfl
 | cons a l ih =>
   have i := ih fun x hx => h x (by simp [hx])
   show Bool.rec (motive := fun _ => Bool) (CP lo hi l) (Bool.rec (motive := fun _ => Bool) (CP lo hi l) true (Nat.blt a hi)) (Nat.ble lo a) = false
   cases e1 : Nat.ble lo a with
   | false => exact i
   | true =>
     cases e2 : Nat.blt a hi with
     | false => exact i
     | true => exact absurd ⟨Nat.le_of_ble_eq_true e1, A3 e2⟩ (h a (by simp))
theorem PX (bj : Nat) (news : List Nat) : ∀ (acc : List OpLog) (i : Nat), (∀ k a, acc[k]? = some a → bj.testBit (i + k) = true ∨ ∀ x ∈ news, ¬ (a.lo ≤ x ∧ x < a.hi)) → C4 bj news acc i = true
 | [], _, _ => rfl
 | a :: acc, i, h => by
   show ((bj.testBit i || !CP a.lo a.hi news) && C4 bj news acc (Nat.succ i)) = true
   rw [Bool.and_eq_true]
   constructor
   · rcases h 0 a rfl with h | h
     · rw [Nat.add_zero] at h; rw [h]; rfl
     · rw [Ob _ _ _ h]; simp
   · refine PX bj news acc (i + 1) fun k b hk => ?_
     have := h (k + 1) b (by simpa using hk)
     rwa [show i + (k + 1) = i + 1 + k by omega] at this
theorem Qs (n0 : Nat) (all : List OpLog) : ∀ (l : List OpLog) (bef : List Nat) (j : Nat), l.length ≤ bef.length → (∀ (k : Nat) (m : OpLog) (b : Nat), l[k]? = some m → bef[k]? = some b → m.wr = [] ∧ ∀ (i : Nat) (a : OpLog), i < j + k → all[i]? = some a → b.testBit i = true ∨ ∀ x ∈ m.rd, n0 ≤ x → ¬ (a.lo ≤ x ∧ x < a.hi)) → EJ n0 all l bef j = true
 | [], _, _, _, _ => rfl
 | _ :: _, [], _, h, _ => by simp at h
 | m :: l, b :: bef, j, hl, h => by
   show (E1 b (A9 n0 m.rd (A9 n0 m.wr [])) (all.take j) && EJ n0 all l bef (Nat.succ j)) = true
   rw [Bool.and_eq_true]
   obtain ⟨h1, h2⟩ := h 0 m b rfl rfl
   constructor
   · have hn : ∀ x, x ∈ A9 n0 m.rd (A9 n0 m.wr []) → x ∈ m.rd ∧ n0 ≤ x := fun x hx => by
       rw [h1] at hx
       rcases LB _ _ _ x hx with h | h
       · exact h
       · cases h
     have hj : C4 b (A9 n0 m.rd (A9 n0 m.wr [])) (all.take j) 0 = true := by
       refine PX _ _ _ _ fun k a hk => ?_
       rw [List.getElem?_take] at hk
       split at hk
       · rename_i hkj
         rw [Nat.zero_add]
         rcases h2 k a (by omega) hk with q | q
         · exact .inl q
         · exact .inr fun x hx => q x (hn x hx).1 (hn x hx).2
       · cases hk
     unfold E1
     generalize A9 n0 m.rd (A9 n0 m.wr []) = z at hj
     cases z with
     | nil => rfl
     | cons x z => exact hj
   · refine Qs n0 all l bef (j + 1) (by simpa using hl) fun k m b e1 e2 => ?_
     obtain ⟨h3, h4⟩ := h (k + 1) m b (by simpa using e1) (by simpa using e2)
     exact ⟨h3, fun i a hi => h4 i a (by omega)⟩
theorem Vb {n0 : Nat} {l : List OpLog} {bef : List Nat} (hl : l.length ≤ bef.length) (h : ∀ (k : Nat) (m : OpLog) (b : Nat), l[k]? = some m → bef[k]? = some b → m.wr = [] ∧ ∀ (i : Nat) (a : OpLog), i < k → l[i]? = some a → b.testBit i = true ∨ ∀ x ∈ m.rd, n0 ≤ x → ¬ (a.lo ≤ x ∧ x < a.hi)) (hw : ∀ m ∈ l, m.wr = []) : BC n0 l bef = true := by
 unfold BC
 rw [Bool.and_eq_true]
 refine ⟨Qs n0 l l bef 0 hl fun k m b e1 e2 => ?_, ?_⟩
 · obtain ⟨h1, h2⟩ := h k m b e1 e2
   exact ⟨h1, fun i a hi => h2 i a (by omega)⟩
 · rw [Bool.or_eq_true]
   left
   unfold PH
   rw [List.all_eq_true]
   intro m hm
   rw [hw m hm]
   rfl
theorem P9 (lim : Nat) (l base : List Nat) : ∃ d, addL lim l base = d ++ base ∧ ∀ x ∈ d, x < lim ∧ x ∈ l := by
 induction l with
 | nil => exact ⟨[], rfl, fun _ h => by cases h⟩
 | cons a l ih =>
   obtain ⟨d, e, q⟩ := ih
   obtain ⟨d2, e2, q2⟩ := FC a lim (addL lim l base)
   refine ⟨d2 ++ d, ?_, fun x hx => ?_⟩
   · show notes a lim (addL lim l base) = _
     rw [e2, e, List.append_assoc]
   · rcases List.mem_append.1 hx with hx | hx
     · exact ⟨(q2 x hx).1, by simp [(q2 x hx).2]⟩
     · exact ⟨(q x hx).1, by simp [(q x hx).2]⟩
theorem Nl (lim : Nat) (l : List OpLog) (base : List Nat) : ∃ d, rdsL lim l base = d ++ base ∧ ∀ x ∈ d, x < lim ∧ ∃ m ∈ l, x ∈ m.rd := by
 induction l with
 | nil => exact ⟨[], rfl, fun _ h => by cases h⟩
 | cons m l ih =>
   obtain ⟨d, e, q⟩ := ih
   obtain ⟨d2, e2, q2⟩ := P9 lim m.rd (rdsL lim l base)
   refine ⟨d2 ++ d, ?_, fun x hx => ?_⟩
   · show addL lim m.rd (rdsL lim l base) = _
     rw [e2, e, List.append_assoc]
   · rcases List.mem_append.1 hx with hx | hx
     · exact ⟨(q2 x hx).1, m, by simp, (q2 x hx).2⟩
     · obtain ⟨h1, m', h2, h3⟩ := q x hx
       exact ⟨h1, m', by simp [h2], h3⟩
theorem Xq (lim : Nat) (l : List OpLog) (base : List Nat) (h : ∀ m ∈ l, m.wr = []) : wrsL lim l base = base := by
 induction l with
 | nil => rfl
 | cons m l ih =>
   show addL lim m.wr (wrsL lim l base) = base
   rw [h m (by simp), ih fun x hx => h x (by simp [hx])]
   rfl
theorem Ext.draw {F : Nat → Prop} {mem' : T Cell} {next' : Nat} {l : List OpLog} (h1 : s.next ≤ next') (h2 : ∀ x, x < s.next → T.get mem' x = T.get s.mem x) (hw : ∀ m ∈ l, m.wr = []) (hr : ∀ m ∈ l, ∀ x ∈ m.rd, x < s.lim → F x) :
   Ext F Non s ⟨mem', next', s.lim, rdsL s.lim l s.rd, wrsL s.lim l s.wr, s.cx⟩ := by
 obtain ⟨d, e, q⟩ := Nl s.lim l s.rd
 exact ⟨h1, rfl, rfl, fun x hx _ => h2 x hx, ⟨d, e, fun x hx => by obtain ⟨a, m, b, c⟩ := q x hx; exact ⟨a, hr m b x c a⟩⟩, ⟨[], Xq _ _ _ hw, fun _ h => by cases h⟩⟩
end
section
variable {α β : Type} {s : St}
def oS (x : Option α) (f : α → M β) : M β := fun s => Option.rec (motive := fun _ => R β) .none (fun a => f a s) x
theorem W.oS {x : Option α} {a : α} {f : α → M β} {Q : β → St → Prop} (e : x = some a) (h : W (f a) s Q) : W (oS x f) s Q := by subst e; exact h
def seqO (l : List (Option Value)) : Option (List Value) := List.rec (motive := fun _ => Option (List Value)) (some []) (fun x _ ih => onO x fun v => onO ih fun l => some (v :: l)) l
def seqP (l : List (Nat × Option Value)) : Option (List (Nat × Value)) := List.rec (motive := fun _ => Option (List (Nat × Value))) (some []) (fun x _ ih => onO x.2 fun v => onO ih fun l => some ((x.1, v) :: l)) l
def Cl.get {γ : Type} (c : Cl γ) : γ := Cl.rec (motive := fun _ => γ) (fun f => f) c
def hdC (l : List Item) : Code := match l with | .code c :: _ => c | _ => .skip
def dsC (c : Code) : List Nat := match c with | .region _ ops _ => dstL ops.toList | _ => []
def brT (l : List Item) : List Item := match l with | .code (.cond _ a _) :: k => .code a :: k | _ => []
def brF (l : List Item) : List Item := match l with | .code (.cond _ _ b) :: k => .code b :: k | _ => []
def B5 (l : List Item) : Option Nat := match l with | .code (.cond (.tmp t) _ _) :: _ => some t | _ => none
theorem W.reg {E : Env} {n f nt g : Nat} {tm : T Value} {T P : List Item} {ki : CallKind} {ro : Option Nat} {nice : Env → Ae → Ae → Am.T Value → M (Am.T Value)} {Q : Value × FrameMode → St → Prop} (ht : skim 64 T = P) (hP : P = .code (hdC P) :: P.tail)
   (he : ∀ (E : Env) (call round : Ae) (td k : List Item) (ki : CallKind) (ro : Option Nat) (tm : Am.T Value) (s : St), codeF E call round ⟨f, nt, g, tm, td, .run, ki, ro⟩ k (hdC P) s = regF call round ⟨f, nt, g, tm, td, .run, ki, ro⟩ (dsC (hdC P)) (fun call round _ tm => nice E call round tm) k s)
   (hn : 0 < n) (h : W (nice E (AJ E (runF E (n - 1))) (BB (runF E (n - 1))) tm) s fun tm s1 => W (runF E (n - 1) ⟨f, nt, g, tm, P.tail, .run, ki, ro⟩) s1 Q) : W (runF E n ⟨f, nt, g, tm, T, .run, ki, ro⟩) s Q := by
 obtain ⟨m, rfl⟩ : ∃ m, n = m + 1 := ⟨n - 1, by omega⟩
 rw [hP] at ht
 refine W.code ht (W.cast (he E _ _ _ _ _ _ _ _) ?_)
 rw [Nat.add_sub_cancel] at h
 obtain ⟨tm', s1, e, hq⟩ := h
 refine ⟨.go ⟨f, nt, g, tm', P.tail, .run, ki, ro⟩, s1, ?_, hq⟩
 unfold regF
 simp only [e]
 rfl
theorem W.cond {E : Env} {n f nt g t : Nat} {tm : T Value} {T P : List Item} {ki : CallKind} {ro : Option Nat} {v : Bool} {Q : Value × FrameMode → St → Prop} (ht : skim 64 T = P) (hx : B5 P = some t) (hv : Am.T.get tm t = some (.bool v)) (hn : 0 < n)
   (h1 : v = true → W (runF E (n - 1) ⟨f, nt, g, tm, brT P, .run, ki, ro⟩) s Q) (h2 : v = false → W (runF E (n - 1) ⟨f, nt, g, tm, brF P, .run, ki, ro⟩) s Q) : W (runF E n ⟨f, nt, g, tm, T, .run, ki, ro⟩) s Q := by
 obtain ⟨m, rfl⟩ : ∃ m, n = m + 1 := ⟨n - 1, by omega⟩
 rw [Nat.add_sub_cancel] at h1 h2
 unfold B5 at hx
 split at hx
 · rename_i t' a b k
   cases hx
   refine W.code ht ?_
   show W (M.on (Am.T.get tm t) (GC ⟨f, nt, g, tm, .code (.cond (.tmp t) a b) :: k, .run, ki, ro⟩ a b k)) s _
   refine W.on hv ?_
   cases v with
   | true => exact W.pure (h1 rfl)
   | false => exact W.pure (h2 rfl)
 · cases hx
structure RegEq (f nt g : Nat) (P : List Item) (nice : Env → Ae → Ae → T Value → M (T Value)) : Prop where
  hd : P = .code (hdC P) :: P.tail
  eq : ∀ (E : Env) (call round : Ae) (td k : List Item) (ki : CallKind) (ro : Option Nat) (tm : T Value) (s : St), codeF E call round ⟨f, nt, g, tm, td, .run, ki, ro⟩ k (hdC P) s = regF call round ⟨f, nt, g, tm, td, .run, ki, ro⟩ (dsC (hdC P)) (fun call round _ tm => nice E call round tm) k s
theorem RegEq.w {E : Env} {n f nt g : Nat} {tm : T Value} {T P : List Item} {ki : CallKind} {ro : Option Nat} {nice : Env → Ae → Ae → Am.T Value → M (Am.T Value)} {Q : Value × FrameMode → St → Prop} (q : RegEq f nt g P nice) (ht : skim 64 T = P) (hn : 0 < n)
   (h : W (nice E (AJ E (runF E (n - 1))) (BB (runF E (n - 1))) tm) s fun tm s1 => W (runF E (n - 1) ⟨f, nt, g, tm, P.tail, .run, ki, ro⟩) s1 Q) : W (runF E n ⟨f, nt, g, tm, T, .run, ki, ro⟩) s Q := W.reg ht q.hd q.eq hn h
def befC (c : Code) : List Nat := match c with | .region _ ops _ => (Region.before ops).toList | _ => []
def DE (E : Env) (g n : Nat) (c : Code) : List COp := match c with
  | .region _ ops _ => (match Bw E g n ops.toList ops.toList [] with | some l => Eh l (Cb l.length (Region.before ops).toList) | none => [])
  | _ => []
theorem W.regD {E : Env} {n f nt g : Nat} {tm : T Value} {T P : List Item} {ki : CallKind} {ro : Option Nat} {nice : Env → Ae → Ae → Am.T Value → M ((Rho × Am.T Value) × List OpLog)} {Q : Value × FrameMode → St → Prop} (ht : skim 64 T = P) (hP : P = .code (hdC P) :: P.tail)
   (he : ∀ (E : Env) (call round : Ae) (td k : List Item) (ki : CallKind) (ro : Option Nat) (tm : Am.T Value) (s : St), codeF E call round ⟨f, nt, g, tm, td, .run, ki, ro⟩ k (hdC P) s = M.bind (IR (nice E call round tm) (befC (hdC P))) (endE call round ⟨f, nt, g, tm, td, .run, ki, ro⟩ (DE E g nt (hdC P)) (dsC (hdC P)) k) s)
   (hn : 0 < n) {bef : List Nat} (hb : befC (hdC P) = bef) (h : W (nice E (AJ E (runF E (n - 1))) (BB (runF E (n - 1))) tm) (dSt s.mem s.next) fun p s1 => BC s.next p.2.reverse bef = true ∧
     W (Bd (AJ E (runF E (n - 1))) (BB (runF E (n - 1))) (DE E g nt (hdC P)) p.1.1 p.1.2) ⟨s1.mem, s1.next, s.lim, rdsL s.lim p.2 s.rd, wrsL s.lim p.2 s.wr, s.cx⟩ fun tm s1 => W (runF E (n - 1) ⟨f, nt, g, tm, P.tail, .run, ki, ro⟩) s1 Q) : W (runF E n ⟨f, nt, g, tm, T, .run, ki, ro⟩) s Q := by
 obtain ⟨m, rfl⟩ : ∃ m, n = m + 1 := ⟨n - 1, by omega⟩
 rw [hP] at ht
 rw [Nat.add_sub_cancel] at h
 refine W.code ht (W.cast (he E _ _ _ _ _ _ _ _) (W.bind (W.draw ?_)))
 rw [hb]
 refine h.mono fun p s1 q => ⟨q.1, ?_⟩
 obtain ⟨tm', s2, e, hq⟩ := q.2
 refine ⟨.go ⟨f, nt, g, tm', P.tail, .run, ki, ro⟩, s2, ?_, hq⟩
 unfold endE
 simp only [e]
 rfl
structure DrawEq (f nt g : Nat) (P : List Item) (bef : List Nat) (nice : Env → Ae → Ae → T Value → M ((Rho × T Value) × List OpLog)) : Prop where
  hd : P = .code (hdC P) :: P.tail
  bef : befC (hdC P) = bef
  eq : ∀ (E : Env) (call round : Ae) (td k : List Item) (ki : CallKind) (ro : Option Nat) (tm : T Value) (s : St), codeF E call round ⟨f, nt, g, tm, td, .run, ki, ro⟩ k (hdC P) s = M.bind (IR (nice E call round tm) (befC (hdC P))) (endE call round ⟨f, nt, g, tm, td, .run, ki, ro⟩ (DE E g nt (hdC P)) (dsC (hdC P)) k) s
theorem DrawEq.w {E : Env} {n f nt g : Nat} {tm : T Value} {T P : List Item} {ki : CallKind} {ro : Option Nat} {bef : List Nat} {nice : Env → Ae → Ae → Am.T Value → M ((Rho × Am.T Value) × List OpLog)} {Q : Value × FrameMode → St → Prop} (q : DrawEq f nt g P bef nice) (ht : skim 64 T = P) (hn : 0 < n)
   (h : W (nice E (AJ E (runF E (n - 1))) (BB (runF E (n - 1))) tm) (dSt s.mem s.next) fun p s1 => BC s.next p.2.reverse bef = true ∧
     W (Bd (AJ E (runF E (n - 1))) (BB (runF E (n - 1))) (DE E g nt (hdC P)) p.1.1 p.1.2) ⟨s1.mem, s1.next, s.lim, rdsL s.lim p.2 s.rd, wrsL s.lim p.2 s.wr, s.cx⟩ fun tm s1 => W (runF E (n - 1) ⟨f, nt, g, tm, P.tail, .run, ki, ro⟩) s1 Q) : W (runF E n ⟨f, nt, g, tm, T, .run, ki, ro⟩) s Q := W.regD ht q.hd q.eq hn q.bef h
def mv {γ : Type} (x : Option Value) (K : Value → M γ) : M γ := M.bind (oS x fun a => M.pure a) K
end
section
variable {α β : Type} {s : St}
theorem A5 {m : M α} {Q : α → St → Prop} {a : α} {s' : St} (e : m s = .some a s') : W m s Q = Q a s' := propext ⟨fun ⟨b, s1, e1, q⟩ => by rw [e] at e1; cases e1; exact q, fun q => ⟨a, s', e, q⟩⟩
theorem AK (m : M α) (f : α → M β) (Q : β → St → Prop) : W (M.bind m f) s Q = W m s fun a s1 => W (f a) s1 Q := propext ⟨fun ⟨b, s2, e, q⟩ => by
   obtain ⟨a, s1, e1, e2⟩ := bind_some e
   exact ⟨a, s1, e1, b, s2, e2, q⟩, W.bind⟩
theorem AI (a : α) (Q : α → St → Prop) : W (M.pure a) s Q = Q a s := A5 rfl
theorem W_mv {γ : Type} (a : Value) (K : Value → M γ) (Q : γ → St → Prop) : W (mv (some a) K) s Q = W (K a) s Q := (AK _ _ _).trans (AI a _)
theorem W_oS (a : α) (f : α → M β) (Q : β → St → Prop) : W (oS (some a) f) s Q = W (f a) s Q := propext Iff.rfl
theorem W_on (a : α) (f : α → M β) (Q : β → St → Prop) : W (M.on (some a) f) s Q = W (f a) s Q := propext Iff.rfl
theorem Do (m : M α) (Q : α → St → Prop) : W (M.chk true m) s Q = W m s Q := propext Iff.rfl
theorem Df (x y : M α) (Q : α → St → Prop) : W (M.if true x y) s Q = W x s Q := propext Iff.rfl
theorem G4 (x y : M α) (Q : α → St → Prop) : W (M.if false x y) s Q = W y s Q := propext Iff.rfl
theorem AM {γ : Type} (d : Nat) (v : Value) (tm : T Value) (K : T Value → M γ) (Q : γ → St → Prop) : W (setF d v tm K) s Q = W (K (T.set tm d v)) s Q := by
 obtain ⟨x, a, b, e⟩ := T.set_N tm d v
 unfold setF
 rw [e]
theorem DM {γ : Type} (d : Nat) (v : Value) (tm : T Value) (K : T Value → M γ) (Q : γ → St → Prop) : W (setT d v tm K) s Q = W (K (T.set tm d v)) s Q := by
 obtain ⟨x, a, b, e⟩ := T.set_N tm d v
 unfold setT
 rw [e]
theorem W.end' {E : Env} {n f nt g : Nat} {tm : T Value} {todo P : List Item} {ki : CallKind} {fn : Func} {rs : List Nat} {vs : List Value} {up : Option FrameMode} {Q : Value × FrameMode → St → Prop} (ht : skim 64 todo = P) (hP : (∃ k, P = .code .ret :: k) ∨ P = []) (hn : 2 ≤ n)
   (hf : E.fn.get f = some fn) (hr : fn.results.toList = rs.map .tmp) (hc : s.cx = .cx up (some [])) (hv : rs.map (Am.T.get tm) = vs.map some) (q : Q (tupV vs, up.getD .run) s) : W (runF E n ⟨f, nt, g, tm, todo, .run, ki, none⟩) s Q := by
 obtain ⟨m, rfl⟩ : ∃ m, n = m + 2 := ⟨n - 2, by omega⟩
 subst ht
 exact W.ret hP hf hr hv hc q
theorem Dr (b : Bool) : isK (.bool b) = true := rfl
theorem Hj : isB (.bool true) true = true := rfl
theorem Gn : isB (.bool true) false = false := rfl
theorem Gp : isB (.bool false) true = false := rfl
theorem Di : isB (.bool false) false = true := rfl
theorem Bo : seqO [] = some [] := rfl
theorem By (v : Value) (l : List (Option Value)) : seqO (some v :: l) = onO (seqO l) fun l => some (v :: l) := rfl
theorem C9 : seqP [] = some [] := rfl
theorem Dm (k : Nat) (v : Value) (l : List (Nat × Option Value)) : seqP ((k, some v) :: l) = onO (seqP l) fun l => some ((k, v) :: l) := rfl
theorem Bg {γ : Type} (a : α) (K : α → Option γ) : onO (some a) K = K a := rfl
theorem Dk (c : Bool) (a b : Value) (Q : Value → St → Prop) : W (Cd (.bool c) a b) s Q = Q (if c then a else b) s := by
 refine A5 ?_
 cases c <;> rfl
section
variable {E : Env} {t : Nat} {xo yo : Operand} {Q : Value → St → Prop}
theorem Gw (a b : Int) : W (Cl.get (aBin E .add t xo yo) (.int .i64 a) (.int .i64 b)) s Q = Q (.int .i64 (wrap64 (a + b))) s := A5 (OV _ a b)
theorem QC (a b : Int) : W (Cl.get (aBin E .sub t xo yo) (.int .i64 a) (.int .i64 b)) s Q = Q (.int .i64 (wrap64 (a - b))) s := A5 (Bk_ _ a b)
theorem Hp (a b : Int) : W (Cl.get (aBin E .lss t xo yo) (.int .i64 a) (.int .i64 b)) s Q = Q (.bool (decide (a < b))) s := A5 (YY _ a b)
theorem Lx (a b : Int) : W (Cl.get (aBin E .gtr t xo yo) (.int .i64 a) (.int .i64 b)) s Q = Q (.bool (decide (b < a))) s := A5 (ZY _ a b)
theorem JR (a b : Int) : W (Cl.get (aBin E .geq t xo yo) (.int .i64 a) (.int .i64 b)) s Q = Q (.bool (decide (b ≤ a))) s := A5 (FY_ _ a b)
theorem BQ_ (a b : Int) : W (Cl.get (aBin E .eql t xo yo) (.int .i64 a) (.int .i64 b)) s Q = Q (.bool (decide (a = b))) s := A5 (XC _ a b)
end
end
end Go.Proofs.YtchnfdaebboaeaaGreatDoor.Am
end
