/- Frames beside the evaluator's:unwinding;whole runs;calls. -/
import Derived.Test.YtapojfiplajfaaaGreatDoorWnn08
import Derived.RowKit3
namespace Go.Proofs.YtapojfiplajfaaaGreatDoor.Am
open Go.RowKit
structure DeferOK (E:Env)(dcall:DeferT):Prop where
 loc: ∀f args m,Loc (dcall f args m)
 ok: ∀{w0 w:World} {r:Inj} {f:Nat} {args args':List Value} {m m':FrameMode} {s:St} {out:Out (Option (List PanicEntry)×FrameMode)} {s':St},dcall f args m s=rOf out s'→Rel w0 r s.mem w→Bnd s→Fresh r s.next s'.next→VRs r args args'→MoR r m m'→
  (∀w,(callFunc f args'.toArray).run E.P w= .ok (.enter f args'.toArray) w)∧
  ∀c cs,c.mode=m'→ ∃w' r' p m2,out= .inl p∧Goes w0 r s s' r' w'∧s'.lim=s.lim∧s'.cx=s.cx∧MoR r' p.2 m2∧
   (match p.1 with
    |none=> ∃v',Steps E.P (lone (Frame.enter E.P f args'.toArray .deferred) (c::cs) w) (lone (doneF .deferred {c with mode:=m2} v') cs w')
    |some ch=> ∃ch',ChR r' ch ch'∧Steps E.P (lone (Frame.enter E.P f args'.toArray .deferred) (c::cs) w) (lone (({c with mode:=m2}:Frame).raise ch') cs w'))
theorem ChR.drop {r:Inj}{l l':List PanicEntry}(h:ChR r l l'):ChR r (l.dropWhile (!·.goexit)) (l'.dropWhile (!·.goexit)):=by
 induction h with
 |nil=>exact .nil
 | @cons e e' l l' a b c d ih=>
  rw[List.dropWhile_cons,List.dropWhile_cons,c]
  cases e.goexit with
  |true=>simp;exact .cons a b c d
  |false=>simp;exact ih
theorem doneF_mode {r:Inj}{m m2:FrameMode}(h:MoR r m m2)(c:Frame)(v:Value): ∃m3,doneF .deferred {c with mode:=m2} v={c with mode:=m3}∧MoR r (afterD m) m3:=by
 cases h with
 |run=>exact⟨.run,rfl, .run⟩
 |ret=>exact⟨.returning,rfl, .ret⟩
 |pan hc=>
  cases hc with
  |nil=>exact⟨.panicking [],rfl, .pan .nil⟩
  | @cons e e' l l' a b cc d=>
   obtain⟨ev,er,eg⟩:=e
   obtain⟨ev',er',eg'⟩:=e'
   simp only at b cc a
   subst b
   cases er' with
   |false=>exact⟨.panicking (⟨ev',false,eg'⟩::l'),rfl, .pan (.cons a rfl cc d)⟩
   |true=>
    have hd:=d.drop
    simp only[doneF,afterD]
    generalize l.dropWhile (!·.goexit)=x at hd
    generalize l'.dropWhile (!·.goexit)=y at hd
    cases hd with
    |nil=>exact⟨.returning,rfl, .ret⟩
    |cons a b c d=>exact⟨_,rfl, .pan (.cons a b c d)⟩
theorem raise_mode {r:Inj}{m m2:FrameMode}(h:MoR r m m2){ch ch':List PanicEntry}(hc:ChR r ch ch')(c:Frame): ∃m3,({c with mode:=m2}:Frame).raise ch'={c with mode:=m3}∧MoR r (raiseM m ch) m3:=by
 cases h with
 |run=>exact⟨_,rfl, .pan hc⟩
 |ret=>exact⟨_,rfl, .pan hc⟩
 |pan hd=>exact⟨_,rfl, .pan (hc.append hd)⟩
theorem DfsR.inv_nil {r:Inj}{l:List Deferred}(h:DfsR r [] l):l=[]:=by cases h;rfl
section
variable {E:Env}{call round:CallT}{dcall:DeferT}{w0 w:World}{r:Inj}{base:List Deferred×List Frame}
theorem lo_outF (af:AF)(up:Option FrameMode):Loc (outF E af up):=by
 unfold outF
 cases af.mode with
 |run=>exact lo_fail
 |returning=>exact lo_on _ fun fn=>lo_bind (lo_bind (lo_resL _ _) fun l=>lo_pure _) fun v=>lo_pure _
 |panicking c=>exact lo_throw _
theorem np_resL (tm:T Value): ∀(l:List ResultVar),NoPan (resL E tm l)
 |[]=>np_pure _
 |x::l=>by
  refine np_bind ?_ fun v=>np_bind (np_resL tm l) fun l=>np_pure _
  cases x with
  |tmp t=>exact np_ofOpt _
  |cell a t=>exact np_on _ fun a=>np_bind (np_asA _) fun a=>np_aLoad _ _ _
theorem lo_runD (c3:DeferOK E dcall)(af:AF)(d:Deferred):Loc (runD dcall af d):=by
 unfold runD
 split
 ·refine lo_bind (lo_rdC _) fun c=> ?_
  split
  ·exact lo_bind (lo_wrC _ _) fun _=>lo_pure _
  ·exact lo_fail
 ·refine lo_bind (c3.loc _ _ _) fun p=> ?_
  unfold backD
  cases p.1 with
  |none=>simp only;split<;>first|exact lo_fail|exact lo_goMo _ _ _
  |some c=>exact lo_goMo _ _ _
 ·exact lo_fail
theorem lo_unwindF (c3:DeferOK E dcall)(af:AF):Loc (unwindF E dcall af):=by
 unfold unwindF
 refine lo_bind lo_getCx fun cx=> ?_
 cases cx with
 |no=>exact lo_fail
 |cx up d=>
  cases d with
  |none=>exact lo_fail
  |some d=>
   cases d with
   |nil=>exact lo_outF _ _
   |cons d ds=>exact lo_noP (lo_bind (lo_putCx _) fun _=>lo_runD c3 _ _)
theorem stepA_run (af:AF)(hm:af.mode= .run):stepA E call round dcall af=noP (runItems E call round {af with todo:=skim 64 af.todo} (skim 64 af.todo)):=by
 obtain⟨fn,n,g,tm,todo,mo,ki,ro⟩:=af
 simp only at hm
 subst hm
 rfl
theorem stepA_un (af:AF)(hm:af.mode≠ .run):stepA E call round dcall af=unwindF E dcall af:=by
 obtain⟨fn,n,g,tm,todo,mo,ki,ro⟩:=af
 simp only at hm
 cases mo with
 |run=>exact absurd rfl hm
 |returning=>rfl
 |panicking c=>rfl
theorem lo_stepA (he:EnvOK E)(c1:CallOK E call)(c2:RoundOK E round)(c3:DeferOK E dcall)(af:AF):Loc (stepA E call round dcall af):=by
 by_cases hm:af.mode= .run
 ·rw[stepA_run af hm]
  refine lo_noP ?_
  generalize skim 64 af.todo=l
  cases l with
  |nil=>exact lo_leaveF _ _
  |cons x k=>exact lo_itemF he c1 c2 _ _ _
 ·rw[stepA_un af hm];exact lo_unwindF c3 _
/-- A frame that is being left. -/
theorem unwindF_ok (he:EnvOK E)(c3:DeferOK E dcall){af:AF}{fr:Frame}{cs:List Frame}{s s':St}{out:Out Step}(h:unwindF E dcall af s=rOf out s')(hF:FR E.P r af s.cx base fr cs)(hm:af.mode≠ .run)(hr:Rel w0 r s.mem w)(hb:Bnd s)(hf:Fresh r s.next s'.next):
  ∃w' r',Goes w0 r s s' r' w'∧s'.lim=s.lim∧StepE E.P r' base s'.cx fr (lone fr cs w) w' out:=by
 unfold unwindF at h
 rw[getCx_bind]at h
 have hmode:fr.mode≠ .run:=by
  have:=hF.mode
  intro hx
  rw[hx]at this
  generalize af.mode=m at this hm
  cases this
  exact hm rfl
 have hunw: ∀{w:World} {dd:List Deferred},stepG E.P true {frame:={fr with defers:=dd},callers:=cs,status:= .running,dying:=none} w=unwind E.P true {fr with defers:=dd} cs none w:=by
  intro w dd
  have:({fr with defers:=dd}:Frame).mode=fr.mode:=rfl
  cases hx:fr.mode with
  |run=>exact absurd hx hmode
  |returning=>simp[stepG]
  |panicking c=>simp[stepG]
 have hfr:fr={fr with defers:=fr.defers}:=rfl
 have hc:=hF.cx
 cases hcx:s.cx with
 |no=>rw[hcx]at h;exact(rOf_none h).elim
 |cx up d=>
  rw[hcx]at hc h
  cases d with
  |none=>exact(rOf_none h).elim
  |some d=>
   obtain⟨q1,q2,q3⟩:=hc
   obtain⟨fn0,hfn0⟩:=hF.known q2
   cases d with
   |nil=>
    have hd0:=q3.inv_nil
    have hends: ∀{s1:St} {o:Out (Value×FrameMode)},s1.cx=s.cx→(∀v u,o= .inl (v,u)→u=up.getD .run)→((fr.kind= .normal∧cs=base.2)∨ ∃u c0 rest m',s1.cx= .cx (some u) (some [])∧fr.kind= .deferred∧base.2=c0::rest∧cs={c0 with mode:=m'}::rest∧MoR r u m'∧ ∀v up,o= .inl (v,up)→up=u):=by
     intro s1 o e1 e2
     cases up with
     |none=>exact .inl q1
     |some m=>
      obtain⟨p1,c0,rest,m',p2,p3,p4⟩:=q1
      exact .inr ⟨m,c0,rest,m',by rw[e1,hcx],p1,p2,p3,p4,fun v u e=>e2 v u e⟩
    replace h:outF E af up s=rOf out s':=h
    unfold outF at h
    have hMo:=hF.mode
    cases hmo:af.mode with
    |run=>exact absurd hmo hm
    |returning=>
     rw[hmo]at h hMo
     obtain⟨fn,e1,h⟩:=on_rOf h
     rcases bind_rOf h with⟨v,s1,e2,e3⟩|⟨c,e2,_⟩
     ·obtain⟨rfl,rfl⟩:=rOf_inl (show R.some (Step.fin v (up.getD .run)) s1=rOf out s' from e3)
      obtain⟨v',k1,k2,k3⟩:=resultsA_ok he.ty e2 hF.tm hr
      have hfmode:fr.mode= .returning:=by cases hx:fr.mode<;>rw[hx]at hMo<;>cases hMo
      have hfuncs:E.P.funcs[fr.fn]?=some fn:=by rw[hF.fn];exact(he.fn _ _ e1).1
      refine⟨w,r, .same k3 hr,k3.2.2.1,cs,hends k3.2.2.2 (fun v u e=>by cases e;rfl),v',k2,fun c rest hcs=> .one (step_lone_go ?_),fun _ hk=>⟨fr,rfl,⟨hfmode,hd0,hk,fn,hfuncs,k1⟩, .refl _ _⟩⟩
      subst hcs
      have hkind:fr.kind= .normal∨fr.kind= .deferred:=by
       cases up with
       |none=>exact .inl q1.1
       |some m=>exact .inr q1.1
      have h0:=hunw (w:=w) (dd:=fr.defers)
      rw[←hfr]at h0
      rw[h0]
      rcases hkind with hk|hk
      ·simp only[unwind,hd0,hfmode,hfuncs,Sem.runT_eq,k1,GStep.bare_after,doReturn,hk,doneF]
       rfl
      ·simp only[unwind,hd0,hfmode,hfuncs,Sem.runT_eq,k1,GStep.bare_after,doReturn,hk,doneF]
       rfl
     ·exact((np_bind (np_resL _ _) fun l=>np_pure _).no _ _ _ e2).elim
    |panicking c=>
     rw[hmo]at h hMo
     obtain⟨rfl,rfl⟩:=rOf_inr (show R.pan c s=rOf out s' from h)
     generalize hfm:fr.mode=fm at hMo
     cases hMo with
     | @pan _ c' hch=>
      refine⟨w,r, .of_rel rfl hr,rfl,cs,hends rfl (fun v u e=>by cases e),c',hch,fun c1 rest hcs=> .one (step_lone_go ?_)⟩
      subst hcs
      have h0:=hunw (w:=w) (dd:=fr.defers)
      rw[←hfr]at h0
      rw[h0]
      have hcat: ∀g:Frame,g.fn=fr.fn→g.catches E.P=false:=by intro g hg;unfold Frame.catches;rw[hg,hfn0]
      simp only[unwind,hd0,hfm]
      rw[if_neg (by have:=hcat ⟨fr.fn,fr.tmps,fr.todo,[], .panicking c',fr.kind,fr.roundOf⟩ rfl;rw[this];simp)]
      rfl
   |cons d ds=>
    replace h:noP (M.bind (putCx (.cx up (some ds))) fun _=>runD dcall af d) s=rOf out s':=h
    obtain⟨p,hout,h'⟩:=noP_rOf h
    clear h
    subst hout
    have h:=h'
    clear h'
    rw[putCx_bind]at h
    generalize hdd:fr.defers=dd at q3
    cases q3 with
    | @cons _ d' _ ds' k1 k2=>
     have hc':CxR r base (.cx up (some ds)) fr ds' cs:=⟨q1,q2,k2⟩
     have h0:=hunw (w:=w) (dd:=d'::ds')
     have hfr':({fr with defers:=d'::ds'}:Frame)=fr:=by rw[←hdd]
     rw[hfr']at h0
     have hF2: ∀{r':Inj} {m:FrameMode} {m3:FrameMode} {cx:Ctx},r.le r'→m≠ .run→MoR r' m m3→cx= .cx up (some ds)→FR E.P r' {af with mode:=m} cx base {fr with defers:=ds',mode:=m3} cs:=by
      intro r' m m3 cx hle hne hmo hcx
      refine⟨hF.fn,hF.size,hF.tm.mono hle,fun e=>absurd e hne,hmo,hF.round.mono hle,hF.rk,hF.known, ?_⟩
      rw[hcx]
      exact hc'.mono hle
     cases k1 with
     | @coll bb bb' o hbb=>
      replace h:M.bind (rdC bb) (fun c=>(match c with| .O (.deferred (some []))=>M.bind (wrC bb (.O (.deferred none))) fun _=>M.pure (Step.go af)|_=>M.fail)) ⟨s.mem,s.next,s.lim,s.rd,s.wr, .cx up (some ds)⟩= .some p s':=h
      obtain⟨c,s1,e1,e2⟩:=bind_some h
      obtain⟨z1,z2⟩:=rdC_some e1
      have fin:c= .O (.deferred (some [])):=by
       cases c with
       |C a b=>cases e2
       |O o=>
        cases o with
        |deferred l=>
         cases l with
         |none=>cases e2
         |some l=>cases l with
          |nil=>rfl
          |cons=>cases e2
        |_=>cases e2
      subst fin
      obtain⟨u,s2,e3,e4⟩:=bind_some e2
      obtain⟨rfl,rfl⟩:=pure_some e4
      obtain⟨b2,d2,o',y1,y2,y3⟩:=hr.obj _ _ z1 rfl
      rw[hbb]at y1
      cases y1
      have ho':o'= .deferred (some []):=by
       unfold OR at y3
       cases o' with
       |deferred l=>
        cases l with
        |none=>exact y3.elim
        |some l=>cases l with
         |nil=>rfl
         |cons=>exact y3.elim
       |_=>exact y3.elim
      subst ho'
      obtain⟨x1,x2,x3⟩:=wrO_ok (o2':= .deferred none) e3 (by rw[z2.1];exact hr) (by rw[z2.1];exact z1) rfl hbb (by simp[OR]) rfl
      have hgo:Goes w0 r s s2 r (World.setO w bb' (.deferred none)):=⟨x1.le,by rw[←show(⟨s.mem,s.next,s.lim,s.rd,s.wr, .cx up (some ds)⟩:St).next=s.next from rfl,←z2.2.1];exact x1.nxt,fun b hb=>by
       have:=x1.domB b hb;rw[z2.2.1]at this;exact this,fun b hb=>by have:=x1.domE b hb;rw[z2.2.1]at this;exact this,x1.rel⟩
      refine⟨_,r,hgo,x2.trans z2.2.2.1,{fr with defers:=ds',mode:=fr.mode},cs,rfl,hF2 (m:=af.mode) (Inj.le_refl r) hm hF.mode (x3.trans z2.2.2.2), .one (step_lone_go ?_)⟩
      rw[h0]
      have hrun:(Instr.takeDeferred bb').run E.P w= .ok [] (World.setO w bb' (.deferred none)):=by
       simp[Instr.takeDeferred,getObj,setObj,Sem.run,y2,World.setO]
      simp only[unwind,hdd,Sem.runT_eq,hrun,GStep.bare_after]
      rfl
     | @fn f f' cc cc' aa aa' j1 j2 j3=>
      cases f with
      |func f=>
       cases f' with
       |func f'=>
        simp only[FnR]at j1
        subst j1
        replace h:M.bind (dcall f (aa.toList++cc.toList) af.mode) (backD af) ⟨s.mem,s.next,s.lim,s.rd,s.wr, .cx up (some ds)⟩= .some p s':=h
        obtain⟨p1,s1,e1,e2⟩:=bind_some h
        have hnx:s'.next=s1.next∧s'.lim=s1.lim∧s'.cx=s1.cx∧s'.mem=s1.mem∧p= .go {af with mode:=match p1.1 with|none=>afterD p1.2|some c=>raiseM p1.2 c}∧(p1.1=none→afterD p1.2≠ .run):=by
         unfold backD at e2
         cases hp:p1.1 with
         |none=>
          rw[hp]at e2
          simp only at e2
          cases hD:afterD p1.2 with
          |run=>rw[hD]at e2;cases e2
          |returning=>rw[hD]at e2;cases e2;exact⟨rfl,rfl,rfl,rfl,rfl,fun _ h=>by cases h⟩
          |panicking c=>rw[hD]at e2;cases e2;exact⟨rfl,rfl,rfl,rfl,rfl,fun _ h=>by cases h⟩
         |some c=>rw[hp]at e2;cases e2;exact⟨rfl,rfl,rfl,rfl,rfl,fun h=>by cases h⟩
        obtain⟨n1,n2,n3,n4,rfl,n5⟩:=hnx
        obtain⟨i1,i2⟩:=c3.ok (out:= .inl p1) (args':=aa'.toList++cc'.toList) e1 hr hb (by rw[←n1];exact hf) (j3.append j2) hF.mode
        obtain⟨w',r',p',m2,a1,a2,a3,a4,a5,a6⟩:=i2 {fr with defers:=ds'} cs rfl
        cases a1
        have hgo:Goes w0 r s s' r' w':=⟨a2.le,by rw[n1];exact a2.nxt,fun b hb=>by rw[n1];exact a2.domB b hb,fun b hb=>by rw[n1];exact a2.domE b hb,by rw[n4];exact a2.rel⟩
        have henter:step E.P (lone fr cs w)= .next (lone (Frame.enter E.P f (aa'.toList++cc'.toList).toArray .deferred) ({fr with defers:=ds'}::cs) w):=by
         refine step_lone_go ?_
         rw[h0]
         have e0:aa'++cc'=(aa'.toList++cc'.toList).toArray:=by apply Array.toList_inj.1;simp
         have hrun:(invoke (.fn (.func f) cc') aa').run E.P w= .ok (.enter f (aa'.toList++cc'.toList).toArray) w:=by
          simp only[invoke,e0,i1]
         simp only[unwind,hdd,callDeferred,Sem.runT_eq,hrun]
         rfl
        cases hp:p1.1 with
        |none=>
         rw[hp]at a6
         obtain⟨v',a6⟩:=a6
         obtain⟨m3,t1,t2⟩:=doneF_mode a5 {fr with defers:=ds'} v'
         rw[t1]at a6
         have hne:afterD p1.2≠ .run:=n5 hp
         exact⟨w',r',hgo,by rw[n2];exact a3,{fr with defers:=ds',mode:=m3},cs,rfl,hF2 a2.le hne t2 (n3.trans a4), .head henter a6⟩
        |some ch=>
         rw[hp]at a6
         obtain⟨ch',a6,a7⟩:=a6
         obtain⟨m3,t1,t2⟩:=raise_mode a5 a6 {fr with defers:=ds'}
         rw[t1]at a7
         have hne:raiseM p1.2 ch≠ .run:=by
          unfold raiseM
          cases p1.2<;>(intro h;cases h)
         exact⟨w',r',hgo,by rw[n2];exact a3,{fr with defers:=ds',mode:=m3},cs,rfl,hF2 a2.le hne t2 (n3.trans a4), .head henter a7⟩
       |_=>simp only[FnR]at j1
      |_=>cases h
end
end Go.Proofs.YtapojfiplajfaaaGreatDoor.Am
/- Whole runs of frames,and calls:what the evaluator says of a call is so. -/
namespace Go.Proofs.YtapojfiplajfaaaGreatDoor.Am
open Go.RowKit
section
variable {E:Env}{call round:CallT}{dcall:DeferT}{w0 w:World}{r:Inj}{base:List Deferred×List Frame}
theorem FinE.head {P:Program}{cx':Ctx}{fr fr0:Frame}(hk:Kin fr0 fr){m m1:Machine}{w':World}{out:Out (Value×FrameMode)}(hs:Steps P m m1)(h:FinE P r base cx' fr m1 w' out):FinE P r base cx' fr0 m w' out:=by
 obtain⟨cs',h1,h2⟩:=h
 unfold Kin at hk
 simp only[Prod.mk.injEq]at hk
 obtain⟨e1,e2,e3⟩:=hk
 rw[e1]at h1
 refine⟨cs',h1, ?_⟩
 cases out with
 |inl p=>
  obtain⟨v',q1,q2,q3⟩:=h2
  rw[e1,e2,e3]at *
  exact⟨v',q1,fun c rest e=>hs.trans (q2 c rest e),fun a b=>let ⟨fr',x,y,z⟩:=q3 a b;⟨fr',x,y,hs.trans z⟩⟩
 |inr ch=>obtain⟨ch',q1,q2⟩:=h2;exact⟨ch',q1,fun c rest e=>hs.trans (q2 c rest e)⟩
theorem StepE.head {P:Program}{cx':Ctx}{fr fr0:Frame}(hk:Kin fr0 fr){m m1:Machine}{w':World}{out:Out Step}(hs:Steps P m m1)(h:StepE P r base cx' fr m1 w' out):StepE P r base cx' fr0 m w' out:=by
 cases out with
 |inr ch=>exact FinE.head hk hs h
 |inl p=>
  cases p with
  |fin v up=>exact FinE.head hk hs h
  |go af'=>
   obtain⟨fr',cs',q1,q2,q3⟩:=h
   exact⟨fr',cs',q1.trans hk,q2,hs.trans q3⟩
/-- A step of the evaluator's. -/
theorem stepA_ok (he:EnvOK E)(c1:CallOK E call)(c2:RoundOK E round)(c3:DeferOK E dcall){af:AF}{fr:Frame}{cs:List Frame}{s s':St}{out:Out Step}(h:stepA E call round dcall af s=rOf out s')(hF:FR E.P r af s.cx base fr cs)
  (hr:Rel w0 r s.mem w) (hb:Bnd s) (hf:Fresh r s.next s'.next):
  ∃w' r',Goes w0 r s s' r' w'∧s'.lim=s.lim∧StepE E.P r' base s'.cx fr (lone fr cs w) w' out:=by
 by_cases hm:af.mode= .run
 ·rw[stepA_run af hm]at h
  obtain⟨p,hout,h'⟩:=noP_rOf h
  clear h
  subst hout
  have h:=h'
  clear h'
  have hsk:=skim_ok (P:=E.P) (b:=fr) (t:=fr.tmps) (d:=fr.defers) (cs:=cs) (w:=w) 64 af.todo
  rw[←hF.frm hm]at hsk
  have hF':=hF.to (skim 64 af.todo)
  rw[←hm]at hF'
  have fin: ∃w' r',Goes w0 r s s' r' w'∧s'.lim=s.lim∧StepE E.P r' base s'.cx (frm fr fr.tmps fr.defers (skim 64 af.todo)) (lone (frm fr fr.tmps fr.defers (skim 64 af.todo)) cs w) w' (.inl p):=by
   cases ht:skim 64 af.todo with
   |nil=>rw[ht]at h hF';exact leaveF_ok (out:= .inl p) h hF' hm hr hF'.csr (.inl ⟨rfl,rfl⟩)
   |cons x k=>rw[ht]at h hF';exact itemF_ok (out:= .inl p) he c1 c2 h hF' hm rfl hr hb hf
  obtain⟨w',r',k1,k2,k3⟩:=fin
  exact⟨w',r',k1,k2,k3.head rfl hsk⟩
 ·rw[stepA_un af hm]at h
  exact unwindF_ok he c3 h hF hm hr hb hf
/-- What holds of whole runs of frames. -/
structure RunOK (E:Env)(run:AF→M (Value×FrameMode)):Prop where
 loc: ∀af,Loc (run af)
 ok: ∀{w0 w:World} {r:Inj} {base:List Deferred×List Frame} {af:AF} {fr:Frame} {cs:List Frame} {s:St} {out:Out (Value×FrameMode)} {s':St},run af s=rOf out s'→FR E.P r af s.cx base fr cs→Rel w0 r s.mem w→Bnd s→Fresh r s.next s'.next→
  ∃w' r',Goes w0 r s s' r' w'∧s'.lim=s.lim∧FinE E.P r' base s'.cx fr (lone fr cs w) w' out
/-! ### Entering -/
theorem argsT_get {g:Nat}{y:Nat}{v:Value}: ∀{l:List Value} {i:Nat} {t:T Value},T.get (argsT g l i t) y=some v→(∃j,y=i+j∧l[j]?=some v∧Nat.testBit g y=true)∨T.get t y=some v
 |[],_,_,h=> .inr h
 |a::l,i,t,h=>by
  replace h:T.get (argsT g l (Nat.succ i) (putG g i a t)) y=some v:=h
  rcases argsT_get h with⟨j,h1,h2,h3⟩|h
  ·exact .inl ⟨j+1,by omega,by simpa using h2,h3⟩
  ·unfold putG at h
   cases hb:Nat.testBit g i with
   |false=>rw[hb]at h;exact .inr h
   |true=>
    rw[hb]at h
    simp only[T.get_set]at h
    split at h
    ·rename_i hy
     cases h
     exact .inl ⟨0,hy,rfl,by rw[hy];exact hb⟩
    ·exact .inr h
theorem enterF_some {f:Nat}{args:List Value}{kind:CallKind}{s s':St}{af:AF}(h:enterF E f args kind s= .some af s'):s=s'∧ ∃fn c,E.fn.get f=some fn∧fn.body=some c∧args.length≤fn.ntmps∧
  af={fn:=f,n:=fn.ntmps,glob:=globOf fn,tmps:=argsT (globOf fn) args 0 .E,todo:=[.code c],mode:= .run,kind,roundOf:=none}:=by
 unfold enterF at h
 obtain⟨fn,h1,h⟩:=on_some h
 obtain⟨c,h2,h⟩:=on_some h
 obtain⟨h3,h⟩:=chk_some h
 rw[fN_eq,fN_eq]at h
 obtain⟨rfl,rfl⟩:=pure_some h
 exact⟨rfl,fn,c,h1,h2,Nat.le_of_ble_eq_true h3,rfl⟩
theorem lo_enterF (f:Nat)(args:List Value)(kind:CallKind):Loc (enterF E f args kind):=lo_on _ fun _fn=>lo_on _ fun _c=>lo_chk _ (lo_fN _ fun _n=>lo_fN _ fun _g=>lo_pure _)
theorem np_enterF (f:Nat)(args:List Value)(kind:CallKind):NoPan (enterF E f args kind):=np_on _ fun _fn=>np_on _ fun _c=>np_chk _ (np_fN _ fun _n=>np_fN _ fun _g=>np_pure _)
theorem enter_ok (he:EnvOK E){f:Nat}{args args':List Value}{kind:CallKind}{s s':St}{af:AF}(h:enterF E f args kind s= .some af s')(ha:VRs r args args'){cx:Ctx}{cs:List Frame}(hcx:CxR r base cx (Frame.enter E.P f args'.toArray kind) [] cs):
  (∀w,(callFunc f args'.toArray).run E.P w= .ok (.enter f args'.toArray) w)∧FR E.P r af cx base (Frame.enter E.P f args'.toArray kind) cs∧s=s':=by
 obtain⟨rfl,fn,c,h1,h2,h3,rfl⟩:=enterF_some h
 obtain⟨k1,k2⟩:=he.fn f fn h1
 refine⟨fun w=> ?_,⟨rfl, ?_, ?_,fun _=> ?_, .run,True.intro,fun e=>absurd rfl e,fun _=>⟨fn,k1⟩,hcx⟩,rfl⟩
 ·unfold callFunc
  simp[Sem.run,program,k1,k2,h2]
 ·simp only[Frame.enter,k1,Option.map_some,Option.getD_some,Array.size_append,List.size_toArray,Array.size_replicate]
  have:=ha.1
  omega
 ·intro y v e
  rcases argsT_get e with⟨j,e1,e2,e3⟩|e
  ·obtain⟨v',q1,q2⟩:=ha.get e2
   refine⟨e3,v', ?_,q2⟩
   rw[Nat.zero_add]at e1
   subst e1
   simp only[Frame.enter]
   rw[Array.getElem?_append_left (by simpa using(List.getElem?_eq_some_iff.1 q1).1)]
   simpa using q1
  ·cases e
 ·simp[Frame.enter,k1,h2]
theorem within_def {α:Type}(c:Ctx)(m:M α)(s:St):within c m s=match m ⟨s.mem,s.next,s.lim,s.rd,s.wr,c⟩with
  | .none=> .none
  | .some a s1=> .some a ⟨s1.mem,s1.next,s1.lim,s1.rd,s1.wr,s.cx⟩
  | .pan p s1=> .pan p ⟨s1.mem,s1.next,s1.lim,s1.rd,s1.wr,s.cx⟩:=by
 obtain⟨mem,next,lim,rd,wr,cx⟩:=s
 unfold within
 simp only
 cases m ⟨mem,next,lim,rd,wr,c⟩<;>rfl
theorem within_rOf {α:Type}{c:Ctx}{m:M α}{s s':St}{o:Out α}(h:within c m s=rOf o s'): ∃s1,m ⟨s.mem,s.next,s.lim,s.rd,s.wr,c⟩=rOf o s1∧s'=⟨s1.mem,s1.next,s1.lim,s1.rd,s1.wr,s.cx⟩:=by
 rw[within_def]at h
 cases e:m ⟨s.mem,s.next,s.lim,s.rd,s.wr,c⟩with
 |none=>rw[e]at h;exact(rOf_none h).elim
 |some a s1=>rw[e]at h;obtain⟨rfl,rfl⟩:=rOf_inl h;exact⟨s1,rfl,rfl⟩
 |pan p s1=>rw[e]at h;obtain⟨rfl,rfl⟩:=rOf_inr h;exact⟨s1,rfl,rfl⟩
theorem lo_within {α:Type}(c:Ctx){m:M α}(h:Loc m):Loc (within c m):=⟨fun s o s' e hb=>by
 obtain⟨s1,e1,rfl⟩:=within_rOf e
 obtain⟨Rd,Wr,dr,dw,g,i1,i2⟩:=h.at' _ o s1 e1 hb
 refine⟨Rd,Wr,dr,dw,⟨g.rd,g.wr,g.nxt,g.lim,g.bnd,g.rlt,g.wlt,g.old,fun t e1 e2 e3 e4=> ?_⟩,i1,i2⟩
 obtain⟨t',q1,q2,q3,q4,q5,q6,q7,q8⟩:=g.any ⟨t.mem,t.next,t.lim,t.rd,t.wr,c⟩ e1 e2 rfl e4
 refine⟨⟨t'.mem,t'.next,t'.lim,t'.rd,t'.wr,t.cx⟩, ?_,q2,q3,e3,q5,q6,q7,q8⟩
 rw[within_def,q1]
 cases o<;>rfl⟩
theorem fst_rOf {run:AF→M (Value×FrameMode)}{m:M AF}(hm:NoPan m){s s':St}{out:Out Value}(h:M.bind (M.bind m run) fstV s=rOf out s'):
  ∃af s1 o,m s= .some af s1∧run af s1=rOf o s'∧out=(match o with| .inl p=> .inl p.1| .inr c=> .inr c):=by
 rcases bind_rOf h with⟨p,s2,e1,e2⟩|⟨c,e1,rfl⟩
 ·obtain⟨af,s1,e3,e4⟩:=bind_some e1
  obtain⟨rfl,rfl⟩:=rOf_inl (show R.some p.1 s2=rOf out s' from e2)
  exact⟨af,s1, .inl p,e3,e4,rfl⟩
 ·rcases bind_pan e1 with e3|⟨af,s1,e3,e4⟩
  ·exact(hm.no _ _ _ e3).elim
  ·exact⟨af,s1, .inr c,e3,e4,rfl⟩
/-- Calls,out of whole runs. -/
theorem callW_ok (he:EnvOK E){run:AF→M (Value×FrameMode)}(hrun:RunOK E run):CallOK E (callW E run) where
 loc:=fun f args=>by
  unfold callW
  cases ho:E.orc.get f with
  |some m=>exact he.orcLoc f m ho args
  |none=>
   cases hx:E.ext.get f with
   |some m=>exact he.extLoc f m hx args
   |none=>exact lo_within _ (lo_bind (lo_bind (lo_enterF _ _ _) hrun.loc) fun p=>lo_pure _)
 ok:=by
  intro w0 w r f args args' s out s' h hr hb hf ha
  unfold callW at h
  cases ho:E.orc.get f with
  |some m=>rw[ho]at h;exact .inl (he.orc ho h hr hb hf ha)
  |none=>
   rw[ho]at h
   cases hx:E.ext.get f with
   |some m=>rw[hx]at h;exact .inr ⟨(fun e=>by cases e),he.ext hx h hr ha⟩
   |none=>
   rw[hx]at h
   refine .inl ?_
   obtain⟨s2,e1,rfl⟩:=within_rOf (show within cxN (M.bind (M.bind (enterF E f args .normal) run) fstV) s=rOf out s' from h)
   obtain⟨af,s1,o,e2,e3,rfl⟩:=fst_rOf (np_enterF _ _ _) e1
   have hen:=fun(c:Frame) (cs:List Frame)=>enter_ok (base:=([],c::cs)) (cx:=cxN) he e2 ha (cs:=c::cs) ⟨⟨rfl,rfl⟩,rfl, .nil⟩
   refine⟨(hen default []).1,fun c cs=> ?_⟩
   obtain⟨_,hF,rfl⟩:=hen c cs
   obtain⟨w',r',k1,k2,cs',k3,k4⟩:=hrun.ok e3 hF hr hb hf
   have hcs:cs'=c::cs:=by
    rcases k3 with k3|⟨_,_,_,_,_,k,_⟩
    ·exact k3.2
    ·cases k
   refine⟨w',r',⟨k1.le,k1.nxt,k1.domB,k1.domE,k1.rel⟩,k2,rfl, ?_⟩
   cases o with
   |inl p=>
    obtain⟨v',q1,q2,q3⟩:=k4
    exact⟨v',q1,q2 c cs hcs⟩
   |inr ch=>
    obtain⟨ch',q1,q2⟩:=k4
    exact⟨ch',q1,q2 c cs hcs⟩
/-! ### Rounds -/
theorem setPs_get {g:Nat}{y:Nat}{v:Value}: ∀{ps:List Nat} {l:List Value} {t:T Value},T.get (setPs g ps l t) y=some v→ ∀{_n:Nat} {r:Inj} {tt:Array Value} {l':List Value},TmR r g t tt→VRs r l l'→l.length=ps.length→(∀p∈ps,p<tt.size)→
  Nat.testBit g y=true∧ ∃v',((ps.zip l').foldl (fun tmps (x:Nat×Value)=>tmps.setIfInBounds x.1 x.2) tt)[y]?=some v'∧VR r v v'
 |[],l,t,h,n,r,tt,l',hT,hl,_,_=>by simpa using hT y v h
 |p::ps,[],t,h,n,r,tt,l',hT,hl,hlen,_=>by simp at hlen
 |p::ps,a::l,t,h,n,r,tt,l',hT,hl,hlen,hp=>by
  obtain⟨a',l1,rfl,q1,q2⟩:=hl.inv
  replace h:T.get (setPs g ps l (putG g p a t)) y=some v:=h
  have hps:p<tt.size:=hp p List.mem_cons_self
  have:=setPs_get h (_n:=n) (r:=r) (tt:=tt.setIfInBounds p a') (l':=l1) (fun x u e=>by
   unfold putG at e
   cases hb:Nat.testBit g p with
   |true=>
    rw[hb]at e
    simp only[T.get_set]at e
    split at e
    ·rename_i hx
     cases e
     subst hx
     exact⟨hb,a',by simp[hps],q1⟩
    ·rename_i hx
     obtain⟨z1,u',z2,z3⟩:=hT x u e
     exact⟨z1,u',by rw[Array.getElem?_setIfInBounds_ne (fun e=>hx e.symm)];exact z2,z3⟩
   |false=>
    rw[hb]at e
    obtain⟨z1,u',z2,z3⟩:=hT x u e
    refine⟨z1,u', ?_,z3⟩
    rw[Array.getElem?_setIfInBounds_ne]
    ·exact z2
    ·intro hx
     subst hx
     rw[z1]at hb
     cases hb) q2 (by simpa using hlen) (fun x hx=>by rw[Array.size_setIfInBounds];exact hp x (List.mem_cons_of_mem _ hx))
  simpa using this
theorem foldl_set_size: ∀(l:List (Nat×Value)) (tt:Array Value),(l.foldl (fun tmps (x:Nat×Value)=>tmps.setIfInBounds x.1 x.2) tt).size=tt.size
 |[],tt=>rfl
 |p::l,tt=>by rw[List.foldl_cons,foldl_set_size l];simp
theorem lo_roundF (l:Nat)(args:List Value):Loc (roundF l args):=by
 unfold roundF
 refine lo_bind (lo_rdC _) fun c=> ?_
 cases c with
 |C a b=>exact lo_fail
 |O o=>cases o<;>first|exact lo_fail|exact lo_chk _ (lo_pure _)
theorem np_roundF (l:Nat)(args:List Value):NoPan (roundF l args):=by
 unfold roundF
 refine np_bind (np_rdC _) fun c=> ?_
 cases c with
 |C a b=>exact np_fail
 |O o=>cases o<;>first|exact np_fail|exact np_chk _ (np_pure _)
theorem roundW_ok {run:AF→M (Value×FrameMode)}(hrun:RunOK E run):RoundOK E (roundW run) where
 loc:=fun l args=>lo_noP (lo_within _ (lo_bind (lo_bind (lo_roundF _ _) hrun.loc) fun p=>lo_pure _))
 ok:=by
  intro w0 w r l l' d args args' s out s' h hr hb hf ha hl
  obtain⟨v,hout,h'⟩:=noP_rOf h
  clear h
  subst hout
  have h:=h'
  clear h'
  obtain⟨s2,e1,rfl⟩:=within_rOf (o:= .inl v) h
  obtain⟨af,s1,o,e2,e3,e4⟩:=fst_rOf (np_roundF _ _) e1
  cases o with
  |inr c=>cases e4
  |inl p=>
   cases e4
   unfold roundF at e2
   obtain⟨c,s3,e5,e6⟩:=bind_some e2
   obtain⟨z1,z2⟩:=rdC_some e5
   cases c with
   |C a b=>cases e6
   |O o=>
    cases o with
    |loop st pe f n g tm ps as bd df=>
     obtain⟨e7,e8⟩:=chk_some e6
     obtain⟨rfl,rfl⟩:=pure_some e8
     rw[Bool.and_eq_true]at e7
     obtain⟨b',d',o',y1,y2,y3⟩:=hr.obj _ _ z1 rfl
     rw[hl]at y1
     cases y1
     cases o' with
     |loop L=>
      obtain⟨j1,j2,j3,j4,j5,j6,j7,j8,j9⟩:=y3
      have hlen:args.length=ps.length:=Nat.eq_of_beq_eq_true e7.1
      have hps: ∀p∈ps,p<L.tmps.size:=fun p hp=>by
       rw[j4]
       exact blt_lt (List.all_eq_true.1 e7.2 p hp)
      have hsize:args'.toArray.size=L.params.size:=by
       rw[List.size_toArray,←ha.1,hlen,←j6,Array.length_toList]
      have hzip:(L.params.zip args'.toArray).foldl (fun tmps (x:Nat×Value)=>tmps.setIfInBounds x.1 x.2) L.tmps=(ps.zip args').foldl (fun tmps (x:Nat×Value)=>tmps.setIfInBounds x.1 x.2) L.tmps:=by
       rw[←Array.foldl_toList,Array.toList_zip,j6]
      refine⟨L.fn,(ps.zip args').foldl (fun tmps (x:Nat×Value)=>tmps.setIfInBounds x.1 x.2) L.tmps,L.assign,L.body, ?_,fun c cs=> ?_⟩
      ·simp only[Instr.yield,Sem.run_bind,run_getLoop y2,Result.andThen_ok]
       rw[if_neg (by simpa using hsize)]
       simp only[Sem.run_pure,←hzip]
      ·have hF:FR E.P r {fn:=f,n,glob:=g,tmps:=setPs g ps args tm,todo:=[.code as, .beginRound, .code bd],mode:= .run,kind:= .normal,roundOf:=some l} cxR ([],c::cs)
         (Frame.round l' L.fn ((ps.zip args').foldl (fun tmps (x:Nat×Value)=>tmps.setIfInBounds x.1 x.2) L.tmps) L.assign L.body .normal) (c::cs):=by
        refine⟨j3,by simp only[Frame.round];rw[foldl_set_size,j4],fun y v e=>setPs_get e (_n:=n) j5 ha hlen hps,fun _=> ?_, .run,⟨d,hl⟩,fun _=>rfl,(fun e=>by cases e),⟨⟨rfl,rfl⟩,(by simp[Frame.round]),rfl⟩⟩
        simp only[Frame.round,j7,j8]
       have z2':s3.mem=s.mem∧s3.next=s.next∧s3.lim=s.lim∧s3.cx=cxR:=z2
       obtain⟨w',r',k1,k2,cs',k3,k4⟩:=hrun.ok (out:= .inl p) e3 (by rw[z2'.2.2.2];exact hF) (by rw[z2'.1];exact hr) (show s3.lim≤s3.next by rw[z2'.2.2.1,z2'.2.1];exact hb) (by rw[z2'.2.1];exact hf)
       have hcs:cs'=c::cs:=by
        rcases k3 with k3|⟨_,_,_,_,_,k,_⟩
        ·exact k3.2
        ·cases k
       obtain⟨v',q1,q2,q3⟩:=k4
       refine⟨w',r',⟨k1.le,by rw[←z2'.2.1];exact k1.nxt,fun b hb=>by rw[←z2'.2.1];exact k1.domB b hb,fun b hb=>by rw[←z2'.2.1];exact k1.domE b hb,k1.rel⟩,by rw[←z2'.2.2.1];exact k2,rfl,v',q1,q2 c cs hcs⟩
     |_=>exact y3.elim
    |_=>cases e6
/-! ### Deferred calls -/
theorem deferW_ok (he:EnvOK E){run:AF→M (Value×FrameMode)}(hrun:RunOK E run):DeferOK E (deferW E run) where
 loc:=fun f args m=>lo_within _ (by
  refine lo_catch (m:=M.bind (enterF E f args .deferred) run) (f:=fun p=>M.pure (none,p.2)) (g:=fun c=>M.bind getCx fun cx=>M.pure (some c,upOf cx)) (lo_bind (lo_enterF _ _ _) hrun.loc) (fun p=>lo_pure _) fun c=>lo_bind lo_getCx fun cx=>lo_pure _)
 ok:=by
  intro w0 w r f args args' m m' s out s' h hr hb hf ha hm
  obtain⟨s2,e1,rfl⟩:=within_rOf h
  have e1':R.rec (motive:=fun _=>R (Option (List PanicEntry)×FrameMode)) .none (fun p s=> .some (none,p.2) s) (fun c s=> .some (some c,upOf s.cx) s) (M.bind (enterF E f args .deferred) run ⟨s.mem,s.next,s.lim,s.rd,s.wr, .cx (some m) (some [])⟩)=rOf out s2:=e1
  have main: ∃af s1 o,enterF E f args .deferred ⟨s.mem,s.next,s.lim,s.rd,s.wr, .cx (some m) (some [])⟩= .some af s1∧run af s1=rOf o s2∧out= .inl (match o with| .inl p=>(none,p.2)| .inr c=>(some c,upOf s2.cx)):=by
   cases e2:M.bind (enterF E f args .deferred) run ⟨s.mem,s.next,s.lim,s.rd,s.wr, .cx (some m) (some [])⟩with
   |none=>rw[e2]at e1';exact(rOf_none e1').elim
   |some p s3=>
    rw[e2]at e1'
    obtain⟨rfl,rfl⟩:=rOf_inl (show R.some (none,p.2) s3=rOf out s2 from e1')
    obtain⟨af,s1,e3,e4⟩:=bind_some e2
    exact⟨af,s1, .inl p,e3,e4,rfl⟩
   |pan c s3=>
    rw[e2]at e1'
    obtain⟨rfl,rfl⟩:=rOf_inl (show R.some (some c,upOf s3.cx) s3=rOf out s2 from e1')
    rcases bind_pan e2 with e3|⟨af,s1,e3,e4⟩
    ·exact((np_enterF _ _ _).no _ _ _ e3).elim
    ·exact⟨af,s1, .inr c,e3,e4,rfl⟩
  obtain⟨af,s1,o,e2,e3,rfl⟩:=main
  have hen:=fun(c:Frame) (cs:List Frame) (hc:c.mode=m')=>enter_ok (base:=([],c::cs)) (cx:= .cx (some m) (some [])) he e2 ha (cs:=c::cs) ⟨⟨rfl,c,cs,m',rfl,by rw[←hc],hm⟩,rfl, .nil⟩
  refine⟨(hen {(default:Frame)with mode:=m'} [] rfl).1,fun c cs hc=> ?_⟩
  obtain⟨_,hF,rfl⟩:=hen c cs hc
  obtain⟨w',r',k1,k2,cs',k3,k4⟩:=hrun.ok e3 hF hr hb hf
  rcases k3 with⟨k3,_⟩|⟨u,c0,rest,m2,k5,k6,k7,k8,k9,k10⟩
  ·cases k3
  ·cases k7
   refine⟨w',r',_,m2,rfl,⟨k1.le,k1.nxt,k1.domB,k1.domE,k1.rel⟩,k2,rfl, ?_, ?_⟩
   ·cases o with
    |inl p=>rw[show p.2=u from k10 p.1 p.2 rfl];exact k9
    |inr ch=>rw[show upOf s2.cx=u by rw[k5];rfl];exact k9
   ·cases o with
    |inl p=>
     obtain⟨v',q1,q2,q3⟩:=k4
     exact⟨v',q2 _ _ k8⟩
    |inr ch=>
     obtain⟨ch',q1,q2⟩:=k4
     exact⟨ch',q1,q2 _ _ k8⟩
/-! ### All frames,by fuel -/
theorem runF_ok (he:EnvOK E): ∀fuel,RunOK E (runF E fuel)
 |0=>⟨fun _=>lo_fail,fun h=>(rOf_none h).elim⟩
 |fuel+1=>by
  have ih:=runF_ok he fuel
  have c1:=callW_ok he ih
  have c2:=roundW_ok ih
  have c3:=deferW_ok he ih
  have h0: ∀af,runF E (fuel+1) af=M.bind (stepA E (callW E (runF E fuel)) (roundW (runF E fuel)) (deferW E (runF E fuel)) af) (stepR (runF E fuel)):=fun _=>rfl
  have lR: ∀p,Loc (stepR (runF E fuel) p):=fun p=>by
   cases p with
   |go af=>exact ih.loc af
   |fin v u=>exact lo_pure _
  refine⟨fun af=>by rw[h0];exact lo_bind (lo_stepA he c1 c2 c3 af) lR, ?_⟩
  intro w0 w r base af fr cs s out s' h hF hr hb hf
  rw[h0]at h
  rcases bind_rOf h with⟨p,s1,e1,e2⟩|⟨c,e1,rfl⟩
  ·have L1:=(lo_stepA he c1 c2 c3 af).at' s (.inl p) s1 e1 hb
   have L2:=(lR p).at' s1 out s' e2 L1.bnd
   obtain⟨w1,r1,k1,k2,k3⟩:=stepA_ok (out:= .inl p) he c1 c2 c3 e1 hF hr hb (fun b x y=>hf b x (Nat.lt_of_lt_of_le y L2.next))
   cases p with
   |go af'=>
    obtain⟨fr',cs',k4,k5,k6⟩:=k3
    obtain⟨w2,r2,q1,q2,q3⟩:=ih.ok (show runF E fuel af' s1=rOf out s' from e2) k5 k1.rel L1.bnd (k1.fresh hf)
    exact⟨w2,r2,k1.trans q1,q2.trans k2,q3.head k4 k6⟩
   |fin v u=>
    obtain⟨rfl,rfl⟩:=rOf_inl (show R.some (v,u) s1=rOf out s' from e2)
    exact⟨w1,r1,k1,k2,k3⟩
  ·obtain⟨w1,r1,k1,k2,k3⟩:=stepA_ok (out:= .inr c) he c1 c2 c3 e1 hF hr hb hf
   exact⟨w1,r1,k1,k2,k3⟩
end
/-- WHAT THE EVALUATOR SAYS OF A CALL IS SO. -/
theorem callF_ok {E:Env}(he:EnvOK E)(fuel:Nat):CallOK E (callF E fuel):=callW_ok he (runF_ok he fuel)
theorem Rel.empty (w:World){K:Know}(hK:K.sure w):Rel w (.nil K) .E w:=
 ⟨.refl _ _,(fun b b' d e=>by cases e),(fun l b v e=>by cases e),(fun l1 l2 b1 v1 b2 v2 b' d1 d2 e=>by cases e),(fun l o e=>by cases e),(fun l1 l2 o1 o2 b' d1 d2 e=>by cases e),(fun t sz e=>by cases e),(fun t1 t2 s1 s2 k1 k2 e=>by cases e),hK,(fun l n e=>by cases e),⟨(fun l b v e=>by cases e),(fun l b v b' d e=>by cases e),(fun l o b' d e=>by cases e),(fun l n b' d e=>by cases e)⟩⟩
/-- Where an evaluation begins. -/
noncomputable def st0:St:=⟨.E,0,0,[],[], .no⟩
/-- A call of a closed function,from any world:it returns what the evaluator says,if that has no address in it;nothing that was there is touched. -/
theorem calls_closed {E:Env}(he:EnvOK E){fuel f:Nat}{v:Value}{s':St}(ho:E.orc.get f=none)(hx:E.ext.get f=none)(h:callF E fuel f [] st0= .some v s')(hp:plain v=true)(w:World):Calls E.P f #[] w fun e w'=>e= .returned v∧Below w.heap.size w w':=by
 intro cs
 replace h:callW E (runF E fuel) f [] st0= .some v s':=h
 unfold callW at h
 rw[ho,hx]at h
 obtain⟨s2,e1,rfl⟩:=within_rOf (o:= .inl v) (show within cxN (M.bind (M.bind (enterF E f [] .normal) (runF E fuel)) fstV) st0=rOf (.inl v) s' from h)
 obtain⟨af,s1,o,e2,e3,e4⟩:=fst_rOf (np_enterF _ _ _) e1
 obtain⟨_,hF,rfl⟩:=enter_ok (r:= .nil .no) (base:=([],cs)) (cx:=cxN) he e2 .nil (cs:=cs) ⟨⟨rfl,rfl⟩,rfl, .nil⟩
 obtain⟨w',r',k1,k2,cs',k3,k4⟩:=(runF_ok he fuel).ok e3 hF (Rel.empty w (Know.no_sure w)) (Nat.le_refl _) (fun _ _ _=>⟨rfl,rfl⟩)
 cases o with
 |inr c=>cases e4
 |inl p=>
  cases e4
  obtain⟨v',q1,q2,q3⟩:=k4
  obtain⟨fr',x1,x2,x3⟩:=q3 rfl rfl
  have hcs:cs'=cs:=by
   rcases k3 with k3|⟨_,_,_,_,_,k,_⟩
   ·exact k3.2
   ·cases k
  subst hcs
  exact⟨.returned v',w',fr',⟨by rw[q1.eq_of_plain hp],k1.rel.below⟩,x3,x1,x2⟩
end Go.Proofs.YtapojfiplajfaaaGreatDoor.Am
/- The evaluator's tables,out of any program. -/
namespace Go.Proofs.YtapojfiplajfaaaGreatDoor.Am
open Go.RowKit
/-- A table of what a function says of the numbers a,a+s,a+2 s ..:each looked at when it is asked for. -/
noncomputable def T.tab {α:Type}(f:Nat→Option α)(fuel:Nat):Nat→Nat→T α:=
 Nat.rec (motive:=fun _=>Nat→Nat→T α) (fun _ _=> .E) (fun _ ih a s=>fN (Nat.add a s) fun b=>fN (Nat.add b s) fun c=>fN (Nat.add s s) fun d=> .N (f a) (ih b d) (ih c d)) fuel
theorem T.tab_succ {α:Type}(f:Nat→Option α)(n a s:Nat):T.tab f (n+1) a s= .N (f a) (T.tab f n (a+s) (s+s)) (T.tab f n (a+s+s) (s+s)):=by
 show fN (Nat.add a s) (fun b=>fN (Nat.add b s) fun c=>fN (Nat.add s s) fun d=>T.N (f a) (T.tab f n b d) (T.tab f n c d))=_
 rw[fN_eq,fN_eq,fN_eq]
 rfl
theorem T.tab_some {α:Type}(f:Nat→Option α): ∀(n a s k:Nat) {x:α},T.get (T.tab f n a s) k=some x→f (a+s*k)=some x
 |0,_,_,_,_,h=>by cases h
 |n+1,a,s,0,x,h=>by
  rw[T.tab_succ,T.get_zero]at h
  simpa using h
 |n+1,a,s,k+1,x,h=>by
  rw[T.tab_succ,T.get_succ]at h
  split at h
  ·rename_i hk
   have:=T.tab_some f n _ _ _ h
   rw[←this]
   congr 1
   have e:k=2*(k/2):=by omega
   rw[Nat.add_mul,Nat.mul_add,←Nat.two_mul,Nat.mul_left_comm,←e]
   omega
  ·rename_i hk
   have:=T.tab_some f n _ _ _ h
   rw[←this]
   congr 1
   have e:k=2*(k/2)+1:=by omega
   have e2:s*(k+1)=s*(2*(k/2))+s+s:=by rw[e];rw[show 2*((2*(k/2)+1)/2)=2*(k/2) by omega];rw[Nat.mul_add,Nat.mul_add];omega
   rw[e2,Nat.add_mul,←Nat.two_mul,Nat.mul_left_comm]
   omega
theorem T.tab_get {α:Type}(f:Nat→Option α): ∀(n a s k:Nat),k+1<2^n→T.get (T.tab f n a s) k=f (a+s*k)
 |0,_,_,k,h=>by simp at h
 |n+1,a,s,0,_=>by rw[T.tab_succ];rfl
 |n+1,a,s,k+1,h=>by
  rw[T.tab_succ,T.get_succ]
  split
  ·rename_i hk
   rw[T.tab_get f n _ _ _ (by rw[Nat.pow_succ]at h;omega)]
   congr 1
   have e:k=2*(k/2):=by omega
   rw[Nat.add_mul,Nat.mul_add,←Nat.two_mul,Nat.mul_left_comm,←e]
   omega
  ·rename_i hk
   rw[T.tab_get f n _ _ _ (by rw[Nat.pow_succ]at h;omega)]
   congr 1
   have e:k=2*(k/2)+1:=by omega
   have e2:s*(k+1)=s*(2*(k/2))+s+s:=by rw[e];rw[show 2*((2*(k/2)+1)/2)=2*(k/2) by omega];rw[Nat.mul_add,Nat.mul_add];omega
   rw[e2,Nat.add_mul,←Nat.two_mul,Nat.mul_left_comm]
   omega
/-- A type,as the evaluator reads it. -/
noncomputable def ti0 (P:Program)(t:Nat):Option TI:=
 match P.info? t,P.underlying t with
 |some n,some u=>(match n.zero with
  |some z=>Bool.rec (motive:=fun _=>Option TI) none (some ⟨u,n.size,aggD u,z.cells.toList,n.bytes⟩) (Nat.beq z.cells.toList.length n.size&&z.cells.toList.all plain&&(aggV z==aggD u))
  |none=>none)
 |_,_=>none
noncomputable def fldsB (ok:Nat→Bool)(u:TypeDesc):Bool:=
 match u with
 | .struct fs=>fs.toList.all fun f=>ok f.type
 |_=>true
noncomputable def tyB (P:Program)(n:Nat):Nat→Bool:=
 Nat.rec (motive:=fun _=>Nat→Bool) (fun _=>false) (fun _ ih t=>Nat.blt t 4095&&Option.rec (motive:=fun _=>Bool) false (fun i=>fldsB ih i.u) (ti0 P t)) n
noncomputable def tyAt (P:Program)(t:Nat):Option TI:=Bool.rec (motive:=fun _=>Option TI) none (ti0 P t) (tyB P 8 t)
noncomputable def fnAt (P:Program)(f:Nat):Option Func:=
 match P.funcs[f]? with
 | some fn => Bool.rec (motive := fun _ => Option Func) (some fn) none (fn.name == "runtime.NumGoroutine")
 |none=>none
noncomputable def envOf (P:Program)(orc ext:T (List Value→M Value)):Env:=⟨P,T.tab (tyAt P) 12 0 1,T.tab (fnAt P) 12 0 1,orc,ext⟩
theorem ti0_ok {P:Program}{t:Nat}{i:TI}(h:ti0 P t=some i):TyOK P t i:=by
 unfold ti0 at h
 split at h
 ·rename_i n u h1 h2
  split at h
  ·rename_i z h3
   cases hb:(Nat.beq z.cells.toList.length n.size&&z.cells.toList.all plain&&(aggV z==aggD u))with
   |false=>rw[hb]at h;cases h
   |true=>
    rw[hb]at h
    cases h
    rw[Bool.and_eq_true,Bool.and_eq_true]at hb
    refine⟨⟨n,h1,rfl,rfl,z,h3,rfl⟩,h2,rfl,Nat.eq_of_beq_eq_true hb.1.1,fun v hv=>List.all_eq_true.1 hb.1.2 v hv,fun n' z' e1 e2=> ?_⟩
    rw[h1]at e1
    cases e1
    rw[h3]at e2
    cases e2
    exact eq_of_beq hb.2
  ·cases h
 ·cases h
theorem tyB_succ {P:Program}{n t:Nat}:tyB P (n+1) t=(Nat.blt t 4095&&Option.rec (motive:=fun _=>Bool) false (fun i=>fldsB (tyB P n) i.u) (ti0 P t)):=rfl
theorem tyB_mono {P:Program}: ∀{n t:Nat},tyB P n t=true→tyB P (n+1) t=true
 |0,_,h=>by cases h
 |n+1,t,h=>by
  rw[tyB_succ,Bool.and_eq_true]at h ⊢
  refine⟨h.1, ?_⟩
  have h2:=h.2
  cases e:ti0 P t with
  |none=>rw[e]at h2;cases h2
  |some i=>
   rw[e]at h2
   replace h2:fldsB (tyB P n) i.u=true:=h2
   show fldsB (tyB P (n+1)) i.u=true
   unfold fldsB at h2 ⊢
   cases hu:i.u with
   |struct fs=>
    rw[hu]at h2
    simp only at h2 ⊢
    exact List.all_eq_true.2 fun f hf=>tyB_mono (List.all_eq_true.1 h2 f hf)
   |_=>rfl
theorem tyAt_some {P:Program}{t:Nat}{i:TI}(h:tyAt P t=some i):tyB P 8 t=true∧ti0 P t=some i:=by
 unfold tyAt at h
 cases e:tyB P 8 t with
 |false=>rw[e]at h;cases h
 |true=>rw[e]at h;exact⟨rfl,h⟩
theorem envOf_ty (P:Program)(orc ext:T (List Value→M Value)):EnvTy (envOf P orc ext) where
 ok:=fun t i h=>by
  have h1:=T.tab_some (tyAt P) 12 0 1 t h
  rw[Nat.zero_add,Nat.one_mul]at h1
  exact ti0_ok (tyAt_some h1).2
 flds:=fun t i fs h hu f hf=>by
  have h1:=T.tab_some (tyAt P) 12 0 1 t h
  rw[Nat.zero_add,Nat.one_mul]at h1
  obtain⟨h2,h3⟩:=tyAt_some h1
  rw[show(8:Nat)=7+1 from rfl,tyB_succ,Bool.and_eq_true,h3]at h2
  have h4:fldsB (tyB P 7) i.u=true:=h2.2
  unfold fldsB at h4
  rw[hu]at h4
  have h5:tyB P 7 f.type=true:=List.all_eq_true.1 h4 f (by simpa using hf)
  have h6:=tyB_mono h5
  have h7:=h6
  rw[tyB_succ,Bool.and_eq_true]at h7
  have h8:f.type<4095:=blt_lt h7.1
  have h9:T.get (envOf P orc ext).ty f.type=tyAt P f.type:=by
   have:=T.tab_get (tyAt P) 12 0 1 f.type (Nat.succ_lt_succ h8)
   rw[Nat.zero_add,Nat.one_mul]at this
   exact this
  rw[h9]
  unfold tyAt
  rw[h6]
  cases e:ti0 P f.type with
  |none=>rw[e]at h7;cases h7.2
  |some fi=>exact⟨fi,rfl⟩
theorem envOf_fn (P : Program) (orc ext : T (List Value → M Value)) (f : Nat) (fn : Func) (h : T.get (envOf P orc ext).fn f = some fn) : P.funcs[f]? = some fn ∧ fn.name ≠ "runtime.NumGoroutine" := by
 have h1:=T.tab_some (fnAt P) 12 0 1 f h
 rw[Nat.zero_add,Nat.one_mul]at h1
 unfold fnAt at h1
 split at h1
 ·rename_i fn' h2
  cases hb : (fn'.name == "runtime.NumGoroutine") with
  |true=>rw[hb]at h1;cases h1
  |false=>
   rw[hb]at h1
   cases h1
   exact⟨h2,fun e=>by rw[e]at hb;simp at hb⟩
 ·cases h1
/-- The evaluator with no contracts of others in it. -/
theorem envOf_ok (P:Program)(h:P.follows .mixedOrders=true):EnvOK (envOf P .E .E):=
 ⟨envOf_ty P .E .E,envOf_fn P .E .E,h,(fun f m e=>by cases e),(fun e=>by cases e),(fun f m e=>by cases e),(fun e=>by cases e)⟩
end Go.Proofs.YtapojfiplajfaaaGreatDoor.Am
/- Contracts of closed calls,within the evaluator. -/
namespace Go.Proofs.YtapojfiplajfaaaGreatDoor.Am
open Go.RowKit
/-- What a contract gives,in the evaluator's words. -/
structure OrcOK (P:Program)(f:Nat)(m:List Value→M Value):Prop where
 loc: ∀args,Loc (m args)
 ok: ∀{w0 w:World} {r:Inj} {args args':List Value} {s:St} {out:Out Value} {s':St},m args s=rOf out s'→Rel w0 r s.mem w→Bnd s→Fresh r s.next s'.next→VRs r args args'→
  (∀w,(callFunc f args'.toArray).run P w= .ok (.enter f args'.toArray) w)∧
  ∀c cs,∃w' r',Goes w0 r s s' r' w'∧s'.lim=s.lim∧s'.cx=s.cx∧Ends P r' out (lone (Frame.enter P f args'.toArray .normal) (c::cs) w) c cs w'
def OrcT (P:Program)(orc:T (List Value→M Value)):Prop:= ∀f m,T.get orc f=some m→OrcOK P f m
theorem OrcT.E (P:Program):OrcT P .E:=fun f m h=>by cases h
theorem OrcT.set {P:Program}{orc:T (List Value→M Value)}(h:OrcT P orc){f:Nat}{m:List Value→M Value}(k:OrcOK P f m):OrcT P (T.set orc f m):=fun g n e=>by
 rw[T.get_set]at e
 split at e
 ·rename_i hg
  cases e
  rw[hg]
  exact k
 ·exact h g n e
noncomputable def valR (r:R Value):Option Value:=R.rec (motive:=fun _=>Option Value) none (fun v _=>some v) (fun _ _=>none) r
theorem valR_some {r:R Value}{v:Value}(h:valR r=some v): ∃s,r= .some v s:=by
 cases r with
 |none=>cases h
 |some a s=>cases h;exact⟨s,rfl⟩
 |pan c s=>cases h
/-- A closed call's value,at once. -/
noncomputable def closedM (v:Value)(args:List Value):M Value:=List.rec (motive:=fun _=>M Value) (M.pure v) (fun _ _ _=>M.fail) args
theorem enters {E:Env}(he:EnvOK E){fuel f:Nat}{args:List Value}{v:Value}{s s':St}(ho:E.orc.get f=none)(hx:E.ext.get f=none)(h:callF E fuel f args s= .some v s')(args':Array Value)(w:World):(callFunc f args').run E.P w= .ok (.enter f args') w:=by
 replace h:callW E (runF E fuel) f args s= .some v s':=h
 unfold callW at h
 rw[ho,hx]at h
 obtain⟨s2,e1,rfl⟩:=within_rOf (o:= .inl v) (show within cxN (M.bind (M.bind (enterF E f args .normal) (runF E fuel)) fstV) s=rOf (.inl v) s' from h)
 obtain⟨af,s1,o,e2,_⟩:=fst_rOf (np_enterF _ _ _) e1
 obtain⟨_,fn,c,h1,h2,_⟩:=enterF_some e2
 obtain⟨k1,k2⟩:=he.fn f fn h1
 unfold callFunc
 simp[Sem.run,program,k1,k2,h2]
theorem orc_closed {E:Env}(he:EnvOK E){fuel f:Nat}{v:Value}(ho:E.orc.get f=none)(hx:E.ext.get f=none)(h:valR (callF E fuel f [] st0)=some v)(hp:plain v=true):OrcOK E.P f (closedM v) where
 loc:=fun args=>by cases args<;>first|exact lo_pure _|exact lo_fail
 ok:=by
  intro w0 w r args args' s out s' e hr hb hf ha
  obtain⟨s1,h⟩:=valR_some h
  cases args with
  |cons a l=>exact(rOf_none e).elim
  |nil=>
   obtain⟨rfl,rfl⟩:=rOf_inl (show R.some v s=rOf out s' from e)
   rw[ha.inv_nil]
   refine⟨fun w=>enters he ho hx h _ w,fun c cs=> ?_⟩
   obtain⟨e,w',fr,⟨rfl,hbl⟩,hs,_,hl⟩:=calls_closed he ho hx h hp w (c::cs)
   exact⟨w',r, .of_rel rfl (hr.beyond hbl),rfl,rfl,v, .of_plain hp,hs.trans (.one (step_leave_returned hl))⟩
/-- A closed call,for a walk. -/
theorem calls_of {E:Env}(he:EnvOK E){fuel f:Nat}{v:Value}(ho:E.orc.get f=none)(hx:E.ext.get f=none)(h:valR (callF E fuel f [] st0)=some v)(hp:plain v=true)(w:World):Calls E.P f #[] w fun e w'=>e= .returned v∧Below w.heap.size w w':=by
 obtain⟨s1,h⟩:=valR_some h
 exact calls_closed he ho hx h hp w
end Go.Proofs.YtapojfiplajfaaaGreatDoor.Am
/- Functions without a body,within the evaluator:those of sync/atomic that the program calls. -/
namespace Go.Proofs.YtapojfiplajfaaaGreatDoor.Am
open Go.RowKit
/-- What an entry gives,in the evaluator's words. -/
structure ExtOK (P:Program)(f:Nat)(m:List Value→M Value):Prop where
 loc: ∀args,Loc (m args)
 ok: ∀{w0 w:World} {r:Inj} {args args':List Value} {s:St} {out:Out Value} {s':St},m args s=rOf out s'→Rel w0 r s.mem w→VRs r args args'→AtOnce P w0 w r s f args' out s'
def ExtT (P:Program)(ext:T (List Value→M Value)):Prop:= ∀f m,T.get ext f=some m→ExtOK P f m
theorem ExtT.E (P:Program):ExtT P .E:=fun f m h=>by cases h
theorem ExtT.set {P:Program}{ext:T (List Value→M Value)}(h:ExtT P ext){f:Nat}{m:List Value→M Value}(k:ExtOK P f m):ExtT P (T.set ext f m):=fun g n e=>by
 rw[T.get_set]at e
 split at e
 ·rename_i hg
  cases e
  rw[hg]
  exact k
 ·exact h g n e
theorem envOf_all (P:Program)(h:P.follows .mixedOrders=true){orc ext:T (List Value→M Value)}(ho:OrcT P orc)(hx:ExtT P ext):EnvOK (envOf P orc ext):=
 ⟨envOf_ty P orc ext,envOf_fn P orc ext,h,fun f m e=>(ho f m e).loc,fun e=>(ho _ _ e).ok,fun f m e=>(hx f m e).loc,fun e=>(hx _ _ e).ok⟩
section
variable {P:Program}{f:Nat}{fn:Func}
/-- A function without a body that has a plain entry:the entry's answer. -/
theorem call_ext {e : Array Value → Sem Value} (hf : P.funcs[f]? = some fn) (h1 : (fn.name == "runtime.NumGoroutine") = false) (h2 : fn.body = none) (h3 : Extern.findNext fn = none) (h4 : Extern.find fn = some e)
  (args:Array Value) {w w':World} {v:Value} (h:(e args).run P w= .ok v w'):(callFunc f args).run P w= .ok (.value v) w':=by
 have h1' : ¬fn.name = "runtime.NumGoroutine" := by simpa using h1
 unfold callFunc
 simp[run_program,Sem.run_bind,hf,h1',h2,h3,h4,h]
theorem update_two (op:IntKind→Int→Int→Sem Value)(k:IntKind)(b:Bool)(x y:Value):Extern.Atomic.update op k b #[x,y]=(do
 let a ←asAddr x
 let old ←Extern.Atomic.read (.int k) a
 let new ←op k (←asInt old) (←asInt y)
 store a new .atomic
 pure (if b then new else old)):=rfl
noncomputable def add64 (args:List Value):M Value:=
 match args with
 |[.pointer (some a), .int .i64 y]=>M.bind (rdV a) fun v=>match v with
  | .int .i64 x=>fI (wrap64 (addI x y)) fun n=>M.bind (wrV a (.int .i64 n)) fun _=>M.pure (.int .i64 n)
  |_=>M.fail
 |_=>M.fail
theorem ext_add64 (hf : P.funcs[f]? = some fn) (h1 : (fn.name == "runtime.NumGoroutine") = false) (h2 : fn.body = none) (h3 : Extern.findNext fn = none) (h4 : Extern.find fn = some (Extern.Atomic.update (Op.intArith .add) .i64 true)) : ExtOK P f add64 where
 loc:=fun args=>by
  unfold add64
  split
  ·refine lo_bind (lo_rdV _) fun v=> ?_
   split
   ·exact lo_fI _ fun n=>lo_bind (lo_wrV _ _) fun _=>lo_pure _
   ·exact lo_fail
  ·exact lo_fail
 ok:=by
  intro w0 w r args args' s out s' e hr ha
  unfold add64 at e
  split at e
  ·rename_i a y
   obtain⟨p',l',rfl,q1,q2⟩:=ha.inv
   obtain⟨y',l2,rfl,q3,q4⟩:=q2.inv
   obtain⟨a',rfl,qa⟩:=q1.ptr_inv
   have:=q4.inv_nil
   subst this
   have:=q3.int_inv
   subst this
   rcases bind_rOf e with⟨v,s1,e1,e2⟩|⟨c,e1,_⟩
   case inr=>exact((np_rdV _).no _ _ _ e1).elim
   obtain⟨v',g1,g2,g3⟩:=rdV_ok e1 hr qa
   split at e2
   ·rename_i x
    have:=g2.int_inv
    subst this
    rw[fI_eq,wrap64_eq,addI_eq]at e2
    rcases bind_rOf e2 with⟨u,s2,e3,e4⟩|⟨c,e3,_⟩
    case inr=>exact((np_wrV _ _).no _ _ _ e3).elim
    obtain⟨rfl,rfl⟩:=rOf_inl (show R.some (Value.int .i64 (IntKind.i64.wrap (x+y))) s2=rOf out s' from e4)
    obtain⟨k1,k2,k3,k4,k5,k6,k7⟩:=wrV_ok (P:=P) (v':= .int .i64 (IntKind.i64.wrap (x+y))) e3 (by rw[g3.1];exact hr) qa (.of_plain rfl)
    refine⟨.int .i64 (IntKind.i64.wrap (x+y)), .int .i64 (IntKind.i64.wrap (x+y)),w.setCell a' (.int .i64 (IntKind.i64.wrap (x+y))),r,rfl, .of_plain rfl, .of_rel (by rw[k3];exact g3.2.1) k2,by rw[k4];exact g3.2.2.1,by rw[k5];exact g3.2.2.2,call_ext hf h1 h2 h3 h4 _ ?_⟩
    show(Extern.Atomic.update (Op.intArith .add) .i64 true #[.pointer (some a'), .int .i64 y]).run P w=_
    rw[update_two]
    simp[Extern.Atomic.read,asAddr,asInt,asIntOf,load,store,Sem.run,g1,Op.intArith,k7]
   ·exact(rOf_none e2).elim
  ·exact(rOf_none e).elim
end
end Go.Proofs.YtapojfiplajfaaaGreatDoor.Am
