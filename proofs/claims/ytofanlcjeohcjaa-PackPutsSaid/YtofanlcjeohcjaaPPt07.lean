import Derived.Test.YtofanlcjeohcjaaPPt06
import Derived.RowKit3
import GoSem.Step
import Derived.Laws.AppendOwn
import Derived.CallsIn
noncomputable section
namespace Go.Proofs.Ytofanlcjeohcjaa.Am
open Go.RowKit
structure DeferOK (E:Env)(dcall:FV):Prop where
 loc: ∀f args m,Loc (dcall f args m)
 ok: ∀{w0 w:World} {r:Inj} {f:Nat} {args args':List Value} {m m':FrameMode} {s:St} {out:Out (Option (List PanicEntry)×FrameMode)} {s':St},dcall f args m s=rOf out s'→Rel w0 r s.mem w→Bnd s→Br r s.next s'.next→VRs r args args'→MoR r m m'→
  (∀w,(callFunc f args'.toArray).run E.P w= .ok (.enter f args'.toArray) w)∧
  ∀c cs,c.mode=m'→ ∃w' r' p m2,out= .inl p∧Goes w0 r s s' r' w'∧s'.lim=s.lim∧s'.cx=s.cx∧MoR r' p.2 m2∧
   (match p.1 with
    |none=> ∃v',Steps E.P (lone (Frame.enter E.P f args'.toArray .deferred) (c::cs) w) (lone (GB .deferred {c with mode:=m2} v') cs w')
    |some ch=> ∃ch',ChR r' ch ch'∧Steps E.P (lone (Frame.enter E.P f args'.toArray .deferred) (c::cs) w) (lone (({c with mode:=m2}:Frame).raise ch') cs w'))
theorem ChR.drop {r:Inj}{l l':List PanicEntry}(h:ChR r l l'):ChR r (l.dropWhile (!·.goexit)) (l'.dropWhile (!·.goexit)):=by
 induction h with
 |nil=>exact .nil
 | @cons e e' l l' a b c d ih=>
  rw[List.dropWhile_cons,List.dropWhile_cons,c]
  cases e.goexit with
  |true=>simp;exact .cons a b c d
  |false=>simp;exact ih
theorem Ov_ {r:Inj}{m m2:FrameMode}(h:MoR r m m2)(c:Frame)(v:Value): ∃m3,GB .deferred {c with mode:=m2} v={c with mode:=m3}∧MoR r (Fa m) m3:=by
 cases h with
 |run=>exact⟨.run,rfl, .run⟩
 |ret=>exact⟨.returning,rfl, .ret⟩
 |pan hc=>
  cases hc with
  |nil=>exact⟨.panicking [],rfl, .pan .nil⟩
  | @cons e e' l l' a b cc d=>
   obtain⟨ev,er,eg⟩:=e
   obtain⟨ev',er',eg'⟩:=e'
   simp only at b cc a
   subst b
   cases er' with
   |false=>exact⟨.panicking (⟨ev',false,eg'⟩::l'),rfl, .pan (.cons a rfl cc d)⟩
   |true=>
    have hd:=d.drop
    simp only[GB,Fa]
    generalize l.dropWhile (!·.goexit)=x at hd
    generalize l'.dropWhile (!·.goexit)=y at hd
    cases hd with
    |nil=>exact⟨.returning,rfl, .ret⟩
    |cons a b c d=>exact⟨_,rfl, .pan (.cons a b c d)⟩
theorem Uk_ {r:Inj}{m m2:FrameMode}(h:MoR r m m2){ch ch':List PanicEntry}(hc:ChR r ch ch')(c:Frame): ∃m3,({c with mode:=m2}:Frame).raise ch'={c with mode:=m3}∧MoR r (Ih m ch) m3:=by
 cases h with
 |run=>exact⟨_,rfl, .pan hc⟩
 |ret=>exact⟨_,rfl, .pan hc⟩
 |pan hd=>exact⟨_,rfl, .pan (hc.append hd)⟩
theorem DfsR.inv_nil {r:Inj}{l:List Deferred}(h:DfsR r [] l):l=[]:=by cases h;rfl
section
variable {E:Env}{call round:Aa}{dcall:FV}{w0 w:World}{r:Inj}{base:List Deferred×List Frame}
theorem BI_ (af:AF)(up:Option FrameMode):Loc (outF E af up):=by
 unfold outF
 cases af.mode with
 |run=>exact AD
 |returning=>exact AH _ fun fn=>Ai (Ai (Uz _ _) fun l=>AC _) fun v=>AC _
 |panicking c=>exact QB _
theorem ZD (tm:T Value): ∀(l:List ResultVar),NoPan (resL E tm l)
 |[]=>AG _
 |x::l=>by
  refine AB ?_ fun v=>AB (ZD tm l) fun l=>AG _
  cases x with
  |tmp t=>exact AW _
  |cell a t=>exact AK _ fun a=>AB (He _) fun a=>TU _ _ _
theorem Nt_ (c3:DeferOK E dcall)(af:AF)(d:Deferred):Loc (runD dcall af d):=by
 unfold runD
 split
 ·refine Ai (CW _) fun c=> ?_
  split
  ·exact Ai (CG _ _) fun _=>AC _
  ·exact AD
 ·refine Ai (c3.loc _ _ _) fun p=> ?_
  unfold Lo
  cases p.1 with
  |none=>simp only;split<;>first|exact AD|exact FO _ _ _
  |some c=>exact FO _ _ _
 ·exact AD
theorem UL_ (c3:DeferOK E dcall)(af:AF):Loc (DT E dcall af):=by
 unfold DT
 refine Ai Ji fun cx=> ?_
 cases cx with
 |no=>exact AD
 |cx up d=>
  cases d with
  |none=>exact AD
  |some d=>
   cases d with
   |nil=>exact BI_ _ _
   |cons d ds=>exact Fr (Ai (Kv _) fun _=>Nt_ c3 _ _)
theorem Ss (af:AF)(hm:af.mode= .run):EU E call round dcall af=noP (Ew E call round {af with todo:=skim 64 af.todo} (skim 64 af.todo)):=by
 obtain⟨fn,n,g,tm,todo,mo,ki,ro⟩:=af
 simp only at hm
 subst hm
 rfl
theorem Sl (af:AF)(hm:af.mode≠ .run):EU E call round dcall af=DT E dcall af:=by
 obtain⟨fn,n,g,tm,todo,mo,ki,ro⟩:=af
 simp only at hm
 cases mo with
 |run=>exact absurd rfl hm
 |returning=>rfl
 |panicking c=>rfl
theorem Aw_ (he:EnvOK E)(c1:CallOK E call)(c2:RoundOK E round)(c3:DeferOK E dcall)(af:AF):Loc (EU E call round dcall af):=by
 by_cases hm:af.mode= .run
 ·rw[Ss af hm]
  refine Fr ?_
  generalize skim 64 af.todo=l
  cases l with
  |nil=>exact Rg _ _
  |cons x k=>exact VG_ he c1 c2 _ _ _
 ·rw[Sl af hm];exact UL_ c3 _
theorem BQ_ (he:EnvOK E)(c3:DeferOK E dcall){af:AF}{fr:Frame}{cs:List Frame}{s s':St}{out:Out Step}(h:DT E dcall af s=rOf out s')(hF:FR E.P r af s.cx base fr cs)(hm:af.mode≠ .run)(hr:Rel w0 r s.mem w)(hb:Bnd s)(hf:Br r s.next s'.next):
  ∃w' r',Goes w0 r s s' r' w'∧s'.lim=s.lim∧CB E.P r' base s'.cx fr (lone fr cs w) w' out:=by
 unfold DT at h
 rw[Qh]at h
 have hmode:fr.mode≠ .run:=by
  have:=hF.mode
  intro hx
  rw[hx]at this
  generalize af.mode=m at this hm
  cases this
  exact hm rfl
 have hunw: ∀{w:World} {dd:List Deferred},stepG E.P true {frame:={fr with defers:=dd},callers:=cs,status:= .running,dying:=none} w=unwind E.P true {fr with defers:=dd} cs none w:=by
  intro w dd
  have:({fr with defers:=dd}:Frame).mode=fr.mode:=rfl
  cases hx:fr.mode with
  |run=>exact absurd hx hmode
  |returning=>simp[stepG]
  |panicking c=>simp[stepG]
 have hfr:fr={fr with defers:=fr.defers}:=rfl
 have hc:=hF.cx
 cases hcx:s.cx with
 |no=>rw[hcx]at h;exact(Ba h).elim
 |cx up d=>
  rw[hcx]at hc h
  cases d with
  |none=>exact(Ba h).elim
  |some d=>
   obtain⟨q1,q2,q3⟩:=hc
   obtain⟨fn0,hfn0⟩:=hF.known q2
   cases d with
   |nil=>
    have hd0:=q3.inv_nil
    have hends: ∀{s1:St} {o:Out (Value×FrameMode)},s1.cx=s.cx→(∀v u,o= .inl (v,u)→u=up.getD .run)→((fr.kind= .normal∧cs=base.2)∨ ∃u c0 rest m',s1.cx= .cx (some u) (some [])∧fr.kind= .deferred∧base.2=c0::rest∧cs={c0 with mode:=m'}::rest∧MoR r u m'∧ ∀v up,o= .inl (v,up)→up=u):=by
     intro s1 o e1 e2
     cases up with
     |none=>exact .inl q1
     |some m=>
      obtain⟨p1,c0,rest,m',p2,p3,p4⟩:=q1
      exact .inr ⟨m,c0,rest,m',by rw[e1,hcx],p1,p2,p3,p4,fun v u e=>e2 v u e⟩
    replace h:outF E af up s=rOf out s':=h
    unfold outF at h
    have hMo:=hF.mode
    cases hmo:af.mode with
    |run=>exact absurd hmo hm
    |returning=>
     rw[hmo]at h hMo
     obtain⟨fn,e1,h⟩:=F9 h
     rcases CC h with⟨v,s1,e2,e3⟩|⟨c,e2,_⟩
     ·obtain⟨rfl,rfl⟩:=BD (show R.some (Step.fin v (up.getD .run)) s1=rOf out s' from e3)
      obtain⟨v',k1,k2,k3⟩:=Ju_ he.ty e2 hF.tm hr
      have hfmode:fr.mode= .returning:=by cases hx:fr.mode<;>rw[hx]at hMo<;>cases hMo
      have hfuncs:E.P.funcs[fr.fn]?=some fn:=by rw[hF.fn];exact(he.fn _ _ e1).1
      refine⟨w,r, .same k3 hr,k3.2.2.1,cs,hends k3.2.2.2 (fun v u e=>by cases e;rfl),v',k2,fun c rest hcs=> .one (step_lone_go ?_),fun _ hk=>⟨fr,rfl,⟨hfmode,hd0,hk,fn,hfuncs,k1⟩, .refl _ _⟩⟩
      subst hcs
      have hkind:fr.kind= .normal∨fr.kind= .deferred:=by
       cases up with
       |none=>exact .inl q1.1
       |some m=>exact .inr q1.1
      have h0:=hunw (w:=w) (dd:=fr.defers)
      rw[←hfr]at h0
      rw[h0]
      rcases hkind with hk|hk
      ·simp only[unwind,hd0,hfmode,hfuncs,Sem.runT_eq,k1,GStep.bare_after,doReturn,hk,GB]
       rfl
      ·simp only[unwind,hd0,hfmode,hfuncs,Sem.runT_eq,k1,GStep.bare_after,doReturn,hk,GB]
       rfl
     ·exact((AB (ZD _ _) fun l=>AG _).no _ _ _ e2).elim
    |panicking c=>
     rw[hmo]at h hMo
     obtain⟨rfl,rfl⟩:=H0 (show R.pan c s=rOf out s' from h)
     generalize hfm:fr.mode=fm at hMo
     cases hMo with
     | @pan _ c' hch=>
      refine⟨w,r, .of_rel rfl hr,rfl,cs,hends rfl (fun v u e=>by cases e),c',hch,fun c1 rest hcs=> .one (step_lone_go ?_)⟩
      subst hcs
      have h0:=hunw (w:=w) (dd:=fr.defers)
      rw[←hfr]at h0
      rw[h0]
      have hcat: ∀g:Frame,g.fn=fr.fn→g.catches E.P=false:=by intro g hg;unfold Frame.catches;rw[hg,hfn0]
      simp only[unwind,hd0,hfm]
      rw[if_neg (by have:=hcat ⟨fr.fn,fr.tmps,fr.todo,[], .panicking c',fr.kind,fr.roundOf⟩ rfl;rw[this];simp)]
      rfl
   |cons d ds=>
    replace h:noP (M.bind (putCx (.cx up (some ds))) fun _=>runD dcall af d) s=rOf out s':=h
    obtain⟨p,hout,h'⟩:=KH h
    clear h
    subst hout
    have h:=h'
    clear h'
    rw[VD_]at h
    generalize hdd:fr.defers=dd at q3
    cases q3 with
    | @cons _ d' _ ds' k1 k2=>
     have hc':CxR r base (.cx up (some ds)) fr ds' cs:=⟨q1,q2,k2⟩
     have h0:=hunw (w:=w) (dd:=d'::ds')
     have hfr':({fr with defers:=d'::ds'}:Frame)=fr:=by rw[←hdd]
     rw[hfr']at h0
     have hF2: ∀{r':Inj} {m:FrameMode} {m3:FrameMode} {cx:Ctx},r.le r'→m≠ .run→MoR r' m m3→cx= .cx up (some ds)→FR E.P r' {af with mode:=m} cx base {fr with defers:=ds',mode:=m3} cs:=by
      intro r' m m3 cx hle hne hmo hcx
      refine⟨hF.fn,hF.size,hF.tm.mono hle,fun e=>absurd e hne,hmo,hF.round.mono hle,hF.rk,hF.known, ?_⟩
      rw[hcx]
      exact hc'.mono hle
     cases k1 with
     | @coll bb bb' o hbb=>
      replace h:M.bind (rdC bb) (fun c=>(match c with| .O (.deferred (some []))=>M.bind (wrC bb (.O (.deferred none))) fun _=>M.pure (Step.go af)|_=>M.fail)) ⟨s.mem,s.next,s.lim,s.rd,s.wr, .cx up (some ds)⟩= .some p s':=h
      obtain⟨c,s1,e1,e2⟩:=bind_some h
      obtain⟨z1,z2⟩:=CZ e1
      have fin:c= .O (.deferred (some [])):=by
       cases c with
       |C a b=>cases e2
       |O o=>
        cases o with
        |deferred l=>
         cases l with
         |none=>cases e2
         |some l=>cases l with
          |nil=>rfl
          |cons=>cases e2
        |_=>cases e2
      subst fin
      obtain⟨u,s2,e3,e4⟩:=bind_some e2
      obtain⟨rfl,rfl⟩:=AE e4
      obtain⟨b2,d2,o',y1,y2,y3⟩:=hr.obj _ _ z1 rfl
      rw[hbb]at y1
      cases y1
      have ho':o'= .deferred (some []):=by
       unfold OR at y3
       cases o' with
       |deferred l=>
        cases l with
        |none=>exact y3.elim
        |some l=>cases l with
         |nil=>rfl
         |cons=>exact y3.elim
       |_=>exact y3.elim
      subst ho'
      obtain⟨x1,x2,x3⟩:=G2 (o2':= .deferred none) e3 (by rw[z2.1];exact hr) (by rw[z2.1];exact z1) rfl hbb (by simp[OR]) rfl
      have hgo:Goes w0 r s s2 r (World.setO w bb' (.deferred none)):=⟨x1.le,by rw[←show(⟨s.mem,s.next,s.lim,s.rd,s.wr, .cx up (some ds)⟩:St).next=s.next from rfl,←z2.2.1];exact x1.nxt,fun b hb=>by
       have:=x1.domB b hb;rw[z2.2.1]at this;exact this,fun b hb=>by have:=x1.domE b hb;rw[z2.2.1]at this;exact this,x1.rel⟩
      refine⟨_,r,hgo,x2.trans z2.2.2.1,{fr with defers:=ds',mode:=fr.mode},cs,rfl,hF2 (m:=af.mode) (Inj.le_refl r) hm hF.mode (x3.trans z2.2.2.2), .one (step_lone_go ?_)⟩
      rw[h0]
      have hrun:(Instr.takeDeferred bb').run E.P w= .ok [] (World.setO w bb' (.deferred none)):=by
       simp[Instr.takeDeferred,getObj,setObj,Sem.run,y2,World.setO]
      simp only[unwind,hdd,Sem.runT_eq,hrun,GStep.bare_after]
      rfl
     | @fn f f' cc cc' aa aa' j1 j2 j3=>
      cases f with
      |func f=>
       cases f' with
       |func f'=>
        simp only[FnR]at j1
        subst j1
        replace h:M.bind (dcall f (aa.toList++cc.toList) af.mode) (Lo af) ⟨s.mem,s.next,s.lim,s.rd,s.wr, .cx up (some ds)⟩= .some p s':=h
        obtain⟨p1,s1,e1,e2⟩:=bind_some h
        have hnx:s'.next=s1.next∧s'.lim=s1.lim∧s'.cx=s1.cx∧s'.mem=s1.mem∧p= .go {af with mode:=match p1.1 with|none=>Fa p1.2|some c=>Ih p1.2 c}∧(p1.1=none→Fa p1.2≠ .run):=by
         unfold Lo at e2
         cases hp:p1.1 with
         |none=>
          rw[hp]at e2
          simp only at e2
          cases hD:Fa p1.2 with
          |run=>rw[hD]at e2;cases e2
          |returning=>rw[hD]at e2;cases e2;exact⟨rfl,rfl,rfl,rfl,rfl,fun _ h=>by cases h⟩
          |panicking c=>rw[hD]at e2;cases e2;exact⟨rfl,rfl,rfl,rfl,rfl,fun _ h=>by cases h⟩
         |some c=>rw[hp]at e2;cases e2;exact⟨rfl,rfl,rfl,rfl,rfl,fun h=>by cases h⟩
        obtain⟨n1,n2,n3,n4,rfl,n5⟩:=hnx
        obtain⟨i1,i2⟩:=c3.ok (out:= .inl p1) (args':=aa'.toList++cc'.toList) e1 hr hb (by rw[←n1];exact hf) (j3.append j2) hF.mode
        obtain⟨w',r',p',m2,a1,a2,a3,a4,a5,a6⟩:=i2 {fr with defers:=ds'} cs rfl
        cases a1
        have hgo:Goes w0 r s s' r' w':=⟨a2.le,by rw[n1];exact a2.nxt,fun b hb=>by rw[n1];exact a2.domB b hb,fun b hb=>by rw[n1];exact a2.domE b hb,by rw[n4];exact a2.rel⟩
        have henter:step E.P (lone fr cs w)= .next (lone (Frame.enter E.P f (aa'.toList++cc'.toList).toArray .deferred) ({fr with defers:=ds'}::cs) w):=by
         refine step_lone_go ?_
         rw[h0]
         have e0:aa'++cc'=(aa'.toList++cc'.toList).toArray:=by apply Array.toList_inj.1;simp
         have hrun:(invoke (.fn (.func f) cc') aa').run E.P w= .ok (.enter f (aa'.toList++cc'.toList).toArray) w:=by
          simp only[invoke,e0,i1]
         simp only[unwind,hdd,callDeferred,Sem.runT_eq,hrun]
         rfl
        cases hp:p1.1 with
        |none=>
         rw[hp]at a6
         obtain⟨v',a6⟩:=a6
         obtain⟨m3,t1,t2⟩:=Ov_ a5 {fr with defers:=ds'} v'
         rw[t1]at a6
         have hne:Fa p1.2≠ .run:=n5 hp
         exact⟨w',r',hgo,by rw[n2];exact a3,{fr with defers:=ds',mode:=m3},cs,rfl,hF2 a2.le hne t2 (n3.trans a4), .head henter a6⟩
        |some ch=>
         rw[hp]at a6
         obtain⟨ch',a6,a7⟩:=a6
         obtain⟨m3,t1,t2⟩:=Uk_ a5 a6 {fr with defers:=ds'}
         rw[t1]at a7
         have hne:Ih p1.2 ch≠ .run:=by
          unfold Ih
          cases p1.2<;>(intro h;cases h)
         exact⟨w',r',hgo,by rw[n2];exact a3,{fr with defers:=ds',mode:=m3},cs,rfl,hF2 a2.le hne t2 (n3.trans a4), .head henter a7⟩
       |_=>simp only[FnR]at j1
      |_=>cases h
end
section
variable {E:Env}{call round:Aa}{dcall:FV}{w0 w:World}{r:Inj}{base:List Deferred×List Frame}
theorem FinE.head {P:Program}{cx':Ctx}{fr fr0:Frame}(hk:Kin fr0 fr){m m1:Machine}{w':World}{out:Out (Value×FrameMode)}(hs:Steps P m m1)(h:FinE P r base cx' fr m1 w' out):FinE P r base cx' fr0 m w' out:=by
 obtain⟨cs',h1,h2⟩:=h
 unfold Kin at hk
 simp only[Prod.mk.injEq]at hk
 obtain⟨e1,e2,e3⟩:=hk
 rw[e1]at h1
 refine⟨cs',h1, ?_⟩
 cases out with
 |inl p=>
  obtain⟨v',q1,q2,q3⟩:=h2
  rw[e1,e2,e3]at *
  exact⟨v',q1,fun c rest e=>hs.trans (q2 c rest e),fun a b=>let ⟨fr',x,y,z⟩:=q3 a b;⟨fr',x,y,hs.trans z⟩⟩
 |inr ch=>obtain⟨ch',q1,q2⟩:=h2;exact⟨ch',q1,fun c rest e=>hs.trans (q2 c rest e)⟩
theorem CB.head {P:Program}{cx':Ctx}{fr fr0:Frame}(hk:Kin fr0 fr){m m1:Machine}{w':World}{out:Out Step}(hs:Steps P m m1)(h:CB P r base cx' fr m1 w' out):CB P r base cx' fr0 m w' out:=by
 cases out with
 |inr ch=>exact FinE.head hk hs h
 |inl p=>
  cases p with
  |fin v up=>exact FinE.head hk hs h
  |go af'=>
   obtain⟨fr',cs',q1,q2,q3⟩:=h
   exact⟨fr',cs',q1.trans hk,q2,hs.trans q3⟩
theorem AC_ (he:EnvOK E)(c1:CallOK E call)(c2:RoundOK E round)(c3:DeferOK E dcall){af:AF}{fr:Frame}{cs:List Frame}{s s':St}{out:Out Step}(h:EU E call round dcall af s=rOf out s')(hF:FR E.P r af s.cx base fr cs)
  (hr:Rel w0 r s.mem w) (hb:Bnd s) (hf:Br r s.next s'.next):
  ∃w' r',Goes w0 r s s' r' w'∧s'.lim=s.lim∧CB E.P r' base s'.cx fr (lone fr cs w) w' out:=by
 by_cases hm:af.mode= .run
 ·rw[Ss af hm]at h
  obtain⟨p,hout,h'⟩:=KH h
  clear h
  subst hout
  have h:=h'
  clear h'
  have hsk:=DA (P:=E.P) (b:=fr) (t:=fr.tmps) (d:=fr.defers) (cs:=cs) (w:=w) 64 af.todo
  rw[←hF.frm hm]at hsk
  have hF':=hF.to (skim 64 af.todo)
  rw[←hm]at hF'
  have fin: ∃w' r',Goes w0 r s s' r' w'∧s'.lim=s.lim∧CB E.P r' base s'.cx (frm fr fr.tmps fr.defers (skim 64 af.todo)) (lone (frm fr fr.tmps fr.defers (skim 64 af.todo)) cs w) w' (.inl p):=by
   cases ht:skim 64 af.todo with
   |nil=>rw[ht]at h hF';exact Qy (out:= .inl p) h hF' hm hr hF'.csr (.inl ⟨rfl,rfl⟩)
   |cons x k=>rw[ht]at h hF';exact Js_ (out:= .inl p) he c1 c2 h hF' hm rfl hr hb hf
  obtain⟨w',r',k1,k2,k3⟩:=fin
  exact⟨w',r',k1,k2,k3.head rfl hsk⟩
 ·rw[Sl af hm]at h
  exact BQ_ he c3 h hF hm hr hb hf
structure RunOK (E:Env)(run:AF→M (Value×FrameMode)):Prop where
 loc: ∀af,Loc (run af)
 ok: ∀{w0 w:World} {r:Inj} {base:List Deferred×List Frame} {af:AF} {fr:Frame} {cs:List Frame} {s:St} {out:Out (Value×FrameMode)} {s':St},run af s=rOf out s'→FR E.P r af s.cx base fr cs→Rel w0 r s.mem w→Bnd s→Br r s.next s'.next→
  ∃w' r',Goes w0 r s s' r' w'∧s'.lim=s.lim∧FinE E.P r' base s'.cx fr (lone fr cs w) w' out
theorem Sx {g:Nat}{y:Nat}{v:Value}: ∀{l:List Value} {i:Nat} {t:T Value},T.get (EJ g l i t) y=some v→(∃j,y=i+j∧l[j]?=some v∧Nat.testBit g y=true)∨T.get t y=some v
 |[],_,_,h=> .inr h
 |a::l,i,t,h=>by
  replace h:T.get (EJ g l (Nat.succ i) (putG g i a t)) y=some v:=h
  rcases Sx h with⟨j,h1,h2,h3⟩|h
  ·exact .inl ⟨j+1,by omega,by simpa using h2,h3⟩
  ·unfold putG at h
   cases hb:Nat.testBit g i with
   |false=>rw[hb]at h;exact .inr h
   |true=>
    rw[hb]at h
    simp only[T.get_set]at h
    split at h
    ·rename_i hy
     cases h
     exact .inl ⟨0,hy,rfl,by rw[hy];exact hb⟩
    ·exact .inr h
theorem WH {f:Nat}{args:List Value}{kind:CallKind}{s s':St}{af:AF}(h:CD E f args kind s= .some af s'):s=s'∧ ∃fn c,E.fn.get f=some fn∧fn.body=some c∧args.length≤fn.ntmps∧
  af={fn:=f,n:=fn.ntmps,glob:=BE fn,tmps:=EJ (BE fn) args 0 .E,todo:=[.code c],mode:= .run,kind,roundOf:=none}:=by
 unfold CD at h
 obtain⟨fn,h1,h⟩:=BQ h
 obtain⟨c,h2,h⟩:=BQ h
 obtain⟨h3,h⟩:=BC h
 rw[AY,AY]at h
 obtain⟨rfl,rfl⟩:=AE h
 exact⟨rfl,fn,c,h1,h2,Nat.le_of_ble_eq_true h3,rfl⟩
theorem Xj (f:Nat)(args:List Value)(kind:CallKind):Loc (CD E f args kind):=AH _ fun _fn=>AH _ fun _c=>AL _ (AO _ fun _n=>AO _ fun _g=>AC _)
theorem Jz (f:Nat)(args:List Value)(kind:CallKind):NoPan (CD E f args kind):=AK _ fun _fn=>AK _ fun _c=>AM _ (AS _ fun _n=>AS _ fun _g=>AG _)
theorem LB (he:EnvOK E){f:Nat}{args args':List Value}{kind:CallKind}{s s':St}{af:AF}(h:CD E f args kind s= .some af s')(ha:VRs r args args'){cx:Ctx}{cs:List Frame}(hcx:CxR r base cx (Frame.enter E.P f args'.toArray kind) [] cs):
  (∀w,(callFunc f args'.toArray).run E.P w= .ok (.enter f args'.toArray) w)∧FR E.P r af cx base (Frame.enter E.P f args'.toArray kind) cs∧s=s':=by
 obtain⟨rfl,fn,c,h1,h2,h3,rfl⟩:=WH h
 obtain⟨k1,k2⟩:=he.fn f fn h1
 refine⟨fun w=> ?_,⟨rfl, ?_, ?_,fun _=> ?_, .run,True.intro,fun e=>absurd rfl e,fun _=>⟨fn,k1⟩,hcx⟩,rfl⟩
 ·unfold callFunc
  simp[Sem.run,program,k1,k2,h2]
 ·simp only[Frame.enter,k1,Option.map_some,Option.getD_some,Array.size_append,List.size_toArray,Array.size_replicate]
  have:=ha.1
  omega
 ·intro y v e
  rcases Sx e with⟨j,e1,e2,e3⟩|e
  ·obtain⟨v',q1,q2⟩:=ha.get e2
   refine⟨e3,v', ?_,q2⟩
   rw[Nat.zero_add]at e1
   subst e1
   simp only[Frame.enter]
   rw[Array.getElem?_append_left (by simpa using(List.getElem?_eq_some_iff.1 q1).1)]
   simpa using q1
  ·cases e
 ·simp[Frame.enter,k1,h2]
theorem Sc {α:Type}(c:Ctx)(m:M α)(s:St):within c m s=match m ⟨s.mem,s.next,s.lim,s.rd,s.wr,c⟩with
  | .none=> .none
  | .some a s1=> .some a ⟨s1.mem,s1.next,s1.lim,s1.rd,s1.wr,s.cx⟩
  | .pan p s1=> .pan p ⟨s1.mem,s1.next,s1.lim,s1.rd,s1.wr,s.cx⟩:=by
 obtain⟨mem,next,lim,rd,wr,cx⟩:=s
 unfold within
 simp only
 cases m ⟨mem,next,lim,rd,wr,c⟩<;>rfl
theorem E0 {α:Type}{c:Ctx}{m:M α}{s s':St}{o:Out α}(h:within c m s=rOf o s'): ∃s1,m ⟨s.mem,s.next,s.lim,s.rd,s.wr,c⟩=rOf o s1∧s'=⟨s1.mem,s1.next,s1.lim,s1.rd,s1.wr,s.cx⟩:=by
 rw[Sc]at h
 cases e:m ⟨s.mem,s.next,s.lim,s.rd,s.wr,c⟩with
 |none=>rw[e]at h;exact(Ba h).elim
 |some a s1=>rw[e]at h;obtain⟨rfl,rfl⟩:=BD h;exact⟨s1,rfl,rfl⟩
 |pan p s1=>rw[e]at h;obtain⟨rfl,rfl⟩:=H0 h;exact⟨s1,rfl,rfl⟩
theorem QS {α:Type}(c:Ctx){m:M α}(h:Loc m):Loc (within c m):=⟨fun s o s' e hb=>by
 obtain⟨s1,e1,rfl⟩:=E0 e
 obtain⟨Rd,Wr,dr,dw,g,i1,i2⟩:=h.at' _ o s1 e1 hb
 refine⟨Rd,Wr,dr,dw,⟨g.rd,g.wr,g.nxt,g.lim,g.bnd,g.rlt,g.wlt,g.old,fun t e1 e2 e3 e4=> ?_⟩,i1,i2⟩
 obtain⟨t',q1,q2,q3,q4,q5,q6,q7,q8⟩:=g.any ⟨t.mem,t.next,t.lim,t.rd,t.wr,c⟩ e1 e2 rfl e4
 refine⟨⟨t'.mem,t'.next,t'.lim,t'.rd,t'.wr,t.cx⟩, ?_,q2,q3,e3,q5,q6,q7,q8⟩
 rw[Sc,q1]
 cases o<;>rfl⟩
theorem Jm {run:AF→M (Value×FrameMode)}{m:M AF}(hm:NoPan m){s s':St}{out:Out Value}(h:M.bind (M.bind m run) fstV s=rOf out s'):
  ∃af s1 o,m s= .some af s1∧run af s1=rOf o s'∧out=(match o with| .inl p=> .inl p.1| .inr c=> .inr c):=by
 rcases CC h with⟨p,s2,e1,e2⟩|⟨c,e1,rfl⟩
 ·obtain⟨af,s1,e3,e4⟩:=bind_some e1
  obtain⟨rfl,rfl⟩:=BD (show R.some p.1 s2=rOf out s' from e2)
  exact⟨af,s1, .inl p,e3,e4,rfl⟩
 ·rcases Q8 e1 with e3|⟨af,s1,e3,e4⟩
  ·exact(hm.no _ _ _ e3).elim
  ·exact⟨af,s1, .inr c,e3,e4,rfl⟩
theorem Vy_ (he:EnvOK E){run:AF→M (Value×FrameMode)}(hrun:RunOK E run):CallOK E (AJ E run) where
 loc:=fun f args=>by
  unfold AJ
  cases ho:E.orc.get f with
  |some m=>exact he.orcLoc f m ho args
  |none=>
   cases hx:E.ext.get f with
   |some m=>exact he.extLoc f m hx args
   |none=>exact QS _ (Ai (Ai (Xj _ _ _) hrun.loc) fun p=>AC _)
 ok:=by
  intro w0 w r f args args' s out s' h hr hb hf ha
  unfold AJ at h
  cases ho:E.orc.get f with
  |some m=>rw[ho]at h;exact .inl (he.orc ho h hr hb hf ha)
  |none=>
   rw[ho]at h
   cases hx:E.ext.get f with
   |some m=>rw[hx]at h;exact .inr ⟨(fun e=>by cases e),he.ext hx h hr ha⟩
   |none=>
   rw[hx]at h
   refine .inl ?_
   obtain⟨s2,e1,rfl⟩:=E0 (show within cxN (M.bind (M.bind (CD E f args .normal) run) fstV) s=rOf out s' from h)
   obtain⟨af,s1,o,e2,e3,rfl⟩:=Jm (Jz _ _ _) e1
   have hen:=fun(c:Frame) (cs:List Frame)=>LB (base:=([],c::cs)) (cx:=cxN) he e2 ha (cs:=c::cs) ⟨⟨rfl,rfl⟩,rfl, .nil⟩
   refine⟨(hen default []).1,fun c cs=> ?_⟩
   obtain⟨_,hF,rfl⟩:=hen c cs
   obtain⟨w',r',k1,k2,cs',k3,k4⟩:=hrun.ok e3 hF hr hb hf
   have hcs:cs'=c::cs:=by
    rcases k3 with k3|⟨_,_,_,_,_,k,_⟩
    ·exact k3.2
    ·cases k
   refine⟨w',r',⟨k1.le,k1.nxt,k1.domB,k1.domE,k1.rel⟩,k2,rfl, ?_⟩
   cases o with
   |inl p=>
    obtain⟨v',q1,q2,q3⟩:=k4
    exact⟨v',q1,q2 c cs hcs⟩
   |inr ch=>
    obtain⟨ch',q1,q2⟩:=k4
    exact⟨ch',q1,q2 c cs hcs⟩
theorem XU {g:Nat}{y:Nat}{v:Value}: ∀{ps:List Nat} {l:List Value} {t:T Value},T.get (I4 g ps l t) y=some v→ ∀{_n:Nat} {r:Inj} {tt:Array Value} {l':List Value},TmR r g t tt→VRs r l l'→l.length=ps.length→(∀p∈ps,p<tt.size)→
  Nat.testBit g y=true∧ ∃v',((ps.zip l').foldl (fun tmps (x:Nat×Value)=>tmps.setIfInBounds x.1 x.2) tt)[y]?=some v'∧VR r v v'
 |[],l,t,h,n,r,tt,l',hT,hl,_,_=>by simpa using hT y v h
 |p::ps,[],t,h,n,r,tt,l',hT,hl,hlen,_=>by simp at hlen
 |p::ps,a::l,t,h,n,r,tt,l',hT,hl,hlen,hp=>by
  obtain⟨a',l1,rfl,q1,q2⟩:=hl.inv
  replace h:T.get (I4 g ps l (putG g p a t)) y=some v:=h
  have hps:p<tt.size:=hp p List.mem_cons_self
  have:=XU h (_n:=n) (r:=r) (tt:=tt.setIfInBounds p a') (l':=l1) (fun x u e=>by
   unfold putG at e
   cases hb:Nat.testBit g p with
   |true=>
    rw[hb]at e
    simp only[T.get_set]at e
    split at e
    ·rename_i hx
     cases e
     subst hx
     exact⟨hb,a',by simp[hps],q1⟩
    ·rename_i hx
     obtain⟨z1,u',z2,z3⟩:=hT x u e
     exact⟨z1,u',by rw[Array.getElem?_setIfInBounds_ne (fun e=>hx e.symm)];exact z2,z3⟩
   |false=>
    rw[hb]at e
    obtain⟨z1,u',z2,z3⟩:=hT x u e
    refine⟨z1,u', ?_,z3⟩
    rw[Array.getElem?_setIfInBounds_ne]
    ·exact z2
    ·intro hx
     subst hx
     rw[z1]at hb
     cases hb) q2 (by simpa using hlen) (fun x hx=>by rw[Array.size_setIfInBounds];exact hp x (List.mem_cons_of_mem _ hx))
  simpa using this
theorem Un: ∀(l:List (Nat×Value)) (tt:Array Value),(l.foldl (fun tmps (x:Nat×Value)=>tmps.setIfInBounds x.1 x.2) tt).size=tt.size
 |[],tt=>rfl
 |p::l,tt=>by rw[List.foldl_cons,Un l];simp
theorem HB_ (l:Nat)(args:List Value):Loc (Gj l args):=by
 unfold Gj
 refine Ai (CW _) fun c=> ?_
 cases c with
 |C a b=>exact AD
 |O o=>cases o<;>first|exact AD|exact AL _ (AC _)
theorem Dk_ (l:Nat)(args:List Value):NoPan (Gj l args):=by
 unfold Gj
 refine AB (Dn _) fun c=> ?_
 cases c with
 |C a b=>exact AI
 |O o=>cases o<;>first|exact AI|exact AM _ (AG _)
theorem Nd_ {run:AF→M (Value×FrameMode)}(hrun:RunOK E run):RoundOK E (Ca run) where
 loc:=fun l args=>Fr (QS _ (Ai (Ai (HB_ _ _) hrun.loc) fun p=>AC _))
 ok:=by
  intro w0 w r l l' d args args' s out s' h hr hb hf ha hl
  obtain⟨v,hout,h'⟩:=KH h
  clear h
  subst hout
  have h:=h'
  clear h'
  obtain⟨s2,e1,rfl⟩:=E0 (o:= .inl v) h
  obtain⟨af,s1,o,e2,e3,e4⟩:=Jm (Dk_ _ _) e1
  cases o with
  |inr c=>cases e4
  |inl p=>
   cases e4
   unfold Gj at e2
   obtain⟨c,s3,e5,e6⟩:=bind_some e2
   obtain⟨z1,z2⟩:=CZ e5
   cases c with
   |C a b=>cases e6
   |O o=>
    cases o with
    |loop st pe f n g tm ps as bd df=>
     obtain⟨e7,e8⟩:=BC e6
     obtain⟨rfl,rfl⟩:=AE e8
     rw[Bool.and_eq_true]at e7
     obtain⟨b',d',o',y1,y2,y3⟩:=hr.obj _ _ z1 rfl
     rw[hl]at y1
     cases y1
     cases o' with
     |loop L=>
      obtain⟨j1,j2,j3,j4,j5,j6,j7,j8,j9⟩:=y3
      have hlen:args.length=ps.length:=Nat.eq_of_beq_eq_true e7.1
      have hps: ∀p∈ps,p<L.tmps.size:=fun p hp=>by
       rw[j4]
       exact BR (List.all_eq_true.1 e7.2 p hp)
      have hsize:args'.toArray.size=L.params.size:=by
       rw[List.size_toArray,←ha.1,hlen,←j6,Array.length_toList]
      have hzip:(L.params.zip args'.toArray).foldl (fun tmps (x:Nat×Value)=>tmps.setIfInBounds x.1 x.2) L.tmps=(ps.zip args').foldl (fun tmps (x:Nat×Value)=>tmps.setIfInBounds x.1 x.2) L.tmps:=by
       rw[←Array.foldl_toList,Array.toList_zip,j6]
      refine⟨L.fn,(ps.zip args').foldl (fun tmps (x:Nat×Value)=>tmps.setIfInBounds x.1 x.2) L.tmps,L.assign,L.body, ?_,fun c cs=> ?_⟩
      ·simp only[Instr.yield,Sem.run_bind,Iq y2,Result.andThen_ok]
       rw[if_neg (by simpa using hsize)]
       simp only[Sem.run_pure,←hzip]
      ·have hF:FR E.P r {fn:=f,n,glob:=g,tmps:=I4 g ps args tm,todo:=[.code as, .beginRound, .code bd],mode:= .run,kind:= .normal,roundOf:=some l} cxR ([],c::cs)
         (Frame.round l' L.fn ((ps.zip args').foldl (fun tmps (x:Nat×Value)=>tmps.setIfInBounds x.1 x.2) L.tmps) L.assign L.body .normal) (c::cs):=by
        refine⟨j3,by simp only[Frame.round];rw[Un,j4],fun y v e=>XU e (_n:=n) j5 ha hlen hps,fun _=> ?_, .run,⟨d,hl⟩,fun _=>rfl,(fun e=>by cases e),⟨⟨rfl,rfl⟩,(by simp[Frame.round]),rfl⟩⟩
        simp only[Frame.round,j7,j8]
       have z2':s3.mem=s.mem∧s3.next=s.next∧s3.lim=s.lim∧s3.cx=cxR:=z2
       obtain⟨w',r',k1,k2,cs',k3,k4⟩:=hrun.ok (out:= .inl p) e3 (by rw[z2'.2.2.2];exact hF) (by rw[z2'.1];exact hr) (show s3.lim≤s3.next by rw[z2'.2.2.1,z2'.2.1];exact hb) (by rw[z2'.2.1];exact hf)
       have hcs:cs'=c::cs:=by
        rcases k3 with k3|⟨_,_,_,_,_,k,_⟩
        ·exact k3.2
        ·cases k
       obtain⟨v',q1,q2,q3⟩:=k4
       refine⟨w',r',⟨k1.le,by rw[←z2'.2.1];exact k1.nxt,fun b hb=>by rw[←z2'.2.1];exact k1.domB b hb,fun b hb=>by rw[←z2'.2.1];exact k1.domE b hb,k1.rel⟩,by rw[←z2'.2.2.1];exact k2,rfl,v',q1,q2 c cs hcs⟩
     |_=>exact y3.elim
    |_=>cases e6
theorem Fc_ (he:EnvOK E){run:AF→M (Value×FrameMode)}(hrun:RunOK E run):DeferOK E (Ey E run) where
 loc:=fun f args m=>QS _ (by
  refine IU (m:=M.bind (CD E f args .deferred) run) (f:=fun p=>M.pure (none,p.2)) (g:=fun c=>M.bind getCx fun cx=>M.pure (some c,upOf cx)) (Ai (Xj _ _ _) hrun.loc) (fun p=>AC _) fun c=>Ai Ji fun cx=>AC _)
 ok:=by
  intro w0 w r f args args' m m' s out s' h hr hb hf ha hm
  obtain⟨s2,e1,rfl⟩:=E0 h
  have e1':R.rec (motive:=fun _=>R (Option (List PanicEntry)×FrameMode)) .none (fun p s=> .some (none,p.2) s) (fun c s=> .some (some c,upOf s.cx) s) (M.bind (CD E f args .deferred) run ⟨s.mem,s.next,s.lim,s.rd,s.wr, .cx (some m) (some [])⟩)=rOf out s2:=e1
  have main: ∃af s1 o,CD E f args .deferred ⟨s.mem,s.next,s.lim,s.rd,s.wr, .cx (some m) (some [])⟩= .some af s1∧run af s1=rOf o s2∧out= .inl (match o with| .inl p=>(none,p.2)| .inr c=>(some c,upOf s2.cx)):=by
   cases e2:M.bind (CD E f args .deferred) run ⟨s.mem,s.next,s.lim,s.rd,s.wr, .cx (some m) (some [])⟩with
   |none=>rw[e2]at e1';exact(Ba e1').elim
   |some p s3=>
    rw[e2]at e1'
    obtain⟨rfl,rfl⟩:=BD (show R.some (none,p.2) s3=rOf out s2 from e1')
    obtain⟨af,s1,e3,e4⟩:=bind_some e2
    exact⟨af,s1, .inl p,e3,e4,rfl⟩
   |pan c s3=>
    rw[e2]at e1'
    obtain⟨rfl,rfl⟩:=BD (show R.some (some c,upOf s3.cx) s3=rOf out s2 from e1')
    rcases Q8 e2 with e3|⟨af,s1,e3,e4⟩
    ·exact((Jz _ _ _).no _ _ _ e3).elim
    ·exact⟨af,s1, .inr c,e3,e4,rfl⟩
  obtain⟨af,s1,o,e2,e3,rfl⟩:=main
  have hen:=fun(c:Frame) (cs:List Frame) (hc:c.mode=m')=>LB (base:=([],c::cs)) (cx:= .cx (some m) (some [])) he e2 ha (cs:=c::cs) ⟨⟨rfl,c,cs,m',rfl,by rw[←hc],hm⟩,rfl, .nil⟩
  refine⟨(hen {(default:Frame)with mode:=m'} [] rfl).1,fun c cs hc=> ?_⟩
  obtain⟨_,hF,rfl⟩:=hen c cs hc
  obtain⟨w',r',k1,k2,cs',k3,k4⟩:=hrun.ok e3 hF hr hb hf
  rcases k3 with⟨k3,_⟩|⟨u,c0,rest,m2,k5,k6,k7,k8,k9,k10⟩
  ·cases k3
  ·cases k7
   refine⟨w',r',_,m2,rfl,⟨k1.le,k1.nxt,k1.domB,k1.domE,k1.rel⟩,k2,rfl, ?_, ?_⟩
   ·cases o with
    |inl p=>rw[show p.2=u from k10 p.1 p.2 rfl];exact k9
    |inr ch=>rw[show upOf s2.cx=u by rw[k5];rfl];exact k9
   ·cases o with
    |inl p=>
     obtain⟨v',q1,q2,q3⟩:=k4
     exact⟨v',q2 _ _ k8⟩
    |inr ch=>
     obtain⟨ch',q1,q2⟩:=k4
     exact⟨ch',q1,q2 _ _ k8⟩
theorem QY (he:EnvOK E): ∀fuel,RunOK E (runF E fuel)
 |0=>⟨fun _=>AD,fun h=>(Ba h).elim⟩
 |fuel+1=>by
  have ih:=QY he fuel
  have c1:=Vy_ he ih
  have c2:=Nd_ ih
  have c3:=Fc_ he ih
  have h0: ∀af,runF E (fuel+1) af=M.bind (EU E (AJ E (runF E fuel)) (Ca (runF E fuel)) (Ey E (runF E fuel)) af) (Fv (runF E fuel)):=fun _=>rfl
  have lR: ∀p,Loc (Fv (runF E fuel) p):=fun p=>by
   cases p with
   |go af=>exact ih.loc af
   |fin v u=>exact AC _
  refine⟨fun af=>by rw[h0];exact Ai (Aw_ he c1 c2 c3 af) lR, ?_⟩
  intro w0 w r base af fr cs s out s' h hF hr hb hf
  rw[h0]at h
  rcases CC h with⟨p,s1,e1,e2⟩|⟨c,e1,rfl⟩
  ·have L1:=(Aw_ he c1 c2 c3 af).at' s (.inl p) s1 e1 hb
   have L2:=(lR p).at' s1 out s' e2 L1.bnd
   obtain⟨w1,r1,k1,k2,k3⟩:=AC_ (out:= .inl p) he c1 c2 c3 e1 hF hr hb (fun b x y=>hf b x (Nat.lt_of_lt_of_le y L2.next))
   cases p with
   |go af'=>
    obtain⟨fr',cs',k4,k5,k6⟩:=k3
    obtain⟨w2,r2,q1,q2,q3⟩:=ih.ok (show runF E fuel af' s1=rOf out s' from e2) k5 k1.rel L1.bnd (k1.fresh hf)
    exact⟨w2,r2,k1.trans q1,q2.trans k2,q3.head k4 k6⟩
   |fin v u=>
    obtain⟨rfl,rfl⟩:=BD (show R.some (v,u) s1=rOf out s' from e2)
    exact⟨w1,r1,k1,k2,k3⟩
  ·obtain⟨w1,r1,k1,k2,k3⟩:=AC_ (out:= .inr c) he c1 c2 c3 e1 hF hr hb hf
   exact⟨w1,r1,k1,k2,k3⟩
end
theorem Rel.empty (w:World){K:Know}(hK:K.sure w):Rel w (.nil K) .E w:=
 ⟨.refl _ _,(fun b b' d e=>by cases e),(fun l b v e=>by cases e),(fun l1 l2 b1 v1 b2 v2 b' d1 d2 e=>by cases e),(fun l o e=>by cases e),(fun l1 l2 o1 o2 b' d1 d2 e=>by cases e),(fun t sz e=>by cases e),(fun t1 t2 s1 s2 k1 k2 e=>by cases e),hK,(fun l n e=>by cases e),⟨(fun l b v e=>by cases e),(fun l b v b' d e=>by cases e),(fun l o b' d e=>by cases e),(fun l n b' d e=>by cases e)⟩⟩
def st0:St:=⟨.E,0,0,[],[], .no⟩
theorem SP {E:Env}(he:EnvOK E){fuel f:Nat}{v:Value}{s':St}(ho:E.orc.get f=none)(hx:E.ext.get f=none)(h:callF E fuel f [] st0= .some v s')(hp:plain v=true)(w:World):Calls E.P f #[] w fun e w'=>e= .returned v∧Below w.heap.size w w':=by
 intro cs
 replace h:AJ E (runF E fuel) f [] st0= .some v s':=h
 unfold AJ at h
 rw[ho,hx]at h
 obtain⟨s2,e1,rfl⟩:=E0 (o:= .inl v) (show within cxN (M.bind (M.bind (CD E f [] .normal) (runF E fuel)) fstV) st0=rOf (.inl v) s' from h)
 obtain⟨af,s1,o,e2,e3,e4⟩:=Jm (Jz _ _ _) e1
 obtain⟨_,hF,rfl⟩:=LB (r:= .nil .no) (base:=([],cs)) (cx:=cxN) he e2 .nil (cs:=cs) ⟨⟨rfl,rfl⟩,rfl, .nil⟩
 obtain⟨w',r',k1,k2,cs',k3,k4⟩:=(QY he fuel).ok e3 hF (Rel.empty w (Know.no_sure w)) (Nat.le_refl _) (fun _ _ _=>⟨rfl,rfl⟩)
 cases o with
 |inr c=>cases e4
 |inl p=>
  cases e4
  obtain⟨v',q1,q2,q3⟩:=k4
  obtain⟨fr',x1,x2,x3⟩:=q3 rfl rfl
  have hcs:cs'=cs:=by
   rcases k3 with k3|⟨_,_,_,_,_,k,_⟩
   ·exact k3.2
   ·cases k
  subst hcs
  exact⟨.returned v',w',fr',⟨by rw[q1.eq_of_plain hp],k1.rel.below⟩,x3,x1,x2⟩
def T.tab {α:Type}(f:Nat→Option α)(fuel:Nat):Nat→Nat→T α:=
 Nat.rec (motive:=fun _=>Nat→Nat→T α) (fun _ _=> .E) (fun _ ih a s=>fN (Nat.add a s) fun b=>fN (Nat.add b s) fun c=>fN (Nat.add s s) fun d=> .N (f a) (ih b d) (ih c d)) fuel
theorem T.tab_succ {α:Type}(f:Nat→Option α)(n a s:Nat):T.tab f (n+1) a s= .N (f a) (T.tab f n (a+s) (s+s)) (T.tab f n (a+s+s) (s+s)):=by
 show fN (Nat.add a s) (fun b=>fN (Nat.add b s) fun c=>fN (Nat.add s s) fun d=>T.N (f a) (T.tab f n b d) (T.tab f n c d))=_
 rw[AY,AY,AY]
 rfl
theorem T.tab_some {α:Type}(f:Nat→Option α): ∀(n a s k:Nat) {x:α},T.get (T.tab f n a s) k=some x→f (a+s*k)=some x
 |0,_,_,_,_,h=>by cases h
 |n+1,a,s,0,x,h=>by
  rw[T.tab_succ,T.get_zero]at h
  simpa using h
 |n+1,a,s,k+1,x,h=>by
  rw[T.tab_succ,T.get_succ]at h
  split at h
  ·rename_i hk
   have:=T.tab_some f n _ _ _ h
   rw[←this]
   congr 1
   have e:k=2*(k/2):=by omega
   rw[Nat.add_mul,Nat.mul_add,←Nat.two_mul,Nat.mul_left_comm,←e]
   omega
  ·rename_i hk
   have:=T.tab_some f n _ _ _ h
   rw[←this]
   congr 1
   have e:k=2*(k/2)+1:=by omega
   have e2:s*(k+1)=s*(2*(k/2))+s+s:=by rw[e];rw[show 2*((2*(k/2)+1)/2)=2*(k/2) by omega];rw[Nat.mul_add,Nat.mul_add];omega
   rw[e2,Nat.add_mul,←Nat.two_mul,Nat.mul_left_comm]
   omega
theorem T.tab_get {α:Type}(f:Nat→Option α): ∀(n a s k:Nat),k+1<2^n→T.get (T.tab f n a s) k=f (a+s*k)
 |0,_,_,k,h=>by simp at h
 |n+1,a,s,0,_=>by rw[T.tab_succ];rfl
 |n+1,a,s,k+1,h=>by
  rw[T.tab_succ,T.get_succ]
  split
  ·rename_i hk
   rw[T.tab_get f n _ _ _ (by rw[Nat.pow_succ]at h;omega)]
   congr 1
   have e:k=2*(k/2):=by omega
   rw[Nat.add_mul,Nat.mul_add,←Nat.two_mul,Nat.mul_left_comm,←e]
   omega
  ·rename_i hk
   rw[T.tab_get f n _ _ _ (by rw[Nat.pow_succ]at h;omega)]
   congr 1
   have e:k=2*(k/2)+1:=by omega
   have e2:s*(k+1)=s*(2*(k/2))+s+s:=by rw[e];rw[show 2*((2*(k/2)+1)/2)=2*(k/2) by omega];rw[Nat.mul_add,Nat.mul_add];omega
   rw[e2,Nat.add_mul,←Nat.two_mul,Nat.mul_left_comm]
   omega
def ti0 (P:Program)(t:Nat):Option TI:=
 match P.info? t,P.underlying t with
 |some n,some u=>(match n.zero with
  |some z=>Bool.rec (motive:=fun _=>Option TI) none (some ⟨u,n.size,aggD u,z.cells.toList,n.bytes⟩) (Nat.beq z.cells.toList.length n.size&&z.cells.toList.all plain&&(aggV z==aggD u))
  |none=>none)
 |_,_=>none
def E2 (ok:Nat→Bool)(u:TypeDesc):Bool:=
 match u with
 | .struct fs=>fs.toList.all fun f=>ok f.type
 |_=>true
def tyB (P:Program)(n:Nat):Nat→Bool:=
 Nat.rec (motive:=fun _=>Nat→Bool) (fun _=>false) (fun _ ih t=>Nat.blt t 4095&&Option.rec (motive:=fun _=>Bool) false (fun i=>E2 ih i.u) (ti0 P t)) n
def tyAt (P:Program)(t:Nat):Option TI:=Bool.rec (motive:=fun _=>Option TI) none (ti0 P t) (tyB P 8 t)
def fnAt (P:Program)(f:Nat):Option Func:=
 match P.funcs[f]? with
 | some fn => Bool.rec (motive := fun _ => Option Func) (some fn) none (fn.name == "runtime.NumGoroutine")
 |none=>none
def envOf (P:Program)(orc ext:T (List Value→M Value)):Env:=⟨P,T.tab (tyAt P) 12 0 1,T.tab (fnAt P) 12 0 1,orc,ext⟩
theorem Em_ {P:Program}{t:Nat}{i:TI}(h:ti0 P t=some i):TyOK P t i:=by
 unfold ti0 at h
 split at h
 ·rename_i n u h1 h2
  split at h
  ·rename_i z h3
   cases hb:(Nat.beq z.cells.toList.length n.size&&z.cells.toList.all plain&&(aggV z==aggD u))with
   |false=>rw[hb]at h;cases h
   |true=>
    rw[hb]at h
    cases h
    rw[Bool.and_eq_true,Bool.and_eq_true]at hb
    refine⟨⟨n,h1,rfl,rfl,z,h3,rfl⟩,h2,rfl,Nat.eq_of_beq_eq_true hb.1.1,fun v hv=>List.all_eq_true.1 hb.1.2 v hv,fun n' z' e1 e2=> ?_⟩
    rw[h1]at e1
    cases e1
    rw[h3]at e2
    cases e2
    exact eq_of_beq hb.2
  ·cases h
 ·cases h
theorem Nr {P:Program}{n t:Nat}:tyB P (n+1) t=(Nat.blt t 4095&&Option.rec (motive:=fun _=>Bool) false (fun i=>E2 (tyB P n) i.u) (ti0 P t)):=rfl
theorem AJ_ {P:Program}: ∀{n t:Nat},tyB P n t=true→tyB P (n+1) t=true
 |0,_,h=>by cases h
 |n+1,t,h=>by
  rw[Nr,Bool.and_eq_true]at h ⊢
  refine⟨h.1, ?_⟩
  have h2:=h.2
  cases e:ti0 P t with
  |none=>rw[e]at h2;cases h2
  |some i=>
   rw[e]at h2
   replace h2:E2 (tyB P n) i.u=true:=h2
   show E2 (tyB P (n+1)) i.u=true
   unfold E2 at h2 ⊢
   cases hu:i.u with
   |struct fs=>
    rw[hu]at h2
    simp only at h2 ⊢
    exact List.all_eq_true.2 fun f hf=>AJ_ (List.all_eq_true.1 h2 f hf)
   |_=>rfl
theorem YH {P:Program}{t:Nat}{i:TI}(h:tyAt P t=some i):tyB P 8 t=true∧ti0 P t=some i:=by
 unfold tyAt at h
 cases e:tyB P 8 t with
 |false=>rw[e]at h;cases h
 |true=>rw[e]at h;exact⟨rfl,h⟩
theorem RZ (P:Program)(orc ext:T (List Value→M Value)):EnvTy (envOf P orc ext) where
 ok:=fun t i h=>by
  have h1:=T.tab_some (tyAt P) 12 0 1 t h
  rw[Nat.zero_add,Nat.one_mul]at h1
  exact Em_ (YH h1).2
 flds:=fun t i fs h hu f hf=>by
  have h1:=T.tab_some (tyAt P) 12 0 1 t h
  rw[Nat.zero_add,Nat.one_mul]at h1
  obtain⟨h2,h3⟩:=YH h1
  rw[show(8:Nat)=7+1 from rfl,Nr,Bool.and_eq_true,h3]at h2
  have h4:E2 (tyB P 7) i.u=true:=h2.2
  unfold E2 at h4
  rw[hu]at h4
  have h5:tyB P 7 f.type=true:=List.all_eq_true.1 h4 f (by simpa using hf)
  have h6:=AJ_ h5
  have h7:=h6
  rw[Nr,Bool.and_eq_true]at h7
  have h8:f.type<4095:=BR h7.1
  have h9:T.get (envOf P orc ext).ty f.type=tyAt P f.type:=by
   have:=T.tab_get (tyAt P) 12 0 1 f.type (Nat.succ_lt_succ h8)
   rw[Nat.zero_add,Nat.one_mul]at this
   exact this
  rw[h9]
  unfold tyAt
  rw[h6]
  cases e:ti0 P f.type with
  |none=>rw[e]at h7;cases h7.2
  |some fi=>exact⟨fi,rfl⟩
theorem Yh (P : Program) (orc ext : T (List Value → M Value)) (f : Nat) (fn : Func) (h : T.get (envOf P orc ext).fn f = some fn) : P.funcs[f]? = some fn ∧ fn.name ≠ "runtime.NumGoroutine" := by
 have h1:=T.tab_some (fnAt P) 12 0 1 f h
 rw[Nat.zero_add,Nat.one_mul]at h1
 unfold fnAt at h1
 split at h1
 ·rename_i fn' h2
  cases hb : (fn'.name == "runtime.NumGoroutine") with
  |true=>rw[hb]at h1;cases h1
  |false=>
   rw[hb]at h1
   cases h1
   exact⟨h2,fun e=>by rw[e]at hb;simp at hb⟩
 ·cases h1
theorem envOf_ok (P:Program)(h:P.follows .mixedOrders=true):EnvOK (envOf P .E .E):=
 ⟨RZ P .E .E,Yh P .E .E,h,(fun f m e=>by cases e),(fun e=>by cases e),(fun f m e=>by cases e),(fun e=>by cases e)⟩
structure OrcOK (P:Program)(f:Nat)(m:List Value→M Value):Prop where
 loc: ∀args,Loc (m args)
 ok: ∀{w0 w:World} {r:Inj} {args args':List Value} {s:St} {out:Out Value} {s':St},m args s=rOf out s'→Rel w0 r s.mem w→Bnd s→Br r s.next s'.next→VRs r args args'→
  (∀w,(callFunc f args'.toArray).run P w= .ok (.enter f args'.toArray) w)∧
  ∀c cs,∃w' r',Goes w0 r s s' r' w'∧s'.lim=s.lim∧s'.cx=s.cx∧Ends P r' out (lone (Frame.enter P f args'.toArray .normal) (c::cs) w) c cs w'
def OrcT (P:Program)(orc:T (List Value→M Value)):Prop:= ∀f m,T.get orc f=some m→OrcOK P f m
theorem OrcT.E (P:Program):OrcT P .E:=fun f m h=>by cases h
theorem OrcT.set {P:Program}{orc:T (List Value→M Value)}(h:OrcT P orc){f:Nat}{m:List Value→M Value}(k:OrcOK P f m):OrcT P (T.set orc f m):=fun g n e=>by
 rw[T.get_set]at e
 split at e
 ·rename_i hg
  cases e
  rw[hg]
  exact k
 ·exact h g n e
def valR (r:R Value):Option Value:=R.rec (motive:=fun _=>Option Value) none (fun v _=>some v) (fun _ _=>none) r
theorem UX {r:R Value}{v:Value}(h:valR r=some v): ∃s,r= .some v s:=by
 cases r with
 |none=>cases h
 |some a s=>cases h;exact⟨s,rfl⟩
 |pan c s=>cases h
def Hf (v:Value)(args:List Value):M Value:=List.rec (motive:=fun _=>M Value) (M.pure v) (fun _ _ _=>M.fail) args
theorem Pm_ {E:Env}(he:EnvOK E){fuel f:Nat}{args:List Value}{v:Value}{s s':St}(ho:E.orc.get f=none)(hx:E.ext.get f=none)(h:callF E fuel f args s= .some v s')(args':Array Value)(w:World):(callFunc f args').run E.P w= .ok (.enter f args') w:=by
 replace h:AJ E (runF E fuel) f args s= .some v s':=h
 unfold AJ at h
 rw[ho,hx]at h
 obtain⟨s2,e1,rfl⟩:=E0 (o:= .inl v) (show within cxN (M.bind (M.bind (CD E f args .normal) (runF E fuel)) fstV) s=rOf (.inl v) s' from h)
 obtain⟨af,s1,o,e2,_⟩:=Jm (Jz _ _ _) e1
 obtain⟨_,fn,c,h1,h2,_⟩:=WH e2
 obtain⟨k1,k2⟩:=he.fn f fn h1
 unfold callFunc
 simp[Sem.run,program,k1,k2,h2]
theorem JS {E:Env}(he:EnvOK E){fuel f:Nat}{v:Value}(ho:E.orc.get f=none)(hx:E.ext.get f=none)(h:valR (callF E fuel f [] st0)=some v)(hp:plain v=true):OrcOK E.P f (Hf v) where
 loc:=fun args=>by cases args<;>first|exact AC _|exact AD
 ok:=by
  intro w0 w r args args' s out s' e hr hb hf ha
  obtain⟨s1,h⟩:=UX h
  cases args with
  |cons a l=>exact(Ba e).elim
  |nil=>
   obtain⟨rfl,rfl⟩:=BD (show R.some v s=rOf out s' from e)
   rw[ha.inv_nil]
   refine⟨fun w=>Pm_ he ho hx h _ w,fun c cs=> ?_⟩
   obtain⟨e,w',fr,⟨rfl,hbl⟩,hs,_,hl⟩:=SP he ho hx h hp w (c::cs)
   exact⟨w',r, .of_rel rfl (hr.beyond hbl),rfl,rfl,v, .of_plain hp,hs.trans (.one (step_leave_returned hl))⟩
theorem calls_of {E:Env}(he:EnvOK E){fuel f:Nat}{v:Value}(ho:E.orc.get f=none)(hx:E.ext.get f=none)(h:valR (callF E fuel f [] st0)=some v)(hp:plain v=true)(w:World):Calls E.P f #[] w fun e w'=>e= .returned v∧Below w.heap.size w w':=by
 obtain⟨s1,h⟩:=UX h
 exact SP he ho hx h hp w
structure ExtOK (P:Program)(f:Nat)(m:List Value→M Value):Prop where
 loc: ∀args,Loc (m args)
 ok: ∀{w0 w:World} {r:Inj} {args args':List Value} {s:St} {out:Out Value} {s':St},m args s=rOf out s'→Rel w0 r s.mem w→VRs r args args'→Nw P w0 w r s f args' out s'
def ExtT (P:Program)(ext:T (List Value→M Value)):Prop:= ∀f m,T.get ext f=some m→ExtOK P f m
theorem ExtT.E (P:Program):ExtT P .E:=fun f m h=>by cases h
theorem ExtT.set {P:Program}{ext:T (List Value→M Value)}(h:ExtT P ext){f:Nat}{m:List Value→M Value}(k:ExtOK P f m):ExtT P (T.set ext f m):=fun g n e=>by
 rw[T.get_set]at e
 split at e
 ·rename_i hg
  cases e
  rw[hg]
  exact k
 ·exact h g n e
theorem Ie (P:Program)(h:P.follows .mixedOrders=true){orc ext:T (List Value→M Value)}(ho:OrcT P orc)(hx:ExtT P ext):EnvOK (envOf P orc ext):=
 ⟨RZ P orc ext,Yh P orc ext,h,fun f m e=>(ho f m e).loc,fun e=>(ho _ _ e).ok,fun f m e=>(hx f m e).loc,fun e=>(hx _ _ e).ok⟩
section
variable {P:Program}{f:Nat}{fn:Func}
end
end Go.Proofs.Ytofanlcjeohcjaa.Am
namespace Go.Proofs.Ytofanlcjeohcjaa
def rot (x n:Nat):Nat:=x/2^n|||x*2^(32-n)%4294967296
theorem Bz (x n:Nat)(h:x<4294967296):rot x n<4294967296:=by
 unfold rot
 exact Nat.or_lt_two_pow (n:=32) (Nat.lt_of_le_of_lt (Nat.div_le_self _ _) h) (Nat.mod_lt _ (by decide))
namespace Sha
def s0 (x:Nat):Nat:=rot x 7^^^rot x 18^^^x/2^3
def s1 (x:Nat):Nat:=rot x 17^^^rot x 19^^^x/2^10
theorem xor_lt {a b:Nat}(ha:a<4294967296)(hb:b<4294967296):a^^^b<4294967296:=Nat.xor_lt_two_pow (n:=32) ha hb
theorem or_lt {a b:Nat}(ha:a<4294967296)(hb:b<4294967296):a|||b<4294967296:=Nat.or_lt_two_pow (n:=32) ha hb
theorem s0_lt {x:Nat}(h:x<4294967296):s0 x<4294967296:=xor_lt (xor_lt (Bz _ _ h) (Bz _ _ h)) (Nat.lt_of_le_of_lt (Nat.div_le_self _ _) h)
theorem s1_lt {x:Nat}(h:x<4294967296):s1 x<4294967296:=xor_lt (xor_lt (Bz _ _ h) (Bz _ _ h)) (Nat.lt_of_le_of_lt (Nat.div_le_self _ _) h)
def be (a b c d:Nat):Nat:=a*2^24|||b*2^16|||c*2^8|||d
def sch (B:Nat→Nat)(i:Nat):Nat:=
 if i<16 then be (B (4*i)) (B (4*i+1)) (B (4*i+2)) (B (4*i+3))
 else(((sch B (i-16)+s0 (sch B (i-15)))%4294967296+sch B (i-7))%4294967296+s1 (sch B (i-2)))%4294967296
termination_by i
decreasing_by all_goals omega
theorem be_lt {a b c d:Nat}(ha:a<256)(hb:b<256)(hc:c<256)(hd:d<256):be a b c d<4294967296:=
 or_lt (or_lt (or_lt (by omega) (by omega)) (by omega)) (by omega)
theorem sch_lt {B:Nat→Nat}(hB: ∀j,B j<256)(i:Nat):sch B i<4294967296:=by
 unfold sch
 split
 ·exact be_lt (hB _) (hB _) (hB _) (hB _)
 ·exact Nat.mod_lt _ (by decide)
theorem sch_lo {B:Nat→Nat}{i:Nat}(h:i<16):sch B i=be (B (4*i)) (B (4*i+1)) (B (4*i+2)) (B (4*i+3)):=by
 rw[sch,if_pos h]
theorem sch_hi {B:Nat→Nat}{i:Nat}(h:16≤i):sch B i=(((sch B (i-16)+s0 (sch B (i-15)))%4294967296+sch B (i-7))%4294967296+s1 (sch B (i-2)))%4294967296:=by
 rw[sch,if_neg (by omega)]
structure St8 where
 a:Nat
 b:Nat
 c:Nat
 d:Nat
 e:Nat
 f:Nat
 g:Nat
 h:Nat
structure St8.Ok (s:St8):Prop where
 a:s.a<4294967296
 b:s.b<4294967296
 c:s.c<4294967296
 d:s.d<4294967296
 e:s.e<4294967296
 f:s.f<4294967296
 g:s.g<4294967296
 h:s.h<4294967296
def t1 (s:St8)(k w:Nat):Nat:=
 ((((s.h+(rot s.e 6^^^rot s.e 11^^^rot s.e 25))%4294967296+(s.e&&&s.f^^^(4294967295^^^s.e)&&&s.g))%4294967296+k)%4294967296+w)%4294967296
def t2 (s:St8):Nat:=
 ((rot s.a 2^^^rot s.a 13^^^rot s.a 22)+(s.a&&&s.b^^^s.a&&&s.c^^^s.b&&&s.c))%4294967296
def rnd (s:St8)(k w:Nat):St8:=⟨(t1 s k w+t2 s)%4294967296,s.a,s.b,s.c,(s.d+t1 s k w)%4294967296,s.e,s.f,s.g⟩
theorem Sh_ {s:St8}(h:s.Ok)(k w:Nat):(rnd s k w).Ok:=⟨Nat.mod_lt _ (by decide),h.a,h.b,h.c,Nat.mod_lt _ (by decide),h.e,h.f,h.g⟩
def rnds (K W:Nat→Nat)(s:St8):Nat→St8
 |0=>s
 |n+1=>rnd (rnds K W s n) (K n) (W n)
theorem rnds_ok {K W:Nat→Nat}{s:St8}(h:s.Ok): ∀n,(rnds K W s n).Ok
 |0=>h
 |n+1=>Sh_ (rnds_ok h n) _ _
def plus (s r:St8):St8:=⟨(r.a+s.a)%4294967296,(r.b+s.b)%4294967296,(r.c+s.c)%4294967296,(r.d+s.d)%4294967296,(r.e+s.e)%4294967296,(r.f+s.f)%4294967296,(r.g+s.g)%4294967296,(r.h+s.h)%4294967296⟩
def ks:List Nat:=[0x428a2f98,0x71374491,0xb5c0fbcf,0xe9b5dba5,0x3956c25b,0x59f111f1,0x923f82a4,0xab1c5ed5,0xd807aa98,0x12835b01,0x243185be,0x550c7dc3,0x72be5d74,0x80deb1fe,0x9bdc06a7,0xc19bf174,0xe49b69c1,0xefbe4786,0x0fc19dc6,0x240ca1cc,0x2de92c6f,0x4a7484aa,0x5cb0a9dc,0x76f988da,0x983e5152,0xa831c66d,0xb00327c8,0xbf597fc7,0xc6e00bf3,0xd5a79147,0x06ca6351,0x14292967,0x27b70a85,0x2e1b2138,0x4d2c6dfc,0x53380d13,0x650a7354,0x766a0abb,0x81c2c92e,0x92722c85,0xa2bfe8a1,0xa81a664b,0xc24b8b70,0xc76c51a3,0xd192e819,0xd6990624,0xf40e3585,0x106aa070,0x19a4c116,0x1e376c08,0x2748774c,0x34b0bcb5,0x391c0cb3,0x4ed8aa4a,0x5b9cca4f,0x682e6ff3,0x748f82ee,0x78a5636f,0x84c87814,0x8cc70208,0x90befffa,0xa4506ceb,0xbef9a3f7,0xc67178f2]
def K (i:Nat):Nat:=ks.getD i 0
theorem ks_len:ks.length=64:=by rfl
def next (s:St8)(B:Nat→Nat):St8:=plus s (rnds K (sch B) s 64)
theorem plus_ok (s r:St8):(plus s r).Ok:=⟨Nat.mod_lt _ (by decide),Nat.mod_lt _ (by decide),Nat.mod_lt _ (by decide),Nat.mod_lt _ (by decide),Nat.mod_lt _ (by decide),Nat.mod_lt _ (by decide),Nat.mod_lt _ (by decide),Nat.mod_lt _ (by decide)⟩
end Sha
end Go.Proofs.Ytofanlcjeohcjaa
namespace Go.Proofs.Ytofanlcjeohcjaa.Am
open Go.RowKit
section
variable {P:Program}{w0 w:World}{r:Inj}
theorem VI_ {f : Nat} {fn : Func} (hf : P.funcs[f]? = some fn) (h1 : (fn.name == "runtime.NumGoroutine") = false) (h2 : fn.body.isNone = false) (args : Array Value) (w : World) : (callFunc f args).run P w = .ok (.enter f args) w := by
 have h1' : ¬fn.name = "runtime.NumGoroutine" := by simpa using h1
 have h2': ¬fn.body=none:=fun e=>by rw[e]at h2;cases h2
 unfold callFunc
 simp[run_program,Sem.run_bind,hf,h1',h2']
def Owed (P:Program)(f:Nat)(w0 w:World)(r:Inj)(args':List Value)(s:St)(v:Value)(s':St):Prop:=
 ∃Q,Calls P f args'.toArray w Q∧ ∀e w',Q e w'→ ∃v' r',e= .returned v'∧VR r' v v'∧Goes w0 r s s' r' w'∧s'.lim=s.lim∧s'.cx=s.cx
theorem N3 {f : Nat} {fn : Func} {m : List Value → M Value} (hf : P.funcs[f]? = some fn) (h1 : (fn.name == "runtime.NumGoroutine") = false) (h2 : fn.body.isNone = false) (hl : ∀ args, Loc (m args)) (hn : ∀ args, NoPan (m args))
  (h: ∀{w0 w:World} {r:Inj} {args args':List Value} {s s':St} {v:Value},m args s= .some v s'→Rel w0 r s.mem w→Br r s.next s'.next→VRs r args args'→Owed P f w0 w r args' s v s'):OrcOK P f m where
 loc:=hl
 ok:=by
  intro w0 w r args args' s out s' e hr hb hfr ha
  cases out with
  |inr c=>exact((hn args).no _ _ _ e).elim
  |inl v=>
   refine⟨fun w=>VI_ hf h1 h2 _ w,fun c cs=> ?_⟩
   obtain⟨Q,hc,hq⟩:=h (show m args s= .some v s' from e) hr hfr ha
   obtain⟨e,w',fr,hQ,hs,_,hl⟩:=hc (c::cs)
   obtain⟨v',r',rfl,hv,hg,k1,k2⟩:=hq e w' hQ
   exact⟨w',r',hg,k1,k2,v',hv,hs.trans (.one (step_leave_returned hl))⟩
end
section
variable {α β:Type}{s:St}
def W (m:M α)(s:St)(Q:α→St→Prop):Prop:= ∃a s',m s= .some a s'∧Q a s'
theorem W.mono {m:M α}{Q R:α→St→Prop}(h:W m s Q)(k: ∀a s',Q a s'→R a s'):W m s R:=let ⟨a,s',e,q⟩:=h;⟨a,s',e,k a s' q⟩
theorem W.of {m:M α}{Q:α→St→Prop}{a:α}{s':St}(e:m s= .some a s')(q:Q a s'):W m s Q:=⟨a,s',e,q⟩
theorem W.pure {a:α}{Q:α→St→Prop}(q:Q a s):W (M.pure a) s Q:=⟨a,s,rfl,q⟩
theorem Bw {m:M α}{f:α→M β}{a:α}{s1:St}(e:m s= .some a s1):M.bind m f s=f a s1:=by
 unfold M.bind
 rw[e]
theorem W.bind {m:M α}{f:α→M β}{Q:β→St→Prop}(h:W m s fun a s1=>W (f a) s1 Q):W (M.bind m f) s Q:=by
 obtain⟨a,s1,e,b,s2,e2,q⟩:=h
 refine⟨b,s2, ?_,q⟩
 unfold M.bind
 rw[e]
 exact e2
theorem W.chk {b:Bool}{m:M α}{Q:α→St→Prop}(hb:b=true)(h:W m s Q):W (M.chk b m) s Q:=by subst hb;exact h
theorem W.on {x:Option α}{a:α}{f:α→M β}{Q:β→St→Prop}(e:x=some a)(h:W (f a) s Q):W (M.on x f) s Q:=by subst e;exact h
theorem W.ofOpt {x:Option α}{a:α}{Q:α→St→Prop}(e:x=some a)(q:Q a s):W (M.ofOpt x) s Q:=by subst e;exact W.pure q
theorem W.cast {m n:M α}{Q:α→St→Prop}(e:m s=n s)(h:W n s Q):W m s Q:=let ⟨a,s',e',q⟩:=h;⟨a,s',e.trans e',q⟩
theorem W.np {m:M α}{Q:α→St→Prop}(h:W m s Q):W (noP m) s Q:=by
 obtain⟨a,s1,e,q⟩:=h
 exact⟨a,s1,by unfold noP;rw[e],q⟩
theorem BU {a b:Nat}(h:a<b):Nat.blt a b=true:=by simpa using h
theorem GM {a b:Nat}(h:b≤a):Nat.blt a b=false:=by
 cases e:Nat.blt a b with
 |false=>rfl
 |true=>exact absurd (BR e) (Nat.not_lt_of_le h)
def St.rdN (s:St)(l:Nat):St:=⟨s.mem,s.next,s.lim,notes l s.lim s.rd,s.wr,s.cx⟩
def St.wrN (s:St)(l:Nat)(c:Cell):St:=⟨T.set s.mem l c,s.next,s.lim,s.rd,notes l s.lim s.wr,s.cx⟩
def St.cxN (s:St)(c:Ctx):St:=⟨s.mem,s.next,s.lim,s.rd,s.wr,c⟩
theorem Gu (l lim:Nat)(r:List Nat): ∃d,notes l lim r=d++r∧ ∀x∈d,x<lim∧x=l:=by
 rcases Nat.lt_or_ge l lim with h|h
 ·exact⟨[l],by unfold notes;rw[BU h];rfl,fun x hx=>by
  have:x=l:=by simpa using hx
  exact⟨by omega,this⟩⟩
 ·exact⟨[],by unfold notes;rw[GM h];rfl,fun x hx=>by cases hx⟩
structure Ext (F G:Nat→Prop)(s s':St):Prop where
 nxt:s.next≤s'.next
 lim:s'.lim=s.lim
 cx:s'.cx=s.cx
 mem: ∀l,l<s.next→ ¬G l→T.get s'.mem l=T.get s.mem l
 rd: ∃d,s'.rd=d++s.rd∧ ∀l∈d,l<s.lim∧F l
 wr: ∃d,s'.wr=d++s.wr∧ ∀l∈d,l<s.lim∧G l
abbrev Non:Nat→Prop:=fun _=>False
theorem Ext.refl {F G:Nat→Prop}(s:St):Ext F G s s:=⟨Nat.le_refl _,rfl,rfl,fun _ _ _=>rfl,⟨[],rfl,fun _ h=>by cases h⟩,⟨[],rfl,fun _ h=>by cases h⟩⟩
theorem Ext.trans {F G F' G':Nat→Prop}{s s1 s2:St}(h:Ext F G s s1)(k:Ext F' G' s1 s2)(hb:s.lim≤s.next)(hF: ∀l,l<s.lim→F' l→F l)(hG: ∀l,l<s.next→G' l→G l):Ext F G s s2:=by
 refine⟨Nat.le_trans h.nxt k.nxt,k.lim.trans h.lim,k.cx.trans h.cx,fun l hl hg=> ?_, ?_, ?_⟩
 ·rw[k.mem l (Nat.lt_of_lt_of_le hl h.nxt) fun x=>hg (hG l hl x)]
  exact h.mem l hl hg
 ·obtain⟨d1,e1,q1⟩:=h.rd
  obtain⟨d2,e2,q2⟩:=k.rd
  refine⟨d2++d1,by rw[e2,e1,List.append_assoc],fun l hl=> ?_⟩
  rcases List.mem_append.1 hl with hl|hl
  ·have:=q2 l hl
   rw[h.lim]at this
   exact⟨this.1,hF l this.1 this.2⟩
  ·exact q1 l hl
 ·obtain⟨d1,e1,q1⟩:=h.wr
  obtain⟨d2,e2,q2⟩:=k.wr
  refine⟨d2++d1,by rw[e2,e1,List.append_assoc],fun l hl=> ?_⟩
  rcases List.mem_append.1 hl with hl|hl
  ·have:=q2 l hl
   rw[h.lim]at this
   exact⟨this.1,hG l (Nat.lt_of_lt_of_le this.1 hb) this.2⟩
  ·exact q1 l hl
theorem Ext.weak {F G F' G':Nat→Prop}{s s1:St}(k:Ext F' G' s s1)(hb:s.lim≤s.next)(hF: ∀l,l<s.lim→F' l→F l)(hG: ∀l,l<s.next→G' l→G l):Ext F G s s1:=(Ext.refl s).trans k hb hF hG
theorem Ext.rdN {F G:Nat→Prop}(s:St)(l:Nat)(hF:l<s.lim→F l):Ext F G s (s.rdN l):=by
 obtain⟨d,e,q⟩:=Gu l s.lim s.rd
 exact⟨Nat.le_refl _,rfl,rfl,fun _ _ _=>rfl,⟨d,e,fun x hx=>⟨(q x hx).1,by have:=q x hx;rw[this.2];exact hF (by rw[←this.2];exact this.1)⟩⟩,⟨[],rfl,fun _ h=>by cases h⟩⟩
theorem Ext.wrN {F G:Nat→Prop}(s:St)(l:Nat)(c:Cell)(hG:G l):Ext F G s (s.wrN l c):=by
 obtain⟨d,e,q⟩:=Gu l s.lim s.wr
 refine⟨Nat.le_refl _,rfl,rfl,fun x _ hx=> ?_,⟨[],rfl,fun _ h=>by cases h⟩,⟨d,e,fun x hx=>⟨(q x hx).1,by rw[(q x hx).2];exact hG⟩⟩⟩
 show T.get (T.set s.mem l c) x=_
 rw[T.get_set,if_neg]
 intro h
 exact hx (by rw[h];exact hG)
theorem Ext.bnd {F G:Nat→Prop}{s s':St}(h:Ext F G s s')(hb:s.lim≤s.next):s'.lim≤s'.next:=by rw[h.lim];exact Nat.le_trans hb h.nxt
def At (s:St)(b o:Nat)(v:Value):Prop:=b+o<s.next∧(T.get s.mem (b+o)=some (.C b v)∨T.get s.mem (b+o)=some (.O (.old b v)))
def Own (s:St)(b o:Nat)(v:Value):Prop:=b+o<s.next∧T.get s.mem (b+o)=some (.C b v)
theorem Own.at' {b o:Nat}{v:Value}(h:Own s b o v):At s b o v:=⟨h.1, .inl h.2⟩
theorem At.ext {F G:Nat→Prop}{s s':St}{b o:Nat}{v:Value}(h:At s b o v)(e:Ext F G s s')(hG: ¬G (b+o)):At s' b o v:=
 ⟨Nat.lt_of_lt_of_le h.1 e.nxt,by rw[e.mem _ h.1 hG];exact h.2⟩
theorem Own.ext {F G:Nat→Prop}{s s':St}{b o:Nat}{v:Value}(h:Own s b o v)(e:Ext F G s s')(hG: ¬G (b+o)):Own s' b o v:=
 ⟨Nat.lt_of_lt_of_le h.1 e.nxt,by rw[e.mem _ h.1 hG];exact h.2⟩
theorem At.same {s s':St}{b o:Nat}{v:Value}(h:At s b o v)(hm:s'.mem=s.mem)(hn:s'.next=s.next):At s' b o v:=by
 unfold At at *
 rw[hm,hn]
 exact h
theorem Own.same {s s':St}{b o:Nat}{v:Value}(h:Own s b o v)(hm:s'.mem=s.mem)(hn:s'.next=s.next):Own s' b o v:=by
 unfold Own at *
 rw[hm,hn]
 exact h
def Row (s:St)(b o:Nat)(l:List Value):Prop:= ∀i v,l[i]?=some v→At s b (o+i) v
def Ah (s:St)(b o:Nat)(l:List Value):Prop:= ∀i v,l[i]?=some v→Own s b (o+i) v
theorem Ah.row {b o:Nat}{l:List Value}(h:Ah s b o l):Row s b o l:=fun i v e=>(h i v e).at'
theorem Row.ext {F G:Nat→Prop}{s s':St}{b o:Nat}{l:List Value}(h:Row s b o l)(e:Ext F G s s')(hG: ∀i,i<l.length→ ¬G (b+(o+i))):Row s' b o l:=fun i v q=>(h i v q).ext e (hG i (List.getElem?_eq_some_iff.1 q).1)
theorem Ah.ext {F G:Nat→Prop}{s s':St}{b o:Nat}{l:List Value}(h:Ah s b o l)(e:Ext F G s s')(hG: ∀i,i<l.length→ ¬G (b+(o+i))):Ah s' b o l:=fun i v q=>(h i v q).ext e (hG i (List.getElem?_eq_some_iff.1 q).1)
theorem Row.ext0 {F:Nat→Prop}{s s':St}{b o:Nat}{l:List Value}(h:Row s b o l)(e:Ext F Non s s'):Row s' b o l:=h.ext e fun _ _=>id
theorem Ah.ext0 {F:Nat→Prop}{s s':St}{b o:Nat}{l:List Value}(h:Ah s b o l)(e:Ext F Non s s'):Ah s' b o l:=h.ext e fun _ _=>id
theorem At.ext0 {F:Nat→Prop}{s s':St}{b o:Nat}{v:Value}(h:At s b o v)(e:Ext F Non s s'):At s' b o v:=h.ext e id
theorem Own.ext0 {F:Nat→Prop}{s s':St}{b o:Nat}{v:Value}(h:Own s b o v)(e:Ext F Non s s'):Own s' b o v:=h.ext e id
theorem Row.tail {b o:Nat}{v:Value}{l:List Value}(h:Row s b o (v::l)):Row s b (o+1) l:=fun i x e=>by
 have:=h (i+1) x (by simpa using e)
 rw[show o+1+i=o+(i+1) by omega]
 exact this
theorem W.rdC {l:Nat}{c:Cell}{Q:Cell→St→Prop}(h:T.get s.mem l=some c)(hl:l<s.next)(q:Q c (s.rdN l)):W (rdC l) s Q:=by
 obtain⟨mem,next,lim,rd,wr,cx⟩:=s
 refine⟨c,_, ?_,q⟩
 unfold Am.rdC
 simp only at h hl ⊢
 rw[BU hl,h]
 rfl
theorem W.wrC {l:Nat}{c:Cell}{Q:Unit→St→Prop}(hl:l<s.next)(q:Q () (s.wrN l c)):W (wrC l c) s Q:=by
 obtain⟨mem,next,lim,rd,wr,cx⟩:=s
 refine⟨(),_, ?_,q⟩
 unfold Am.wrC
 simp only at hl ⊢
 obtain⟨v,a,b,e⟩:=T.set_N mem l c
 rw[BU hl]
 show T.rec (motive:=fun _=>R Unit) .none (fun a b d _ _=>R.some () (St.mk (.N a b d) next lim rd (notes l lim wr) cx)) (T.set mem l c)=R.some () (St.mk (T.set mem l c) next lim rd (notes l lim wr) cx)
 rw[e]
theorem Rx (a:Nat):Nat.beq a a=true:=Nat.beq_refl a
theorem W.rdV {b o:Nat}{v:Value}{Q:Value→St→Prop}(h:At s b o v)(q:Q v (s.rdN (b+o))):W (rdV ⟨b,o,none⟩) s Q:=by
 refine W.bind ?_
 rcases h with⟨h1,h2|h2⟩
 ·refine W.rdC h2 h1 (W.ofOpt (a:=v) ?_ q)
  show Bool.rec (motive:=fun _=>Option Value) none (some v) (Nat.beq b b)=_
  rw[Rx]
 ·refine W.rdC h2 h1 (W.ofOpt (a:=v) ?_ q)
  show Bool.rec (motive:=fun _=>Option Value) none (some v) (Nat.beq b b)=_
  rw[Rx]
theorem W.wrV {b o:Nat}{u v:Value}{Q:Unit→St→Prop}(h:Own s b o u)(hv:oneCell v=true)(q:Q () ((s.rdN (b+o)).wrN (b+o) (.C b v))):W (wrV ⟨b,o,none⟩ v) s Q:=by
 refine W.bind (W.rdC h.2 h.1 (W.chk ?_ (W.wrC h.1 q)))
 show(Nat.beq b b&&oneCell v)=true
 rw[Rx,hv]
 rfl
theorem W.fA {γ:Type}{a:Addr}{K:Addr→M γ}{Q:γ→St→Prop}(h:W (K a) s Q):W (fA a K) s Q:=by rw[CU];exact h
theorem W.fN {γ:Type}{n:Nat}{K:Nat→M γ}{Q:γ→St→Prop}(h:W (K n) s Q):W (fN n K) s Q:=by rw[AY];exact h
theorem W.rdL: ∀{l:List Value} {s:St} {b o:Nat} {Q:List Value→St→Prop},Row s b o l→
  (∀s1,s1.mem=s.mem→s1.next=s.next→Ext (fun x=>b+o≤x∧x<b+o+l.length) Non s s1→Q l s1)→W (rdL l.length ⟨b,o,none⟩) s Q
 |[],s,b,o,Q,_,q=>W.pure (q s rfl rfl (Ext.refl s))
 |v::l,s,b,o,Q,h,q=>by
  have hv:=h 0 v rfl
  show W (Am.fA (⟨b,o,none⟩:Addr) fun a=>M.bind (Am.rdV a) fun v=>M.bind (Am.rdL l.length ⟨a.block,Nat.succ a.off,a.spot⟩) fun l=>M.pure (v::l)) s Q
  refine W.fA (W.bind (W.rdV hv (W.bind (W.rdL (l:=l) (s:=s.rdN (b+(o+0))) (b:=b) (o:=o+1) (fun i x e=>(h.tail i x e).same rfl rfl) fun s1 h1 h2 h3=>W.pure (q s1 h1 h2 ?_)))))
  have e0:Ext (fun x=>b+o≤x∧x<b+o+(v::l).length) Non s (s.rdN (b+(o+0))):=Ext.rdN s _ fun _=>by simp
  obtain⟨d1,p1,p2⟩:=e0.rd
  obtain⟨d2,p3,p4⟩:=h3.rd
  obtain⟨d3,p5,p6⟩:=h3.wr
  refine⟨Nat.le_of_eq h2.symm,h3.lim,h3.cx,fun x _ _=>by rw[h1];rfl,⟨d2++d1,by rw[p3,p1,List.append_assoc],fun x hx=> ?_⟩,⟨d3,p5,p6⟩⟩
  rcases List.mem_append.1 hx with hx|hx
  ·have:=p4 x hx
   simp only[List.length_cons]
   exact⟨this.1,by omega,by omega⟩
  ·exact p2 x hx
end
section
variable {α β:Type}{s:St}
abbrev In (b o n:Nat):Nat→Prop:=fun x=>b+o≤x∧x<b+o+n
theorem wrLs: ∀{l:List Value} {s:St} {b o:Nat},(∀i,i<l.length→ ∃u,Own s b (o+i) u)→l.all oneCell=true→
  ∃s1,wrL l ⟨b,o,none⟩ s= .some () s1∧s1.next=s.next∧Ext (In b o l.length) (In b o l.length) s s1∧Ah s1 b o l
 |[],s,b,o,_,_=>⟨s,rfl,rfl,Ext.refl s,fun i v e=>by simp at e⟩
 |v::l,s,b,o,h,h1=>by
  rw[List.all_cons,Bool.and_eq_true]at h1
  obtain⟨u,hu⟩:=h 0 (by simp)
  obtain⟨a,s1,e1,rfl⟩: ∃a s1,wrV ⟨b,o,none⟩ v s= .some a s1∧s1=(s.rdN (b+o)).wrN (b+o) (.C b v):=W.wrV hu h1.1 rfl
  have x1:Ext (In b o (l.length+1)) (In b o (l.length+1)) s ((s.rdN (b+o)).wrN (b+o) (.C b v)):=by
   have a1:Ext (In b o (l.length+1)) (In b o (l.length+1)) s (s.rdN (b+o)):=Ext.rdN s _ fun _=>⟨Nat.le_refl _,by omega⟩
   have a2:Ext (In b o (l.length+1)) (In b o (l.length+1)) (s.rdN (b+o)) ((s.rdN (b+o)).wrN (b+o) (.C b v)):=Ext.wrN _ _ _ ⟨Nat.le_refl _,by omega⟩
   obtain⟨d1,p1,p2⟩:=a1.rd
   obtain⟨d2,p3,p4⟩:=a2.wr
   exact⟨Nat.le_refl _,rfl,rfl,fun x q1 q2=>a2.mem x q1 q2,⟨d1,p1,p2⟩,⟨d2,p3,p4⟩⟩
  have own: ∀i w,i≠0→Own s b (o+i) w→Own ((s.rdN (b+o)).wrN (b+o) (.C b v)) b (o+i) w:=fun i w hi hw=>⟨hw.1,by
   show T.get (T.set s.mem (b+o) (.C b v)) (b+(o+i))=_
   rw[T.get_set,if_neg (by omega)]
   exact hw.2⟩
  obtain⟨s2,e2,n2,x2,r2⟩:=wrLs (l:=l) (s:=(s.rdN (b+o)).wrN (b+o) (.C b v)) (b:=b) (o:=o+1) (fun i hi=>by
   obtain⟨w,hw⟩:=h (i+1) (by simpa using hi)
   rw[show o+1+i=o+(i+1) by omega]
   exact⟨w,own _ _ (by omega) hw⟩) h1.2
  have e3:wrL (v::l) ⟨b,o,none⟩ s= .some () s2:=by
   show Am.fA (⟨b,o,none⟩:Addr) (fun a=>M.bind (wrV a v) fun _=>wrL l ⟨a.block,Nat.succ a.off,a.spot⟩) s=_
   rw[CU]
   unfold M.bind
   rw[e1]
   exact e2
  refine⟨s2,e3,n2, ?_,fun i w e=> ?_⟩
  ·obtain⟨d1,p1,p2⟩:=x1.rd
   obtain⟨d2,p3,p4⟩:=x2.rd
   obtain⟨d3,p5,p6⟩:=x1.wr
   obtain⟨d4,p7,p8⟩:=x2.wr
   have sub: ∀x,In b (o+1) l.length x→In b o (l.length+1) x:=fun x hx=>⟨by have:=hx.1;omega,by have:=hx.2;omega⟩
   refine⟨Nat.le_of_eq n2.symm,x2.lim,x2.cx,fun x q1 q2=>(x2.mem x q1 fun y=>q2 (sub x y)).trans (x1.mem x q1 q2),⟨d2++d1,by rw[p3,p1,List.append_assoc],fun x hx=> ?_⟩,⟨d4++d3,by rw[p7,p5,List.append_assoc],fun x hx=> ?_⟩⟩
   ·rcases List.mem_append.1 hx with hx|hx
    ·exact⟨(p4 x hx).1,sub x (p4 x hx).2⟩
    ·exact p2 x hx
   ·rcases List.mem_append.1 hx with hx|hx
    ·exact⟨(p8 x hx).1,sub x (p8 x hx).2⟩
    ·exact p6 x hx
  ·cases i with
   |zero=>
    have:v=w:=by simpa using e
    subst this
    have o1:Own ((s.rdN (b+o)).wrN (b+o) (.C b v)) b o v:=⟨hu.1,by
     show T.get (T.set s.mem (b+o) (.C b v)) (b+o)=_
     rw[T.get_set,if_pos rfl]⟩
    exact o1.ext x2 fun y=>by have:=y.1;omega
   |succ i=>
    rw[show o+(i+1)=o+1+i by omega]
    exact r2 i w (by simpa using e)
theorem W.wrL {l:List Value}{b o:Nat}{Q:Unit→St→Prop}(h: ∀i,i<l.length→ ∃u,Own s b (o+i) u)(h1:l.all oneCell=true)
  (q: ∀s1,s1.next=s.next→Ext (In b o l.length) (In b o l.length) s s1→Ah s1 b o l→Q () s1):W (wrL l ⟨b,o,none⟩) s Q:=by
 obtain⟨s1,e,h2,h3,h4⟩:=wrLs h h1
 exact⟨(),s1,e,q s1 h2 h3 h4⟩
theorem Nl: ∀(vs:List Value) (b loc:Nat) (t:T Cell) (l:Nat),T.get (layL b vs loc t) l=if loc≤l∧l<loc+vs.length then(vs[l-loc]?).map (Cell.C b)else T.get t l
 |[],b,loc,t,l=>by
  rw[if_neg (by simp)]
  rfl
 |v::vs,b,loc,t,l=>by
  have e:layL b (v::vs) loc t=layL b vs (loc+1) (T.set t loc (.C b v)):=by
   show Am.fN loc (fun loc=>layL b vs (Nat.succ loc) (T.set t loc (.C b v)))=_
   rw[AY]
  rw[e,Nl vs b (loc+1),T.get_set]
  simp only[List.length_cons]
  by_cases h1:l=loc
  ·subst h1
   rw[if_neg (by omega),if_pos rfl,if_pos (by omega),Nat.sub_self]
   rfl
  ·by_cases h2:loc+1≤l∧l<loc+1+vs.length
   ·rw[if_pos h2,if_pos (by omega),show l-loc=(l-(loc+1))+1 by omega]
    rfl
   ·rw[if_neg h2,if_neg h1,if_neg (by omega)]
theorem Ey_ (vs:List Value)(s:St): ∃s1,newL vs s= .some s.next s1∧s1.next=s.next+vs.length+1∧Ext Non Non s s1∧Ah s1 s.next 0 vs:=by
 obtain⟨mem,next,lim,rd,wr,cx⟩:=s
 refine⟨⟨layL next vs next mem,next+vs.length+1,lim,rd,wr,cx⟩, ?_,rfl,⟨by simp only;omega,rfl,rfl,fun l hl _=> ?_,⟨[],rfl,fun _ h=>by cases h⟩,⟨[],rfl,fun _ h=>by cases h⟩⟩,fun i v e=> ?_⟩
 ·show Am.fN next (fun b=>Am.fN (Nat.succ (Nat.add b vs.length)) fun n=>R.some b (St.mk (layL b vs b mem) n lim rd wr cx))=_
  rw[AY,AY]
  rfl
 ·simp only at hl ⊢
  rw[Nl,if_neg (by omega)]
 ·have hi:=(List.getElem?_eq_some_iff.1 e).1
  refine⟨by simp only;omega, ?_⟩
  simp only
  rw[Nl,if_pos (by omega),show next+(0+i)-next=i by omega,e]
  rfl
theorem W.newL {vs:List Value}{Q:Nat→St→Prop}(q: ∀s1,s1.next=s.next+vs.length+1→Ext Non Non s s1→Ah s1 s.next 0 vs→Q s.next s1):W (newL vs) s Q:=by
 obtain⟨s1,e,h1,h2,h3⟩:=Ey_ vs s
 exact⟨_,s1,e,q s1 h1 h2 h3⟩
theorem W.run {E:Env}{n:Nat}{af:AF}{Q:Value×FrameMode→St→Prop}(h:W (EU E (AJ E (runF E n)) (Ca (runF E n)) (Ey E (runF E n)) af) s fun p s1=>W (Fv (runF E n) p) s1 Q):W (runF E (n+1) af) s Q:=
 W.bind (m:=EU E (AJ E (runF E n)) (Ca (runF E n)) (Ey E (runF E n)) af) (f:=Fv (runF E n)) h
theorem W.code {E:Env}{n f nt g:Nat}{tm:T Value}{todo k:List Item}{c:Code}{ki:CallKind}{ro:Option Nat}{Q:Value×FrameMode→St→Prop}(ht:skim 64 todo= .code c::k)
  (h:W (codeF E (AJ E (runF E n)) (Ca (runF E n)) ⟨f,nt,g,tm, .code c::k, .run,ki,ro⟩ k c) s fun p s1=>W (Fv (runF E n) p) s1 Q):W (runF E (n+1) ⟨f,nt,g,tm,todo, .run,ki,ro⟩) s Q:=by
 refine W.run ?_
 show W (noP (Ew E (AJ E (runF E n)) (Ca (runF E n)) ⟨f,nt,g,tm,skim 64 todo, .run,ki,ro⟩ (skim 64 todo))) s _
 rw[ht]
 exact W.np h
theorem W.go {E:Env}{n:Nat}{af:AF}{Q:Value×FrameMode→St→Prop}(h:W (runF E n af) s Q):W (Fv (runF E n) (.go af)) s Q:=h
def Tm (tm:T Value)(l:List (Nat×Value)):Prop:= ∀p∈l,T.get tm p.1=some p.2
theorem Ui {E:Env}{tm:T Value}: ∀{rs:List Nat} {vs:List Value} {s:St},rs.map (T.get tm)=vs.map some→resL E tm (rs.map .tmp) s= .some vs s
 |[],[],_,_=>rfl
 |[],_::_,_,h=>by simp at h
 |_::_,[],_,h=>by simp at h
 |r::rs,v::vs,s,h=>by
  simp only[List.map_cons,List.cons.injEq]at h
  show M.bind (resV E tm (.tmp r)) (fun v=>M.bind (resL E tm (rs.map .tmp)) fun l=>M.pure (v::l)) s=_
  have e1:resV E tm (.tmp r) s= .some v s:=by
   show M.ofOpt (tm.get r) s=_
   rw[h.1]
   rfl
  rw[Bw e1,Bw (Ui h.2)]
  rfl
theorem W.ret {E:Env}{n f nt g:Nat}{tm:T Value}{todo:List Item}{ki:CallKind}{fn:Func}{rs:List Nat}{vs:List Value}{up:Option FrameMode}{Q:Value×FrameMode→St→Prop}(ht:(∃k,skim 64 todo= .code .ret::k)∨skim 64 todo=[])
  (hf:E.fn.get f=some fn) (hr:fn.results.toList=rs.map .tmp) (hv:rs.map (T.get tm)=vs.map some) (hc:s.cx= .cx up (some [])) (q:Q (tupV vs,up.getD .run) s):W (runF E (n+2) ⟨f,nt,g,tm,todo, .run,ki,none⟩) s Q:=by
 have h1:W (runF E (n+1) ⟨f,nt,g,tm,skim 64 todo, .returning,ki,none⟩) s Q:=by
  refine W.run ?_
  show W (DT E (Ey E (runF E n)) ⟨f,nt,g,tm,skim 64 todo, .returning,ki,none⟩) s _
  refine W.bind (W.of (a:=s.cx) (s':=s) (by obtain⟨mem,next,lim,rd,wr,cx⟩:=s;rfl) ?_)
  rw[hc]
  show W (outF E ⟨f,nt,g,tm,skim 64 todo, .returning,ki,none⟩ up) s _
  refine W.on hf (W.bind (W.of (a:=tupV vs) (s':=s) ?_ (W.pure (W.pure q))))
  show M.bind (resL E tm fn.results.toList) (fun l=>M.pure (tupV l)) s=_
  rw[hr,Bw (Ui hv)]
  rfl
 rcases ht with⟨k,ht⟩|ht
 ·refine W.code ht ?_
  rw[ht]at h1
  exact W.pure h1
 ·refine W.run ?_
  show W (noP (Ew E (AJ E (runF E (n+1))) (Ca (runF E (n+1))) ⟨f,nt,g,tm,skim 64 todo, .run,ki,none⟩ (skim 64 todo))) s _
  rw[ht]at h1 ⊢
  exact W.np (W.pure h1)
theorem W.within {c:Ctx}{m:M α}{Q:α→St→Prop}(h:W m (s.cxN c) fun a s1=>Q a (s1.cxN s.cx)):W (within c m) s Q:=by
 obtain⟨a,s1,e,q⟩:=h
 obtain⟨mem,next,lim,rd,wr,cx⟩:=s
 obtain⟨mem1,next1,lim1,rd1,wr1,cx1⟩:=s1
 refine⟨a,_, ?_,q⟩
 have e':m ⟨mem,next,lim,rd,wr,c⟩= .some a ⟨mem1,next1,lim1,rd1,wr1,cx1⟩:=e
 unfold Am.within
 simp only[e']
 rfl
theorem W.call {E:Env}{ih:AF→M (Value×FrameMode)}{f nt g:Nat}{fn:Func}{body:Code}{args:List Value}{Q:Value→St→Prop}(ho:E.orc.get f=none)(hx:E.ext.get f=none)(hf:E.fn.get f=some fn)(hb:fn.body=some body)
  (hn:fn.ntmps=nt) (hg:BE fn=g) (ha:args.length≤nt) (h:W (ih ⟨f,nt,g,EJ g args 0 .E,[.code body], .run, .normal,none⟩) (s.cxN cxN) fun p s1=>Q p.1 (s1.cxN s.cx)):W (AJ E ih f args) s Q:=by
 unfold AJ
 rw[ho,hx]
 refine W.within (W.bind (W.bind ?_))
 have e:CD E f args .normal (s.cxN cxN)= .some ⟨f,nt,g,EJ g args 0 .E,[.code body], .run, .normal,none⟩ (s.cxN cxN):=by
  unfold CD
  rw[hf]
  show M.on fn.body (fun c=>M.chk (Nat.ble args.length fn.ntmps) (Am.fN fn.ntmps fun n=>Am.fN (BE fn) fun g=>M.pure (⟨f,n,g,EJ g args 0 .E,[.code c], .run, .normal,none⟩:AF))) _=_
  rw[hb]
  show M.chk (Nat.ble args.length fn.ntmps) (Am.fN fn.ntmps fun n=>Am.fN (BE fn) fun g=>M.pure (⟨f,n,g,EJ g args 0 .E,[.code body], .run, .normal,none⟩:AF)) _=_
  rw[show Nat.ble args.length fn.ntmps=true from Nat.ble_eq_true_of_le (by rw[hn];exact ha),AY,AY,hn,hg]
  rfl
 exact W.of e (h.mono fun p s1 q=>W.pure q)
end
section
variable {α β:Type}{s:St}
theorem BB {n:Int}(h1: -9223372036854775808≤n)(h2:n≤9223372036854775807):wrap64 n=n:=by
 rw[Lz]
 have e:IntKind.i64.wrap n=if n%18446744073709551616≥9223372036854775808 then n%18446744073709551616-18446744073709551616 else n%18446744073709551616:=by
  unfold IntKind.wrap
  simp[IntKind.bits,IntKind.signed]
 rw[e]
 by_cases h:n%18446744073709551616≥9223372036854775808
 ·rw[if_pos h];omega
 ·rw[if_neg h];omega
theorem AB_ (n:Int)(s:St):rI n s= .some (.int .i64 (wrap64 n)) s:=by unfold rI;rw[Ea]
theorem Fx (b:Bool)(s:St):rB b s= .some (.bool b) s:=by cases b<;>rfl
theorem EK (f:Int→Int→St→R Value)(slow:Value→Value→M Value)(a b:Int):int2 f slow (.int .i64 a) (.int .i64 b) s=f a b s:=rfl
theorem VF_ (slow:Value→Value→M Value)(a b:Int):int2 (fun a b s=>rI (addI a b) s) slow (.int .i64 a) (.int .i64 b) s= .some (.int .i64 (wrap64 (a+b))) s:=by rw[EK,AB_,SU]
theorem Ky_ (slow:Value→Value→M Value)(a b:Int):int2 (fun a b s=>rI (subI a b) s) slow (.int .i64 a) (.int .i64 b) s= .some (.int .i64 (wrap64 (a-b))) s:=by rw[EK,AB_,VP]
theorem Ca_ (slow:Value→Value→M Value)(a b:Int):int2 (fun a b s=>rB (ltI a b) s) slow (.int .i64 a) (.int .i64 b) s= .some (.bool (decide (a<b))) s:=by rw[EK,Fx,H9]
theorem RU_ (slow:Value→Value→M Value)(a b:Int):int2 (fun a b s=>rB (ltI b a) s) slow (.int .i64 a) (.int .i64 b) s= .some (.bool (decide (b<a))) s:=by rw[EK,Fx,H9]
theorem BK_ (slow:Value→Value→M Value)(a b:Int):int2 (fun a b s=>rB (!ltI b a) s) slow (.int .i64 a) (.int .i64 b) s= .some (.bool (decide (a≤b))) s:=by
 rw[EK,Fx,H9]
 congr 2
 by_cases h:b<a
 ·simp[h]
 ·simp[h];omega
theorem Qw_ (slow:Value→Value→M Value)(a b:Int):int2 (fun a b s=>rB (!ltI a b) s) slow (.int .i64 a) (.int .i64 b) s= .some (.bool (decide (b≤a))) s:=by
 rw[EK,Fx,H9]
 congr 2
 by_cases h:a<b
 ·simp[h]
 ·simp[h];omega
theorem Ij_ (slow:Value→Value→M Value)(a b:Int):int2 (fun a b s=>rB (eqI a b) s) slow (.int .i64 a) (.int .i64 b) s= .some (.bool (decide (a=b))) s:=by rw[EK,Fx,QJ]
theorem Wr_ (slow:Value→Value→M Value)(a b:Int):int2 (fun a b s=>rB (!eqI a b) s) slow (.int .i64 a) (.int .i64 b) s= .some (.bool (!decide (a=b))) s:=by rw[EK,Fx,QJ]
def setF {γ:Type}(d:Nat)(v:Value)(tm:T Value)(K:T Value→M γ):M γ:=fun s=>T.rec (motive:=fun _=>R γ) .none (fun a b c _ _=>K (.N a b c) s) (T.set tm d v)
def setT {γ:Type}(d:Nat)(v:Value)(tm:T Value)(K:T Value→M γ):M γ:=T.rec (motive:=fun _=>M γ) M.fail (fun a b c _ _=>K (.N a b c)) (T.set tm d v)
theorem W.setF {γ:Type}{d:Nat}{v:Value}{tm:T Value}{K:T Value→M γ}{Q:γ→St→Prop}(h:W (K (T.set tm d v)) s Q):W (setF d v tm K) s Q:=by
 obtain⟨x,a,b,e⟩:=T.set_N tm d v
 unfold Am.setF
 rw[e]at h ⊢
 exact h
theorem W.setT {γ:Type}{d:Nat}{v:Value}{tm:T Value}{K:T Value→M γ}{Q:γ→St→Prop}(h:W (K (T.set tm d v)) s Q):W (setT d v tm K) s Q:=by
 obtain⟨x,a,b,e⟩:=T.set_N tm d v
 unfold Am.setT
 rw[e]at h ⊢
 exact h
def J4 (m:M ((Rho×T Value)×List OpLog))(bef:List Nat):M (Rho×T Value):=fun s=>St.rec (motive:=fun _=>R (Rho×T Value)) (fun mem next lim rd wr cx=>
 R.rec (motive:=fun _=>R (Rho×T Value)) .none (fun p s=>Prod.rec (motive:=fun _=>R (Rho×T Value)) (fun q l=>St.rec (motive:=fun _=>R (Rho×T Value)) (fun mem' next' _ _ _ _=>
  Bool.rec (motive:=fun _=>R (Rho×T Value)) .none (.some q (St.mk mem' next' lim (rdsL lim l rd) (wrsL lim l wr) cx)) (Cu next l.reverse bef)) s) p) (fun _ _=> .none)
  (m (St.mk mem next (nat_lit 0) [] [] .no))) s
def dSt (mem:T Cell)(next:Nat):St:=⟨mem,next,0,[],[], .no⟩
def oSt (mem:T Cell)(next:Nat):St:=⟨mem,next,next,[],[], .no⟩
theorem W.draw {m:M ((Rho×T Value)×List OpLog)}{bef:List Nat}{Q:Rho×T Value→St→Prop}
  (h:W m (dSt s.mem s.next) fun p s1=>Cu s.next p.2.reverse bef=true∧Q p.1 ⟨s1.mem,s1.next,s.lim,rdsL s.lim p.2 s.rd,wrsL s.lim p.2 s.wr,s.cx⟩):W (J4 m bef) s Q:=by
 obtain⟨⟨q,l⟩,s1,e,ha,hq⟩:=h
 obtain⟨mem,next,lim,rd,wr,cx⟩:=s
 obtain⟨mem1,next1,lim1,rd1,wr1,cx1⟩:=s1
 refine⟨q,_, ?_,hq⟩
 have e':m ⟨mem,next,0,[],[], .no⟩= .some (q,l) ⟨mem1,next1,lim1,rd1,wr1,cx1⟩:=e
 have ha':Cu next l.reverse bef=true:=ha
 unfold J4
 simp only[e',ha']
theorem W.dop {m:M α}{f:α×OpLog→M β}{mem:T Cell}{next:Nat}{Q:β→St→Prop}
  (h:W m (oSt mem next) fun v s1=> ∃F,Ext F Non (oSt mem next) s1∧ ∀rd,(∀x∈rd,x<next∧F x)→W (f (v,⟨next,s1.next,rd,[]⟩)) (dSt s1.mem s1.next) Q):W (M.bind (apartO m) f) (dSt mem next) Q:=by
 obtain⟨a,s1,e,F,x,q⟩:=h
 obtain⟨mem1,next1,lim1,rd1,wr1,cx1⟩:=s1
 have hcx:cx1= .no:=x.cx
 obtain⟨d1,p1,p2⟩:=x.rd
 obtain⟨d2,p3,p4⟩:=x.wr
 have e1:rd1=d1:=by simpa [oSt]using p1
 have e2:wr1=[]:=by
  have:wr1=d2:=by simpa [oSt]using p3
  rw[this]
  cases d2 with
  |nil=>rfl
  |cons y l=>exact(p4 y (by simp)).2.elim
 subst hcx
 subst e2
 refine W.bind (W.of (a:=(a,⟨next,next1,rd1,[]⟩)) (s':=dSt mem1 next1) ?_ (q rd1 fun y hy=>p2 y (by rw[←e1];exact hy)))
 have e':m ⟨mem,next,next,[],[], .no⟩= .some a ⟨mem1,next1,lim1,rd1,[], .no⟩:=e
 show Am.apartO m ⟨mem,next,0,[],[], .no⟩=_
 unfold Am.apartO
 simp only[e']
 rfl
theorem Rr (n0:Nat)(l acc:List Nat): ∀x,x∈BV n0 l acc→(x∈l∧n0≤x)∨x∈acc:=by
 induction l with
 |nil=>exact fun x h=> .inr h
 |cons a l ih=>
  intro x h
  have h':x∈Bool.rec (motive:=fun _=>List Nat) (BV n0 l acc) (a::BV n0 l acc) (Nat.ble n0 a):=h
  cases e:Nat.ble n0 a with
  |false=>
   rw[e]at h'
   rcases ih x h' with⟨h1,h2⟩|h1
   ·exact .inl ⟨by simp[h1],h2⟩
   ·exact .inr h1
  |true=>
   rw[e]at h'
   rcases List.mem_cons.1 h' with rfl|h'
   ·exact .inl ⟨by simp,Nat.le_of_ble_eq_true e⟩
   ·rcases ih x h' with⟨h1,h2⟩|h1
    ·exact .inl ⟨by simp[h1],h2⟩
    ·exact .inr h1
theorem R5 (lo hi:Nat)(l:List Nat)(h: ∀x∈l,¬(lo≤x∧x<hi)):Dr lo hi l=false:=by
 induction l with
 |nil=>rfl
 |cons a l ih=>
  have i:=ih fun x hx=>h x (by simp[hx])
  show Bool.rec (motive:=fun _=>Bool) (Dr lo hi l) (Bool.rec (motive:=fun _=>Bool) (Dr lo hi l) true (Nat.blt a hi)) (Nat.ble lo a)=false
  cases e1:Nat.ble lo a with
  |false=>exact i
  |true=>
   cases e2:Nat.blt a hi with
   |false=>exact i
   |true=>exact absurd ⟨Nat.le_of_ble_eq_true e1,BR e2⟩ (h a (by simp))
theorem X2 (bj:Nat)(news:List Nat): ∀(acc:List OpLog) (i:Nat),(∀k a,acc[k]?=some a→bj.testBit (i+k)=true∨ ∀x∈news,¬(a.lo≤x∧x<a.hi))→Eg bj news acc i=true
 |[],_,_=>rfl
 |a::acc,i,h=>by
  show((bj.testBit i|| !Dr a.lo a.hi news)&&Eg bj news acc (Nat.succ i))=true
  rw[Bool.and_eq_true]
  constructor
  ·rcases h 0 a rfl with h|h
   ·rw[Nat.add_zero]at h;rw[h];rfl
   ·rw[R5 _ _ _ h];simp
  ·refine X2 bj news acc (i+1) fun k b hk=> ?_
   have:=h (k+1) b (by simpa using hk)
   rwa [show i+(k+1)=i+1+k by omega]at this
theorem Vj (n0:Nat)(all:List OpLog): ∀(l:List OpLog) (bef:List Nat) (j:Nat),l.length≤bef.length→(∀(k:Nat) (m:OpLog) (b:Nat),l[k]?=some m→bef[k]?=some b→m.wr=[]∧ ∀(i:Nat) (a:OpLog),i<j+k→all[i]?=some a→b.testBit i=true∨ ∀x∈m.rd,n0≤x→ ¬(a.lo≤x∧x<a.hi))→Fy n0 all l bef j=true
 |[],_,_,_,_=>rfl
 |_::_,[],_,h,_=>by simp at h
 |m::l,b::bef,j,hl,h=>by
  show(Gw b (BV n0 m.rd (BV n0 m.wr [])) (all.take j)&&Fy n0 all l bef (Nat.succ j))=true
  rw[Bool.and_eq_true]
  obtain⟨h1,h2⟩:=h 0 m b rfl rfl
  constructor
  ·have hn: ∀x,x∈BV n0 m.rd (BV n0 m.wr [])→x∈m.rd∧n0≤x:=fun x hx=>by
    rw[h1]at hx
    rcases Rr _ _ _ x hx with h|h
    ·exact h
    ·cases h
   have hj:Eg b (BV n0 m.rd (BV n0 m.wr [])) (all.take j) 0=true:=by
    refine X2 _ _ _ _ fun k a hk=> ?_
    rw[List.getElem?_take]at hk
    split at hk
    ·rename_i hkj
     rw[Nat.zero_add]
     rcases h2 k a (by omega) hk with q|q
     ·exact .inl q
     ·exact .inr fun x hx=>q x (hn x hx).1 (hn x hx).2
    ·cases hk
   unfold Gw
   generalize BV n0 m.rd (BV n0 m.wr [])=z at hj
   cases z with
   |nil=>rfl
   |cons x z=>exact hj
  ·refine Vj n0 all l bef (j+1) (by simpa using hl) fun k m b e1 e2=> ?_
   obtain⟨h3,h4⟩:=h (k+1) m b (by simpa using e1) (by simpa using e2)
   exact⟨h3,fun i a hi=>h4 i a (by omega)⟩
theorem Bb_ {n0:Nat}{l:List OpLog}{bef:List Nat}(hl:l.length≤bef.length)(h: ∀(k:Nat) (m:OpLog) (b:Nat),l[k]?=some m→bef[k]?=some b→m.wr=[]∧ ∀(i:Nat) (a:OpLog),i<k→l[i]?=some a→b.testBit i=true∨ ∀x∈m.rd,n0≤x→ ¬(a.lo≤x∧x<a.hi))(hw: ∀m∈l,m.wr=[]):Cu n0 l bef=true:=by
 unfold Cu
 rw[Bool.and_eq_true]
 refine⟨Vj n0 l l bef 0 hl fun k m b e1 e2=> ?_, ?_⟩
 ·obtain⟨h1,h2⟩:=h k m b e1 e2
  exact⟨h1,fun i a hi=>h2 i a (by omega)⟩
 ·rw[Bool.or_eq_true]
  left
  unfold S6
  rw[List.all_eq_true]
  intro m hm
  rw[hw m hm]
  rfl
theorem Vp (lim:Nat)(l base:List Nat): ∃d,addL lim l base=d++base∧ ∀x∈d,x<lim∧x∈l:=by
 induction l with
 |nil=>exact⟨[],rfl,fun _ h=>by cases h⟩
 |cons a l ih=>
  obtain⟨d,e,q⟩:=ih
  obtain⟨d2,e2,q2⟩:=Gu a lim (addL lim l base)
  refine⟨d2++d, ?_,fun x hx=> ?_⟩
  ·show notes a lim (addL lim l base)=_
   rw[e2,e,List.append_assoc]
  ·rcases List.mem_append.1 hx with hx|hx
   ·exact⟨(q2 x hx).1,by simp[(q2 x hx).2]⟩
   ·exact⟨(q x hx).1,by simp[(q x hx).2]⟩
theorem Y8 (lim:Nat)(l:List OpLog)(base:List Nat): ∃d,rdsL lim l base=d++base∧ ∀x∈d,x<lim∧ ∃m∈l,x∈m.rd:=by
 induction l with
 |nil=>exact⟨[],rfl,fun _ h=>by cases h⟩
 |cons m l ih=>
  obtain⟨d,e,q⟩:=ih
  obtain⟨d2,e2,q2⟩:=Vp lim m.rd (rdsL lim l base)
  refine⟨d2++d, ?_,fun x hx=> ?_⟩
  ·show addL lim m.rd (rdsL lim l base)=_
   rw[e2,e,List.append_assoc]
  ·rcases List.mem_append.1 hx with hx|hx
   ·exact⟨(q2 x hx).1,m,by simp,(q2 x hx).2⟩
   ·obtain⟨h1,m',h2,h3⟩:=q x hx
    exact⟨h1,m',by simp[h2],h3⟩
theorem Cl_ (lim:Nat)(l:List OpLog)(base:List Nat)(h: ∀m∈l,m.wr=[]):wrsL lim l base=base:=by
 induction l with
 |nil=>rfl
 |cons m l ih=>
  show addL lim m.wr (wrsL lim l base)=base
  rw[h m (by simp),ih fun x hx=>h x (by simp[hx])]
  rfl
theorem Ext.draw {F:Nat→Prop}{mem':T Cell}{next':Nat}{l:List OpLog}(h1:s.next≤next')(h2: ∀x,x<s.next→T.get mem' x=T.get s.mem x)(hw: ∀m∈l,m.wr=[])(hr: ∀m∈l,∀x∈m.rd,x<s.lim→F x):
  Ext F Non s ⟨mem',next',s.lim,rdsL s.lim l s.rd,wrsL s.lim l s.wr,s.cx⟩:=by
 obtain⟨d,e,q⟩:=Y8 s.lim l s.rd
 exact⟨h1,rfl,rfl,fun x hx _=>h2 x hx,⟨d,e,fun x hx=>by obtain⟨a,m,b,c⟩:=q x hx;exact⟨a,hr m b x c a⟩⟩,⟨[],Cl_ _ _ _ hw,fun _ h=>by cases h⟩⟩
end
section
variable {α β:Type}{s:St}
def oS (x:Option α)(f:α→M β):M β:=fun s=>Option.rec (motive:=fun _=>R β) .none (fun a=>f a s) x
theorem W.oS {x:Option α}{a:α}{f:α→M β}{Q:β→St→Prop}(e:x=some a)(h:W (f a) s Q):W (oS x f) s Q:=by subst e;exact h
def seqO (l:List (Option Value)):Option (List Value):=List.rec (motive:=fun _=>Option (List Value)) (some []) (fun x _ ih=>onO x fun v=>onO ih fun l=>some (v::l)) l
def seqP (l:List (Nat×Option Value)):Option (List (Nat×Value)):=List.rec (motive:=fun _=>Option (List (Nat×Value))) (some []) (fun x _ ih=>onO x.2 fun v=>onO ih fun l=>some ((x.1,v)::l)) l
def Cl.get {γ:Type}(c:Cl γ):γ:=Cl.rec (motive:=fun _=>γ) (fun f=>f) c
def hdC (l:List Item):Code:=match l with| .code c::_=>c|_=> .skip
def dsC (c:Code):List Nat:=match c with| .region _ ops _=>dstL ops.toList|_=>[]
def brT (l:List Item):List Item:=match l with| .code (.cond _ a _)::k=> .code a::k|_=>[]
def brF (l:List Item):List Item:=match l with| .code (.cond _ _ b)::k=> .code b::k|_=>[]
def BO (l:List Item):Option Nat:=match l with| .code (.cond (.tmp t) _ _)::_=>some t|_=>none
theorem W.reg {E:Env}{n f nt g:Nat}{tm:T Value}{T P:List Item}{ki:CallKind}{ro:Option Nat}{nice:Env→Aa→Aa→Am.T Value→M (Am.T Value)}{Q:Value×FrameMode→St→Prop}(ht:skim 64 T=P)(hP:P= .code (hdC P)::P.tail)
  (he: ∀(E:Env) (call round:Aa) (td k:List Item) (ki:CallKind) (ro:Option Nat) (tm:Am.T Value) (s:St),codeF E call round ⟨f,nt,g,tm,td, .run,ki,ro⟩ k (hdC P) s=regF call round ⟨f,nt,g,tm,td, .run,ki,ro⟩ (dsC (hdC P)) (fun call round _ tm=>nice E call round tm) k s)
  (hn:0<n) (h:W (nice E (AJ E (runF E (n-1))) (Ca (runF E (n-1))) tm) s fun tm s1=>W (runF E (n-1) ⟨f,nt,g,tm,P.tail, .run,ki,ro⟩) s1 Q):W (runF E n ⟨f,nt,g,tm,T, .run,ki,ro⟩) s Q:=by
 obtain⟨m,rfl⟩: ∃m,n=m+1:=⟨n-1,by omega⟩
 rw[hP]at ht
 refine W.code ht (W.cast (he E _ _ _ _ _ _ _ _) ?_)
 rw[Nat.add_sub_cancel]at h
 obtain⟨tm',s1,e,hq⟩:=h
 refine⟨.go ⟨f,nt,g,tm',P.tail, .run,ki,ro⟩,s1, ?_,hq⟩
 unfold regF
 simp only[e]
 rfl
theorem W.cond {E:Env}{n f nt g t:Nat}{tm:T Value}{T P:List Item}{ki:CallKind}{ro:Option Nat}{v:Bool}{Q:Value×FrameMode→St→Prop}(ht:skim 64 T=P)(hx:BO P=some t)(hv:Am.T.get tm t=some (.bool v))(hn:0<n)
  (h1:v=true→W (runF E (n-1) ⟨f,nt,g,tm,brT P, .run,ki,ro⟩) s Q) (h2:v=false→W (runF E (n-1) ⟨f,nt,g,tm,brF P, .run,ki,ro⟩) s Q):W (runF E n ⟨f,nt,g,tm,T, .run,ki,ro⟩) s Q:=by
 obtain⟨m,rfl⟩: ∃m,n=m+1:=⟨n-1,by omega⟩
 rw[Nat.add_sub_cancel]at h1 h2
 unfold BO at hx
 split at hx
 ·rename_i t' a b k
  cases hx
  refine W.code ht ?_
  show W (M.on (Am.T.get tm t) (IV ⟨f,nt,g,tm, .code (.cond (.tmp t) a b)::k, .run,ki,ro⟩ a b k)) s _
  refine W.on hv ?_
  cases v with
  |true=>exact W.pure (h1 rfl)
  |false=>exact W.pure (h2 rfl)
 ·cases hx
structure RegEq (f nt g:Nat)(P:List Item)(nice:Env→Aa→Aa→T Value→M (T Value)):Prop where
 hd:P= .code (hdC P)::P.tail
 eq: ∀(E:Env) (call round:Aa) (td k:List Item) (ki:CallKind) (ro:Option Nat) (tm:T Value) (s:St),codeF E call round ⟨f,nt,g,tm,td, .run,ki,ro⟩ k (hdC P) s=regF call round ⟨f,nt,g,tm,td, .run,ki,ro⟩ (dsC (hdC P)) (fun call round _ tm=>nice E call round tm) k s
theorem RegEq.w {E:Env}{n f nt g:Nat}{tm:T Value}{T P:List Item}{ki:CallKind}{ro:Option Nat}{nice:Env→Aa→Aa→Am.T Value→M (Am.T Value)}{Q:Value×FrameMode→St→Prop}(q:RegEq f nt g P nice)(ht:skim 64 T=P)(hn:0<n)
 (h:W (nice E (AJ E (runF E (n-1))) (Ca (runF E (n-1))) tm) s fun tm s1=>W (runF E (n-1) ⟨f,nt,g,tm,P.tail, .run,ki,ro⟩) s1 Q):W (runF E n ⟨f,nt,g,tm,T, .run,ki,ro⟩) s Q:=W.reg ht q.hd q.eq hn h
def befC (c:Code):List Nat:=match c with| .region _ ops _=>(Region.before ops).toList|_=>[]
def CH (E:Env)(g n:Nat)(c:Code):List COp:=match c with
 | .region _ ops _=>(match Cm E g n ops.toList ops.toList []with|some l=>E4 l (C2 l.length (Region.before ops).toList)|none=>[])
 |_=>[]
theorem W.regD {E:Env}{n f nt g:Nat}{tm:T Value}{T P:List Item}{ki:CallKind}{ro:Option Nat}{nice:Env→Aa→Aa→Am.T Value→M ((Rho×Am.T Value)×List OpLog)}{Q:Value×FrameMode→St→Prop}(ht:skim 64 T=P)(hP:P= .code (hdC P)::P.tail)
  (he: ∀(E:Env) (call round:Aa) (td k:List Item) (ki:CallKind) (ro:Option Nat) (tm:Am.T Value) (s:St),codeF E call round ⟨f,nt,g,tm,td, .run,ki,ro⟩ k (hdC P) s=M.bind (J4 (nice E call round tm) (befC (hdC P))) (endE call round ⟨f,nt,g,tm,td, .run,ki,ro⟩ (CH E g nt (hdC P)) (dsC (hdC P)) k) s)
  (hn:0<n) {bef:List Nat} (hb:befC (hdC P)=bef) (h:W (nice E (AJ E (runF E (n-1))) (Ca (runF E (n-1))) tm) (dSt s.mem s.next) fun p s1=>Cu s.next p.2.reverse bef=true∧
   W (BM (AJ E (runF E (n-1))) (Ca (runF E (n-1))) (CH E g nt (hdC P)) p.1.1 p.1.2) ⟨s1.mem,s1.next,s.lim,rdsL s.lim p.2 s.rd,wrsL s.lim p.2 s.wr,s.cx⟩ fun tm s1=>W (runF E (n-1) ⟨f,nt,g,tm,P.tail, .run,ki,ro⟩) s1 Q):W (runF E n ⟨f,nt,g,tm,T, .run,ki,ro⟩) s Q:=by
 obtain⟨m,rfl⟩: ∃m,n=m+1:=⟨n-1,by omega⟩
 rw[hP]at ht
 rw[Nat.add_sub_cancel]at h
 refine W.code ht (W.cast (he E _ _ _ _ _ _ _ _) (W.bind (W.draw ?_)))
 rw[hb]
 refine h.mono fun p s1 q=>⟨q.1, ?_⟩
 obtain⟨tm',s2,e,hq⟩:=q.2
 refine⟨.go ⟨f,nt,g,tm',P.tail, .run,ki,ro⟩,s2, ?_,hq⟩
 unfold endE
 simp only[e]
 rfl
theorem W.dop0 {m:M α}{f:α×OpLog→M β}{mem:T Cell}{next:Nat}{Q:β→St→Prop}(h:W m (oSt mem next) fun v s1=>s1=oSt mem next∧W (f (v,⟨next,next,[],[]⟩)) (dSt mem next) Q):W (M.bind (apartO m) f) (dSt mem next) Q:=by
 refine W.dop (h.mono fun v s1 q=>⟨Non, ?_,fun rd hr=> ?_⟩)
 ·rw[q.1];exact Ext.refl _
 ·have:rd=[]:=by
   cases rd with
   |nil=>rfl
   |cons x l=>exact(hr x (by simp)).2.elim
  rw[this,q.1]
  exact q.2
structure DrawEq (f nt g:Nat)(P:List Item)(bef:List Nat)(nice:Env→Aa→Aa→T Value→M ((Rho×T Value)×List OpLog)):Prop where
 hd:P= .code (hdC P)::P.tail
 bef:befC (hdC P)=bef
 eq: ∀(E:Env) (call round:Aa) (td k:List Item) (ki:CallKind) (ro:Option Nat) (tm:T Value) (s:St),codeF E call round ⟨f,nt,g,tm,td, .run,ki,ro⟩ k (hdC P) s=M.bind (J4 (nice E call round tm) (befC (hdC P))) (endE call round ⟨f,nt,g,tm,td, .run,ki,ro⟩ (CH E g nt (hdC P)) (dsC (hdC P)) k) s
theorem DrawEq.w {E:Env}{n f nt g:Nat}{tm:T Value}{T P:List Item}{ki:CallKind}{ro:Option Nat}{bef:List Nat}{nice:Env→Aa→Aa→Am.T Value→M ((Rho×Am.T Value)×List OpLog)}{Q:Value×FrameMode→St→Prop}(q:DrawEq f nt g P bef nice)(ht:skim 64 T=P)(hn:0<n)
 (h:W (nice E (AJ E (runF E (n-1))) (Ca (runF E (n-1))) tm) (dSt s.mem s.next) fun p s1=>Cu s.next p.2.reverse bef=true∧
  W (BM (AJ E (runF E (n-1))) (Ca (runF E (n-1))) (CH E g nt (hdC P)) p.1.1 p.1.2) ⟨s1.mem,s1.next,s.lim,rdsL s.lim p.2 s.rd,wrsL s.lim p.2 s.wr,s.cx⟩ fun tm s1=>W (runF E (n-1) ⟨f,nt,g,tm,P.tail, .run,ki,ro⟩) s1 Q):W (runF E n ⟨f,nt,g,tm,T, .run,ki,ro⟩) s Q:=W.regD ht q.hd q.eq hn q.bef h
def mv {γ:Type}(x:Option Value)(K:Value→M γ):M γ:=M.bind (oS x fun a=>M.pure a) K
end
section
variable {α β:Type}{s:St}
theorem By {m:M α}{Q:α→St→Prop}{a:α}{s':St}(e:m s= .some a s'):W m s Q=Q a s':=propext ⟨fun⟨b,s1,e1,q⟩=>by rw[e]at e1;cases e1;exact q,fun q=>⟨a,s',e,q⟩⟩
theorem Ac (m:M α)(f:α→M β)(Q:β→St→Prop):W (M.bind m f) s Q=W m s fun a s1=>W (f a) s1 Q:=propext ⟨fun⟨b,s2,e,q⟩=>by
 obtain⟨a,s1,e1,e2⟩:=bind_some e
 exact⟨a,s1,e1,b,s2,e2,q⟩,W.bind⟩
theorem Ab (a:α)(Q:α→St→Prop):W (M.pure a) s Q=Q a s:=By rfl
theorem W_mv {γ:Type}(a:Value)(K:Value→M γ)(Q:γ→St→Prop):W (mv (some a) K) s Q=W (K a) s Q:=(Ac _ _ _).trans (Ab a _)
theorem W_oS (a:α)(f:α→M β)(Q:β→St→Prop):W (oS (some a) f) s Q=W (f a) s Q:=propext Iff.rfl
theorem W_on (a:α)(f:α→M β)(Q:β→St→Prop):W (M.on (some a) f) s Q=W (f a) s Q:=propext Iff.rfl
theorem Aw (m:M α)(Q:α→St→Prop):W (M.chk true m) s Q=W m s Q:=propext Iff.rfl
theorem Ax (x y:M α)(Q:α→St→Prop):W (M.if true x y) s Q=W x s Q:=propext Iff.rfl
theorem Az (x y:M α)(Q:α→St→Prop):W (M.if false x y) s Q=W y s Q:=propext Iff.rfl
theorem Ad {γ:Type}(d:Nat)(v:Value)(tm:T Value)(K:T Value→M γ)(Q:γ→St→Prop):W (setF d v tm K) s Q=W (K (T.set tm d v)) s Q:=by
 obtain⟨x,a,b,e⟩:=T.set_N tm d v
 unfold setF
 rw[e]
theorem As {γ:Type}(d:Nat)(v:Value)(tm:T Value)(K:T Value→M γ)(Q:γ→St→Prop):W (setT d v tm K) s Q=W (K (T.set tm d v)) s Q:=by
 obtain⟨x,a,b,e⟩:=T.set_N tm d v
 unfold setT
 rw[e]
theorem W.end' {E:Env}{n f nt g:Nat}{tm:T Value}{todo P:List Item}{ki:CallKind}{fn:Func}{rs:List Nat}{vs:List Value}{up:Option FrameMode}{Q:Value×FrameMode→St→Prop}(ht:skim 64 todo=P)(hP:(∃k,P= .code .ret::k)∨P=[])(hn:2≤n)
  (hf:E.fn.get f=some fn) (hr:fn.results.toList=rs.map .tmp) (hc:s.cx= .cx up (some [])) (hv:rs.map (Am.T.get tm)=vs.map some) (q:Q (tupV vs,up.getD .run) s):W (runF E n ⟨f,nt,g,tm,todo, .run,ki,none⟩) s Q:=by
 obtain⟨m,rfl⟩: ∃m,n=m+2:=⟨n-2,by omega⟩
 subst ht
 exact W.ret hP hf hr hv hc q
theorem An (b:Bool):isK (.bool b)=true:=rfl
theorem Ar:isB (.bool true) true=true:=rfl
theorem Ay:isB (.bool true) false=false:=rfl
theorem AA:isB (.bool false) true=false:=rfl
theorem Av:isB (.bool false) false=true:=rfl
theorem Af:seqO []=some []:=rfl
theorem Ag (v:Value)(l:List (Option Value)):seqO (some v::l)=onO (seqO l) fun l=>some (v::l):=rfl
theorem Ap:seqP []=some []:=rfl
theorem Aq (k:Nat)(v:Value)(l:List (Nat×Option Value)):seqP ((k,some v)::l)=onO (seqP l) fun l=>some ((k,v)::l):=rfl
theorem Ae {γ:Type}(a:α)(K:α→Option γ):onO (some a) K=K a:=rfl
theorem Au (c:Bool)(a b:Value)(Q:Value→St→Prop):W (Cw (.bool c) a b) s Q=Q (if c then a else b) s:=by
 refine By ?_
 cases c<;>rfl
section
variable {E:Env}{t:Nat}{xo yo:Operand}{Q:Value→St→Prop}
theorem A7 (a b:Int):W (Cl.get (aBin E .add t xo yo) (.int .i64 a) (.int .i64 b)) s Q=Q (.int .i64 (wrap64 (a+b))) s:=By (VF_ _ a b)
theorem Bd (a b:Int):W (Cl.get (aBin E .sub t xo yo) (.int .i64 a) (.int .i64 b)) s Q=Q (.int .i64 (wrap64 (a-b))) s:=By (Ky_ _ a b)
theorem A8 (a b:Int):W (Cl.get (aBin E .lss t xo yo) (.int .i64 a) (.int .i64 b)) s Q=Q (.bool (decide (a<b))) s:=By (Ca_ _ a b)
theorem Bc (a b:Int):W (Cl.get (aBin E .gtr t xo yo) (.int .i64 a) (.int .i64 b)) s Q=Q (.bool (decide (b<a))) s:=By (RU_ _ a b)
theorem Bm (a b:Int):W (Cl.get (aBin E .leq t xo yo) (.int .i64 a) (.int .i64 b)) s Q=Q (.bool (decide (a≤b))) s:=By (BK_ _ a b)
theorem Bj (a b:Int):W (Cl.get (aBin E .geq t xo yo) (.int .i64 a) (.int .i64 b)) s Q=Q (.bool (decide (b≤a))) s:=By (Qw_ _ a b)
theorem Bg (a b:Int):W (Cl.get (aBin E .eql t xo yo) (.int .i64 a) (.int .i64 b)) s Q=Q (.bool (decide (a=b))) s:=By (Ij_ _ a b)
theorem Bk (a b:Int):W (Cl.get (aBin E .neq t xo yo) (.int .i64 a) (.int .i64 b)) s Q=Q (.bool (!decide (a=b))) s:=By (Wr_ _ a b)
end
end
def tyS (E:Env)(t:Nat):Option (Nat×Bool):=match T.get E.ty t with|some i=>some (i.size,i.agg)|none=>none
def slN (E:Env)(t:Nat):Option Nat:=match T.get E.ty t with
 |some i=>(match i.u with| .slice e=>(match T.get E.ty e with|some ie=>some ie.size|none=>none)|_=>none)
 |none=>none
def arrN (E:Env)(t:Nat):Option (Nat×Nat):=match T.get E.ty t with
 |some i=>(match i.u with| .array n e=>(match T.get E.ty e with|some ie=>some (n,ie.size)|none=>none)|_=>none)
 |none=>none
def fldN (E:Env)(t f:Nat):Option (Nat×Nat×Bool):=match T.get E.ty t with
 |some i=>(match i.u with| .struct fs=>(match fs.toList[f]? with|some fd=>(match T.get E.ty fd.type with|some fi=>some (fd.offset,fi.size,fi.agg)|none=>none)|none=>none)|_=>none)
 |none=>none
def D9 (E:Env)(t:Nat):Option (List Value):=match T.get E.ty t with|some i=>some i.zero|none=>none
def intK (E:Env)(t:Nat):Option IntKind:=match T.get E.ty t with|some i=>(match i.u with| .int k=>some k|_=>none)|none=>none
def hasT (E:Env)(t:Nat):Bool:=(T.get E.ty t).isSome
section
variable {α β:Type}{s:St}{E:Env}{t:Nat}
theorem J1 {n:Nat}{g:Bool}(h:tyS E t=some (n,g)): ∃i,T.get E.ty t=some i∧i.size=n∧i.agg=g:=by
 unfold tyS at h
 split at h
 ·rename_i i e
  cases h
  exact⟨i,e,rfl,rfl⟩
 ·cases h
theorem Hb {n:Nat}(h:slN E t=some n): ∃i e ie,T.get E.ty t=some i∧i.u= .slice e∧T.get E.ty e=some ie∧ie.size=n:=by
 unfold slN at h
 split at h
 ·rename_i i e
  split at h
  ·rename_i e2 q
   split at h
   ·rename_i ie q2
    cases h
    exact⟨i,e2,ie,e,q,q2,rfl⟩
   ·cases h
  ·cases h
 ·cases h
theorem Oa {n m:Nat}(h:arrN E t=some (n,m)): ∃i e ie,T.get E.ty t=some i∧i.u= .array n e∧T.get E.ty e=some ie∧ie.size=m:=by
 unfold arrN at h
 split at h
 ·rename_i i e
  split at h
  ·rename_i n2 e2 q
   split at h
   ·rename_i ie q2
    cases h
    exact⟨i,e2,ie,e,q,q2,rfl⟩
   ·cases h
  ·cases h
 ·cases h
theorem Pg_ {f off sz:Nat}{g:Bool}(h:fldN E t f=some (off,sz,g)): ∃i fs fd fi,T.get E.ty t=some i∧i.u= .struct fs∧fs.toList[f]?=some fd∧T.get E.ty fd.type=some fi∧fd.offset=off∧fi.size=sz∧fi.agg=g:=by
 unfold fldN at h
 split at h
 ·rename_i i e
  split at h
  ·rename_i fs q
   split at h
   ·rename_i fd q2
    split at h
    ·rename_i fi q3
     cases h
     exact⟨i,fs,fd,fi,e,q,q2,q3,rfl,rfl,rfl⟩
    ·cases h
   ·cases h
  ·cases h
 ·cases h
theorem W.ti {i:TI}{Q:TI→St→Prop}(h:T.get E.ty t=some i)(q:Q i s):W (ti E t) s Q:=W.ofOpt h q
theorem W.load1 {b o:Nat}{v:Value}{Q:Value→St→Prop}(ht:tyS E t=some (1,false))(h:At s b o v)(q:Q v (s.rdN (b+o))):W (A5 E t (.pointer (some ⟨b,o,none⟩))) s Q:=by
 obtain⟨i,h1,h2,h3⟩:=J1 ht
 refine W.bind (W.pure (W.bind (W.ti h1 ?_)))
 show W (M.if i.agg _ _) s Q
 rw[h3]
 exact W.rdV h q
theorem W.loadA {b o n:Nat}{l:List Value}{Q:Value→St→Prop}(ht:tyS E t=some (n,true))(h:Row s b o l)(hl:l.length=n)
  (q: ∀s1,s1.mem=s.mem→s1.next=s.next→Ext (In b o n) Non s s1→Q (.agg l.toArray) s1):W (A5 E t (.pointer (some ⟨b,o,none⟩))) s Q:=by
 obtain⟨i,h1,h2,h3⟩:=J1 ht
 subst hl
 refine W.bind (W.pure (W.bind (W.ti h1 ?_)))
 show W (M.if i.agg (M.bind (Am.rdL i.size ⟨b,o,none⟩) fun l=>M.pure (Value.agg l.toArray)) _) s Q
 rw[h3,h2]
 exact W.bind (W.rdL h fun s1 e1 e2 e3=>W.pure (q s1 e1 e2 e3))
theorem QA {v:Value}(h:oneCell v=true):cellsOf v=[v]:=by cases v<;>simp[oneCell]at h<;>rfl
theorem W.store {b o n:Nat}{g:Bool}{v:Value}{Q:Value→St→Prop}(ht:tyS E t=some (n,g))(hl:(cellsOf v).length=n)(h1:(cellsOf v).all oneCell=true)(h: ∀i,i<n→ ∃u,Own s b (o+i) u)
  (q: ∀s1,s1.next=s.next→Ext (In b o n) (In b o n) s s1→Ah s1 b o (cellsOf v)→Q undef s1):W (Bo E t (.pointer (some ⟨b,o,none⟩)) v) s Q:=by
 obtain⟨i,g1,g2,g3⟩:=J1 ht
 subst hl
 refine W.bind (W.pure (W.bind (W.bind (W.ti g1 (W.chk ?_ (W.wrL h h1 fun s1 e1 e2 e3=>W.pure (q s1 e1 e2 e3)))))))
 rw[g2]
 exact Nat.beq_refl _
theorem W.store1 {b o:Nat}{g:Bool}{u v:Value}{Q:Value→St→Prop}(ht:tyS E t=some (1,g))(hv:oneCell v=true)(h:Own s b o u)
  (q: ∀s1,s1.next=s.next→Ext (In b o 1) (In b o 1) s s1→Own s1 b o v→Q undef s1):W (Bo E t (.pointer (some ⟨b,o,none⟩)) v) s Q:=by
 refine W.store ht (by rw[QA hv];rfl) (by rw[QA hv];simp[hv]) (fun i hi=>⟨u,by rw[show o+i=o by omega];exact h⟩) fun s1 e1 e2 e3=>q s1 e1 e2 ?_
 have:=e3 0 v (by rw[QA hv];rfl)
 exact this
theorem W.alloc {z:List Value}{Q:Value→St→Prop}(ht:D9 E t=some z)(q: ∀s1,s1.next=s.next+z.length+1→Ext Non Non s s1→Ah s1 s.next 0 z→Q (.pointer (some ⟨s.next,0,none⟩)) s1):W (BH E t) s Q:=by
 unfold D9 at ht
 split at ht
 ·rename_i i e
  cases ht
  exact W.bind (W.ti e (W.bind (W.newL fun s1 e1 e2 e3=>W.pure (q s1 e1 e2 e3))))
 ·cases ht
theorem W.box {v:Value}{Q:Value→St→Prop}(q: ∀s1,s1.next=s.next+(cellsOf v).length+1→Ext Non Non s s1→Ah s1 s.next 0 (cellsOf v)→Q (.pointer (some ⟨s.next,0,none⟩)) s1):W (kBox v) s Q:=
 W.bind (W.newL fun s1 e1 e2 e3=>W.pure (q s1 e1 e2 e3))
theorem Dx {f off sz b o:Nat}{g:Bool}(h:fldN E t f=some (off,sz,g))(h0:0<sz)(Q:Value→St→Prop):W (kFld E t (.pointer (some ⟨b,o,none⟩)) f) s Q=Q (.pointer (some ⟨b,o+off,none⟩)) s:=by
 obtain⟨i,fs,fd,fi,h1,h2,h3,h4,h5,h6,h7⟩:=Pg_ h
 subst h5;subst h6
 refine By ?_
 unfold kFld
 rw[Bw (show ti E t s= .some i s by unfold ti;rw[h1];rfl),Bw (show asA (.pointer (some ⟨b,o,none⟩)) s= .some ⟨b,o,none⟩ s from rfl)]
 rw[Bw (show Dk E i.u f s= .some (fd.offset,fi,fd.type) s by unfold Dk;rw[h2];simp only[h3];exact Bw (show ti E fd.type s= .some fi s by unfold ti;rw[h4];rfl))]
 show M.chk (Nat.blt 0 fi.size) (ptrA (addA ⟨b,o,none⟩ fd.offset)) s=_
 rw[BU h0]
 show ptrA ⟨b,o+fd.offset,none⟩ s=_
 unfold ptrA
 rw[CU]
 rfl
theorem Bc_ {n:Nat}{ty:Nat}{g:Bool}{cs:List Value}{off:Nat}{v:Value}(h:tyS E ty=some (n,g))(hv:(g=false∧cs[off]?=some v)∨(g=true∧v= .agg ((cs.drop off).take n).toArray)):DC E ty cs off s= .some v s:=by
 obtain⟨i,h1,h2,h3⟩:=J1 h
 subst h2;subst h3
 unfold DC
 rw[Bw (show ti E ty s= .some i s by unfold ti;rw[h1];rfl)]
 rcases hv with⟨e,hv⟩|⟨e,hv⟩
 ·rw[e]
  show M.ofOpt (cs[off]?) s=_
  rw[hv]
  rfl
 ·rw[e,hv]
  rfl
theorem GO {sz b o n c k:Nat}{kd:IntKind}(h:slN E t=some sz)(hk:k<n)(Q:Value→St→Prop):W (A9 E t (.slice (some ⟨b,o,none⟩) n c) (.int kd (k:Nat))) s Q=Q (.pointer (some ⟨b,o+k*sz,none⟩)) s:=by
 obtain⟨i,e,ie,h1,h2,h3,h4⟩:=Hb h
 subst h4
 refine By ?_
 unfold A9
 rw[Bw (show ti E t s= .some i s by unfold ti;rw[h1];rfl),Bw (show asN (.int kd (k:Nat)) s= .some k s from rfl)]
 unfold idxN
 rw[h2]
 simp only
 rw[Bw (show ti E e s= .some ie s by unfold ti;rw[h3];rfl)]
 rw[BU hk]
 show ptrA ⟨b,o+k*ie.size,none⟩ s=_
 unfold ptrA
 rw[CU]
 rfl
theorem Ue {n sz b o k:Nat}{kd:IntKind}(h:arrN E t=some (n,sz))(hk:k<n)(Q:Value→St→Prop):W (A9 E t (.pointer (some ⟨b,o,none⟩)) (.int kd (k:Nat))) s Q=Q (.pointer (some ⟨b,o+k*sz,none⟩)) s:=by
 obtain⟨i,e,ie,h1,h2,h3,h4⟩:=Oa h
 subst h4
 refine By ?_
 unfold A9
 rw[Bw (show ti E t s= .some i s by unfold ti;rw[h1];rfl),Bw (show asN (.int kd (k:Nat)) s= .some k s from rfl)]
 unfold idxN
 rw[h2]
 simp only
 rw[Bw (show ti E e s= .some ie s by unfold ti;rw[h3];rfl)]
 rw[BU hk]
 show ptrA ⟨b,o+k*ie.size,none⟩ s=_
 unfold ptrA
 rw[CU]
 rfl
theorem Ao (a:Addr)(Q:Value→St→Prop):W (kNil (.pointer (some a))) s Q=Q (.pointer (some a)) s:=By rfl
theorem Ch {sz n c:Nat}{p:Option Addr}(h:slN E t=some sz)(Q:Value→St→Prop):W (A6 E .len [t] [.slice p n c]) s Q=Q (.int .i64 (n:Nat)) s:=by
 obtain⟨i,e,ie,h1,h2,h3,h4⟩:=Hb h
 refine By ?_
 show aLen E t (.slice p n c) s=_
 unfold aLen
 rw[Bw (show ti E t s= .some i s by unfold ti;rw[h1];rfl)]
 rw[h2]
 show pN n s=_
 unfold pN
 rw[AY]
 rfl
theorem Da {d:Nat}{k k':IntKind}{n:Int}(h1:hasT E t=true)(h2:intK E d=some k')(Q:Value→St→Prop):W (Bu E t d (.int k n)) s Q=Q (.int k' (k'.wrap n)) s:=by
 refine By ?_
 show Fb E t d k n s=_
 unfold hasT at h1
 obtain⟨i,hi⟩:=Option.isSome_iff_exists.1 h1
 unfold intK at h2
 split at h2
 ·rename_i id hd
  split at h2
  ·rename_i k2 hu
   cases h2
   unfold Fb
   rw[Bw (show ti E t s= .some i s by unfold ti;rw[hi];rfl),Bw (show ti E d s= .some id s by unfold ti;rw[hd];rfl)]
   simp only[hu]
   show fI (Mn k' n) (fun n=>M.pure (Value.int k' n)) s=_
   rw[Ea,Yr]
   rfl
  ·cases h2
 ·cases h2
theorem Hc {k:Nat}{vs:Array Value}{v:Value}(h:vs.toList[k]?=some v)(Q:Value→St→Prop):W (kExt k (.tuple vs)) s Q=Q v s:=By (by show M.ofOpt (vs.toList[k]?) s=_;rw[h];rfl)
theorem Ak {call round:Aa}{f:Nat}{l:List Value}(Q:Value→St→Prop):W (Bi call round (.func (.func f) #[] #[]) l) s Q=W (call f l) s Q:=by
 show W (call f ([]++(l++[]))) s Q=_
 rw[List.append_nil,List.nil_append]
theorem W.orc {ih:AF→M (Value×FrameMode)}{f:Nat}{m:List Value→M Value}{args:List Value}{Q:Value→St→Prop}(ho:E.orc.get f=some m)(h:W (m args) s Q):W (AJ E ih f args) s Q:=by
 unfold AJ
 rw[ho]
 exact h
end
end Go.Proofs.Ytofanlcjeohcjaa.Am
end
