import Derived.Test.YtndednnianphoaaGreatDoorJo06
import Derived.KernelRfl
import Derived.RowKit3
import GoSem.ClaimWide
noncomputable section
namespace Go.Proofs.YtndednnianphoaaGreatDoor.Am
open Go.RowKit
structure DeferOK (E:Env)(dcall:F8):Prop where
 loc: ∀f args m,Loc (dcall f args m)
 ok: ∀{w0 w:World} {r:Inj} {f:Nat} {args args':List Value} {m m':FrameMode} {s:St} {out:Out (Option (List PanicEntry)×FrameMode)} {s':St},dcall f args m s=rOf out s'->Rel w0 r s.mem w->Bnd s->AA r s.next s'.next->VRs r args args'->MoR r m m'->
  (∀w,(callFunc f args'.toArray).run E.P w= .ok (.enter f args'.toArray) w)/\
  ∀c cs,c.mode=m'-> ∃w' r' p m2,out= .inl p/\Goes w0 r s s' r' w'/\s'.lim=s.lim/\s'.cx=s.cx/\MoR r' p.2 m2/\
   (match p.1 with
    |none=> ∃v',Steps E.P (lone (Frame.enter E.P f args'.toArray .deferred) (c::cs) w) (lone (FG .deferred {c with mode:=m2} v') cs w')
    |some ch=> ∃ch',ChR r' ch ch'/\Steps E.P (lone (Frame.enter E.P f args'.toArray .deferred) (c::cs) w) (lone (({c with mode:=m2}:Frame).raise ch') cs w'))
theorem ChR.drop {r:Inj}{l l':List PanicEntry}(h:ChR r l l'):ChR r (l.dropWhile (!·.goexit)) (l'.dropWhile (!·.goexit)):=by
 induction h with
 |nil=>exact .nil
 | @cons e e' l l' a b c d ih=>
  rw[List.dropWhile_cons,List.dropWhile_cons,c]
  cases e.goexit with
  |true=>simp;exact .cons a b c d
  |false=>simp;exact ih
theorem XO_ {r:Inj}{m m2:FrameMode}(h:MoR r m m2)(c:Frame)(v:Value): ∃m3,FG .deferred {c with mode:=m2} v={c with mode:=m3}/\MoR r (Fv m) m3:=by
 cases h with
 |run=>exact⟨.run,rfl, .run⟩
 |ret=>exact⟨.returning,rfl, .ret⟩
 |pan hc=>
  cases hc with
  |nil=>exact⟨.panicking [],rfl, .pan .nil⟩
  | @cons e e' l l' a b cc d=>
   obtain⟨ev,er,eg⟩:=e
   obtain⟨ev',er',eg'⟩:=e'
   simp only at b cc a
   subst b
   cases er' with
   |false=>exact⟨.panicking (⟨ev',false,eg'⟩::l'),rfl, .pan (.cons a rfl cc d)⟩
   |true=>
    have hd:=d.drop
    simp only[FG,Fv]
    generalize l.dropWhile (!·.goexit)=x at hd
    generalize l'.dropWhile (!·.goexit)=y at hd
    cases hd with
    |nil=>exact⟨.returning,rfl, .ret⟩
    |cons a b c d=>exact⟨_,rfl, .pan (.cons a b c d)⟩
theorem Uq_ {r:Inj}{m m2:FrameMode}(h:MoR r m m2){ch ch':List PanicEntry}(hc:ChR r ch ch')(c:Frame): ∃m3,({c with mode:=m2}:Frame).raise ch'={c with mode:=m3}/\MoR r (Ho m ch) m3:=by
 cases h with
 |run=>exact⟨_,rfl, .pan hc⟩
 |ret=>exact⟨_,rfl, .pan hc⟩
 |pan hd=>exact⟨_,rfl, .pan (hc.append hd)⟩
theorem DfsR.inv_nil {r:Inj}{l:List Deferred}(h:DfsR r [] l):l=[]:=by cases h;rfl
section
variable {E:Env}{call round:Ah}{dcall:F8}{w0 w:World}{r:Inj}{base:List Deferred×List Frame}
theorem Wx_ (af:AF)(up:Option FrameMode):Loc (outF E af up):=by
 unfold outF
 cases af.mode with
 |run=>exact Ag
 |returning=>exact AK _ λfn=>Aa (Aa (ZN _ _) λl=>Ae _) λv=>Ae _
 |panicking c=>exact Nw _
theorem ZG (tm:T Value): ∀(l:List ResultVar),NoPan (resL E tm l)
 |[]=>Aj _
 |x::l=>by
  refine Ad ?_ λv=>Ad (ZG tm l) λl=>Aj _
  cases x with
  |tmp t=>exact Ef _
  |cell a t=>exact A3 _ λa=>Ad (GU _) λa=>HS_ _ _ _
theorem OL_ (c3:DeferOK E dcall)(af:AF)(d:Deferred):Loc (runD dcall af d):=by
 unfold runD
 split
 ·refine Aa (CB _) λc=> ?_
  split
  ·exact Aa (B1 _ _) λ_=>Ae _
  ·exact Ag
 ·refine Aa (c3.loc _ _ _) λp=> ?_
  unfold Iz
  cases p.1 with
  |none=>simp only;split<;>first|exact Ag|exact GJ _ _ _
  |some c=>exact GJ _ _ _
 ·exact Ag
theorem RE_ (c3:DeferOK E dcall)(af:AF):Loc (CO E dcall af):=by
 unfold CO
 refine Aa Ie λcx=> ?_
 cases cx with
 |no=>exact Ag
 |cx up d=>
  cases d with
  |none=>exact Ag
  |some d=>
   cases d with
   |nil=>exact Wx_ _ _
   |cons d ds=>exact Fm (Aa (Jh _) λ_=>OL_ c3 _ _)
theorem Zz (af:AF)(hm:af.mode= .run):DS E call round dcall af=noP (Fs E call round {af with todo:=skim 64 af.todo} (skim 64 af.todo)):=by
 obtain⟨fn,n,g,tm,todo,mo,ki,ro⟩:=af
 simp only at hm
 subst hm
 rfl
theorem Ep_ (af:AF)(hm:af.mode≠ .run):DS E call round dcall af=CO E dcall af:=by
 obtain⟨fn,n,g,tm,todo,mo,ki,ro⟩:=af
 simp only at hm
 cases mo with
 |run=>exact absurd rfl hm
 |returning=>rfl
 |panicking c=>rfl
theorem Hy_ (he:EnvOK E)(c1:CallOK E call)(c2:RoundOK E round)(c3:DeferOK E dcall)(af:AF):Loc (DS E call round dcall af):=by
 by_cases hm:af.mode= .run
 ·rw[Zz af hm]
  refine Fm ?_
  generalize skim 64 af.todo=l
  cases l with
  |nil=>exact Lf _ _
  |cons x k=>exact Wv_ he c1 c2 _ _ _
 ·rw[Ep_ af hm];exact RE_ c3 _
theorem Vu_ (he:EnvOK E)(c3:DeferOK E dcall){af:AF}{fr:Frame}{cs:List Frame}{s s':St}{out:Out Step}(h:CO E dcall af s=rOf out s')(hF:FR E.P r af s.cx base fr cs)(hm:af.mode≠ .run)(hr:Rel w0 r s.mem w)(hb:Bnd s)(hf:AA r s.next s'.next):
  ∃w' r',Goes w0 r s s' r' w'/\s'.lim=s.lim/\BK E.P r' base s'.cx fr (lone fr cs w) w' out:=by
 unfold CO at h
 rw[N7]at h
 have hmode:fr.mode≠ .run:=by
  have:=hF.mode
  intro hx
  rw[hx]at this
  generalize af.mode=m at this hm
  cases this
  exact hm rfl
 have hunw: ∀{w:World} {dd:List Deferred},stepG E.P true {frame:={fr with defers:=dd},callers:=cs,status:= .running,dying:=none} w=unwind E.P true {fr with defers:=dd} cs none w:=by
  intro w dd
  have:({fr with defers:=dd}:Frame).mode=fr.mode:=rfl
  cases hx:fr.mode with
  |run=>exact absurd hx hmode
  |returning=>simp[stepG]
  |panicking c=>simp[stepG]
 have hfr:fr={fr with defers:=fr.defers}:=rfl
 have hc:=hF.cx
 cases hcx:s.cx with
 |no=>rw[hcx]at h;exact(Al h).elim
 |cx up d=>
  rw[hcx]at hc h
  cases d with
  |none=>exact(Al h).elim
  |some d=>
   obtain⟨q1,q2,q3⟩:=hc
   obtain⟨fn0,hfn0⟩:=hF.known q2
   cases d with
   |nil=>
    have hd0:=q3.inv_nil
    have hends: ∀{s1:St} {o:Out (Value×FrameMode)},s1.cx=s.cx->(∀v u,o= .inl (v,u)->u=up.getD .run)->((fr.kind= .normal/\cs=base.2)\/ ∃u c0 rest m',s1.cx= .cx (some u) (some [])/\fr.kind= .deferred/\base.2=c0::rest/\cs={c0 with mode:=m'}::rest/\MoR r u m'/\ ∀v up,o= .inl (v,up)->up=u):=by
     intro s1 o e1 e2
     cases up with
     |none=>exact .inl q1
     |some m=>
      obtain⟨p1,c0,rest,m',p2,p3,p4⟩:=q1
      exact .inr ⟨m,c0,rest,m',by rw[e1,hcx],p1,p2,p3,p4,λv u e=>e2 v u e⟩
    replace h:outF E af up s=rOf out s':=h
    unfold outF at h
    have hMo:=hF.mode
    cases hmo:af.mode with
    |run=>exact absurd hmo hm
    |returning=>
     rw[hmo]at h hMo
     obtain⟨fn,e1,h⟩:=F0 h
     rcases Bj h with⟨v,s1,e2,e3⟩|⟨c,e2,_⟩
     ·obtain⟨rfl,rfl⟩:=AM (show R.some (Step.fin v (up.getD .run)) s1=rOf out s' from e3)
      obtain⟨v',k1,k2,k3⟩:=YJ_ he.ty e2 hF.tm hr
      have hfmode:fr.mode= .returning:=by cases hx:fr.mode<;>rw[hx]at hMo<;>cases hMo
      have hfuncs:E.P.funcs[fr.fn]?=some fn:=by rw[hF.fn];exact(he.fn _ _ e1).1
      refine⟨w,r, .same k3 hr,k3.2.2.1,cs,hends k3.2.2.2 (λv u e=>by cases e;rfl),v',k2,λc rest hcs=> .one (step_lone_go ?_),λ_ hk=>⟨fr,rfl,⟨hfmode,hd0,hk,fn,hfuncs,k1⟩, .refl _ _⟩⟩
      subst hcs
      have hkind:fr.kind= .normal\/fr.kind= .deferred:=by
       cases up with
       |none=>exact .inl q1.1
       |some m=>exact .inr q1.1
      have h0:=hunw (w:=w) (dd:=fr.defers)
      rw[<-hfr]at h0
      rw[h0]
      rcases hkind with hk|hk
      ·simp only[unwind,hd0,hfmode,hfuncs,Sem.runT_eq,k1,GStep.bare_after,doReturn,hk,FG]
       rfl
      ·simp only[unwind,hd0,hfmode,hfuncs,Sem.runT_eq,k1,GStep.bare_after,doReturn,hk,FG]
       rfl
     ·exact((Ad (ZG _ _) λl=>Aj _).no _ _ _ e2).elim
    |panicking c=>
     rw[hmo]at h hMo
     obtain⟨rfl,rfl⟩:=Ig (show R.pan c s=rOf out s' from h)
     generalize hfm:fr.mode=fm at hMo
     cases hMo with
     | @pan _ c' hch=>
      refine⟨w,r, .of_rel rfl hr,rfl,cs,hends rfl (λv u e=>by cases e),c',hch,λc1 rest hcs=> .one (step_lone_go ?_)⟩
      subst hcs
      have h0:=hunw (w:=w) (dd:=fr.defers)
      rw[<-hfr]at h0
      rw[h0]
      have hcat: ∀g:Frame,g.fn=fr.fn->g.catches E.P=false:=by intro g hg;unfold Frame.catches;rw[hg,hfn0]
      simp only[unwind,hd0,hfm]
      rw[if_neg (by have:=hcat ⟨fr.fn,fr.tmps,fr.todo,[], .panicking c',fr.kind,fr.roundOf⟩ rfl;rw[this];simp)]
      rfl
   |cons d ds=>
    replace h:noP (M.bind (putCx (.cx up (some ds))) λ_=>runD dcall af d) s=rOf out s':=h
    obtain⟨p,hout,h'⟩:=JP h
    clear h
    subst hout
    have h:=h'
    clear h'
    rw[JO_]at h
    generalize hdd:fr.defers=dd at q3
    cases q3 with
    | @cons _ d' _ ds' k1 k2=>
     have hc':CxR r base (.cx up (some ds)) fr ds' cs:=⟨q1,q2,k2⟩
     have h0:=hunw (w:=w) (dd:=d'::ds')
     have hfr':({fr with defers:=d'::ds'}:Frame)=fr:=by rw[<-hdd]
     rw[hfr']at h0
     have hF2: ∀{r':Inj} {m:FrameMode} {m3:FrameMode} {cx:Ctx},r.le r'->m≠ .run->MoR r' m m3->cx= .cx up (some ds)->FR E.P r' {af with mode:=m} cx base {fr with defers:=ds',mode:=m3} cs:=by
      intro r' m m3 cx hle hne hmo hcx
      refine⟨hF.fn,hF.size,hF.tm.mono hle,λe=>absurd e hne,hmo,hF.round.mono hle,hF.rk,hF.known, ?_⟩
      rw[hcx]
      exact hc'.mono hle
     cases k1 with
     | @coll bb bb' o hbb=>
      replace h:M.bind (rdC bb) (λc=>(match c with| .O (.deferred (some []))=>M.bind (wrC bb (.O (.deferred none))) λ_=>M.pure (Step.go af)|_=>aA)) ⟨s.mem,s.next,s.lim,s.rd,s.wr, .cx up (some ds)⟩= .some p s':=h
      obtain⟨c,s1,e1,e2⟩:=bind_some h
      obtain⟨z1,z2⟩:=CA e1
      have fin:c= .O (.deferred (some [])):=by
       cases c with
       |C a b=>cases e2
       |O o=>
        cases o with
        |deferred l=>
         cases l with
         |none=>cases e2
         |some l=>cases l with
          |nil=>rfl
          |cons=>cases e2
        |_=>cases e2
      subst fin
      obtain⟨u,s2,e3,e4⟩:=bind_some e2
      obtain⟨rfl,rfl⟩:=Ac e4
      obtain⟨b2,d2,o',y1,y2,y3⟩:=hr.obj _ _ z1 rfl
      rw[hbb]at y1
      cases y1
      have ho':o'= .deferred (some []):=by
       unfold OR at y3
       cases o' with
       |deferred l=>
        cases l with
        |none=>exact y3.elim
        |some l=>cases l with
         |nil=>rfl
         |cons=>exact y3.elim
       |_=>exact y3.elim
      subst ho'
      obtain⟨x1,x2,x3⟩:=GN (o2':= .deferred none) e3 (by rw[z2.1];exact hr) (by rw[z2.1];exact z1) rfl hbb (by simp[OR]) rfl
      have hgo:Goes w0 r s s2 r (World.setO w bb' (.deferred none)):=⟨x1.le,by rw[<-show(⟨s.mem,s.next,s.lim,s.rd,s.wr, .cx up (some ds)⟩:St).next=s.next from rfl,<-z2.2.1];exact x1.nxt,λb hb=>by
       have:=x1.domB b hb;rw[z2.2.1]at this;exact this,λb hb=>by have:=x1.domE b hb;rw[z2.2.1]at this;exact this,x1.rel⟩
      refine⟨_,r,hgo,x2.trans z2.2.2.1,{fr with defers:=ds',mode:=fr.mode},cs,rfl,hF2 (m:=af.mode) (Inj.le_refl r) hm hF.mode (x3.trans z2.2.2.2), .one (step_lone_go ?_)⟩
      rw[h0]
      have hrun:(Instr.takeDeferred bb').run E.P w= .ok [] (World.setO w bb' (.deferred none)):=by
       simp[Instr.takeDeferred,getObj,setObj,Sem.run,y2,World.setO]
      simp only[unwind,hdd,Sem.runT_eq,hrun,GStep.bare_after]
      rfl
     | @fn f f' cc cc' aa aa' j1 j2 j3=>
      cases f with
      |func f=>
       cases f' with
       |func f'=>
        simp only[FnR]at j1
        subst j1
        replace h:M.bind (dcall f (aa.toList++cc.toList) af.mode) (Iz af) ⟨s.mem,s.next,s.lim,s.rd,s.wr, .cx up (some ds)⟩= .some p s':=h
        obtain⟨p1,s1,e1,e2⟩:=bind_some h
        have hnx:s'.next=s1.next/\s'.lim=s1.lim/\s'.cx=s1.cx/\s'.mem=s1.mem/\p= .go {af with mode:=match p1.1 with|none=>Fv p1.2|some c=>Ho p1.2 c}/\(p1.1=none->Fv p1.2≠ .run):=by
         unfold Iz at e2
         cases hp:p1.1 with
         |none=>
          rw[hp]at e2
          simp only at e2
          cases hD:Fv p1.2 with
          |run=>rw[hD]at e2;cases e2
          |returning=>rw[hD]at e2;cases e2;exact⟨rfl,rfl,rfl,rfl,rfl,λ_ h=>by cases h⟩
          |panicking c=>rw[hD]at e2;cases e2;exact⟨rfl,rfl,rfl,rfl,rfl,λ_ h=>by cases h⟩
         |some c=>rw[hp]at e2;cases e2;exact⟨rfl,rfl,rfl,rfl,rfl,λh=>by cases h⟩
        obtain⟨n1,n2,n3,n4,rfl,n5⟩:=hnx
        obtain⟨i1,i2⟩:=c3.ok (out:= .inl p1) (args':=aa'.toList++cc'.toList) e1 hr hb (by rw[<-n1];exact hf) (j3.append j2) hF.mode
        obtain⟨w',r',p',m2,a1,a2,a3,a4,a5,a6⟩:=i2 {fr with defers:=ds'} cs rfl
        cases a1
        have hgo:Goes w0 r s s' r' w':=⟨a2.le,by rw[n1];exact a2.nxt,λb hb=>by rw[n1];exact a2.domB b hb,λb hb=>by rw[n1];exact a2.domE b hb,by rw[n4];exact a2.rel⟩
        have henter:step E.P (lone fr cs w)= .next (lone (Frame.enter E.P f (aa'.toList++cc'.toList).toArray .deferred) ({fr with defers:=ds'}::cs) w):=by
         refine step_lone_go ?_
         rw[h0]
         have e0:aa'++cc'=(aa'.toList++cc'.toList).toArray:=by apply Array.toList_inj.1;simp
         have hrun:(invoke (.fn (.func f) cc') aa').run E.P w= .ok (.enter f (aa'.toList++cc'.toList).toArray) w:=by
          simp only[invoke,e0,i1]
         simp only[unwind,hdd,callDeferred,Sem.runT_eq,hrun]
         rfl
        cases hp:p1.1 with
        |none=>
         rw[hp]at a6
         obtain⟨v',a6⟩:=a6
         obtain⟨m3,t1,t2⟩:=XO_ a5 {fr with defers:=ds'} v'
         rw[t1]at a6
         have hne:Fv p1.2≠ .run:=n5 hp
         exact⟨w',r',hgo,by rw[n2];exact a3,{fr with defers:=ds',mode:=m3},cs,rfl,hF2 a2.le hne t2 (n3.trans a4), .head henter a6⟩
        |some ch=>
         rw[hp]at a6
         obtain⟨ch',a6,a7⟩:=a6
         obtain⟨m3,t1,t2⟩:=Uq_ a5 a6 {fr with defers:=ds'}
         rw[t1]at a7
         have hne:Ho p1.2 ch≠ .run:=by
          unfold Ho
          cases p1.2<;>(intro h;cases h)
         exact⟨w',r',hgo,by rw[n2];exact a3,{fr with defers:=ds',mode:=m3},cs,rfl,hF2 a2.le hne t2 (n3.trans a4), .head henter a7⟩
       |_=>simp only[FnR]at j1
      |_=>cases h
end
section
variable {E:Env}{call round:Ah}{dcall:F8}{w0 w:World}{r:Inj}{base:List Deferred×List Frame}
theorem FinE.head {P:Program}{cx':Ctx}{fr fr0:Frame}(hk:Kin fr0 fr){m m1:Machine}{w':World}{out:Out (Value×FrameMode)}(hs:Steps P m m1)(h:FinE P r base cx' fr m1 w' out):FinE P r base cx' fr0 m w' out:=by
 obtain⟨cs',h1,h2⟩:=h
 unfold Kin at hk
 simp only[Prod.mk.injEq]at hk
 obtain⟨e1,e2,e3⟩:=hk
 rw[e1]at h1
 refine⟨cs',h1, ?_⟩
 cases out with
 |inl p=>
  obtain⟨v',q1,q2,q3⟩:=h2
  rw[e1,e2,e3]at *
  exact⟨v',q1,λc rest e=>hs.trans (q2 c rest e),λa b=>let ⟨fr',x,y,z⟩:=q3 a b;⟨fr',x,y,hs.trans z⟩⟩
 |inr ch=>obtain⟨ch',q1,q2⟩:=h2;exact⟨ch',q1,λc rest e=>hs.trans (q2 c rest e)⟩
theorem BK.head {P:Program}{cx':Ctx}{fr fr0:Frame}(hk:Kin fr0 fr){m m1:Machine}{w':World}{out:Out Step}(hs:Steps P m m1)(h:BK P r base cx' fr m1 w' out):BK P r base cx' fr0 m w' out:=by
 cases out with
 |inr ch=>exact FinE.head hk hs h
 |inl p=>
  cases p with
  |fin v up=>exact FinE.head hk hs h
  |go af'=>
   obtain⟨fr',cs',q1,q2,q3⟩:=h
   exact⟨fr',cs',q1.trans hk,q2,hs.trans q3⟩
theorem Xx (he:EnvOK E)(c1:CallOK E call)(c2:RoundOK E round)(c3:DeferOK E dcall){af:AF}{fr:Frame}{cs:List Frame}{s s':St}{out:Out Step}(h:DS E call round dcall af s=rOf out s')(hF:FR E.P r af s.cx base fr cs)
  (hr:Rel w0 r s.mem w) (hb:Bnd s) (hf:AA r s.next s'.next):
  ∃w' r',Goes w0 r s s' r' w'/\s'.lim=s.lim/\BK E.P r' base s'.cx fr (lone fr cs w) w' out:=by
 by_cases hm:af.mode= .run
 ·rw[Zz af hm]at h
  obtain⟨p,hout,h'⟩:=JP h
  clear h
  subst hout
  have h:=h'
  clear h'
  have hsk:=Dg (P:=E.P) (b:=fr) (t:=fr.tmps) (d:=fr.defers) (cs:=cs) (w:=w) 64 af.todo
  rw[<-hF.frm hm]at hsk
  have hF':=hF.to (skim 64 af.todo)
  rw[<-hm]at hF'
  have fin: ∃w' r',Goes w0 r s s' r' w'/\s'.lim=s.lim/\BK E.P r' base s'.cx (frm fr fr.tmps fr.defers (skim 64 af.todo)) (lone (frm fr fr.tmps fr.defers (skim 64 af.todo)) cs w) w' (.inl p):=by
   cases ht:skim 64 af.todo with
   |nil=>rw[ht]at h hF';exact Ny (out:= .inl p) h hF' hm hr hF'.csr (.inl ⟨rfl,rfl⟩)
   |cons x k=>rw[ht]at h hF';exact Acy_ (out:= .inl p) he c1 c2 h hF' hm rfl hr hb hf
  obtain⟨w',r',k1,k2,k3⟩:=fin
  exact⟨w',r',k1,k2,k3.head rfl hsk⟩
 ·rw[Ep_ af hm]at h
  exact Vu_ he c3 h hF hm hr hb hf
structure RunOK (E:Env)(run:AF->M (Value×FrameMode)):Prop where
 loc: ∀af,Loc (run af)
 ok: ∀{w0 w:World} {r:Inj} {base:List Deferred×List Frame} {af:AF} {fr:Frame} {cs:List Frame} {s:St} {out:Out (Value×FrameMode)} {s':St},run af s=rOf out s'->FR E.P r af s.cx base fr cs->Rel w0 r s.mem w->Bnd s->AA r s.next s'.next->
  ∃w' r',Goes w0 r s s' r' w'/\s'.lim=s.lim/\FinE E.P r' base s'.cx fr (lone fr cs w) w' out
theorem We {g:Nat}{y:Nat}{v:Value}: ∀{l:List Value} {i:Nat} {t:T Value},T.get (Cd g l i t) y=some v->(∃j,y=i+j/\l[j]?=some v/\Nat.testBit g y=true)\/T.get t y=some v
 |[],_,_,h=> .inr h
 |a::l,i,t,h=>by
  replace h:T.get (Cd g l (Nat.succ i) (putG g i a t)) y=some v:=h
  rcases We h with⟨j,h1,h2,h3⟩|h
  ·exact .inl ⟨j+1,by omega,by simpa using h2,h3⟩
  ·unfold putG at h
   cases hb:Nat.testBit g i with
   |false=>rw[hb]at h;exact .inr h
   |true=>
    rw[hb]at h
    simp only[T.get_set]at h
    split at h
    ·rename_i hy
     cases h
     exact .inl ⟨0,hy,rfl,by rw[hy];exact hb⟩
    ·exact .inr h
theorem UT {f:Nat}{args:List Value}{kind:CallKind}{s s':St}{af:AF}(h:BA E f args kind s= .some af s'):s=s'/\ ∃fn c,E.fn.get f=some fn/\fn.body=some c/\args.length<=fn.ntmps/\
  af={fn:=f,n:=fn.ntmps,glob:=Ar fn,tmps:=Cd (Ar fn) args 0 .E,todo:=[.code c],mode:= .run,kind,roundOf:=none}:=by
 unfold BA at h
 obtain⟨fn,h1,h⟩:=A4 h
 obtain⟨c,h2,h⟩:=A4 h
 obtain⟨h3,h⟩:=AN h
 rw[Ao,Ao]at h
 obtain⟨rfl,rfl⟩:=Ac h
 exact⟨rfl,fn,c,h1,h2,Nat.le_of_ble_eq_true h3,rfl⟩
theorem Zt (f:Nat)(args:List Value)(kind:CallKind):Loc (BA E f args kind):=AK _ λ_fn=>AK _ λ_c=>AI _ (Dh _ λ_n=>Dh _ λ_g=>Ae _)
theorem GG (f:Nat)(args:List Value)(kind:CallKind):NoPan (BA E f args kind):=A3 _ λ_fn=>A3 _ λ_c=>AW _ (C2 _ λ_n=>C2 _ λ_g=>Aj _)
theorem Is (he:EnvOK E){f:Nat}{args args':List Value}{kind:CallKind}{s s':St}{af:AF}(h:BA E f args kind s= .some af s')(ha:VRs r args args'){cx:Ctx}{cs:List Frame}(hcx:CxR r base cx (Frame.enter E.P f args'.toArray kind) [] cs):
  (∀w,(callFunc f args'.toArray).run E.P w= .ok (.enter f args'.toArray) w)/\FR E.P r af cx base (Frame.enter E.P f args'.toArray kind) cs/\s=s':=by
 obtain⟨rfl,fn,c,h1,h2,h3,rfl⟩:=UT h
 obtain⟨k1,k2⟩:=he.fn f fn h1
 refine⟨λw=> ?_,⟨rfl, ?_, ?_,λ_=> ?_, .run,True.intro,λe=>absurd rfl e,λ_=>⟨fn,k1⟩,hcx⟩,rfl⟩
 ·unfold callFunc
  simp[Sem.run,program,k1,k2,h2]
 ·simp only[Frame.enter,k1,Option.map_some,Option.getD_some,Array.size_append,List.size_toArray,Array.size_replicate]
  have:=ha.1
  omega
 ·intro y v e
  rcases We e with⟨j,e1,e2,e3⟩|e
  ·obtain⟨v',q1,q2⟩:=ha.get e2
   refine⟨e3,v', ?_,q2⟩
   rw[Nat.zero_add]at e1
   subst e1
   simp only[Frame.enter]
   rw[Array.getElem?_append_left (by simpa using(List.getElem?_eq_some_iff.1 q1).1)]
   simpa using q1
  ·cases e
 ·simp[Frame.enter,k1,h2]
theorem Y3 {α:Type}(c:Ctx)(m:M α)(s:St):within c m s=match m ⟨s.mem,s.next,s.lim,s.rd,s.wr,c⟩with
  | .none=> .none
  | .some a s1=> .some a ⟨s1.mem,s1.next,s1.lim,s1.rd,s1.wr,s.cx⟩
  | .pan p s1=> .pan p ⟨s1.mem,s1.next,s1.lim,s1.rd,s1.wr,s.cx⟩:=by
 obtain⟨mem,next,lim,rd,wr,cx⟩:=s
 unfold within
 simp only
 cases m ⟨mem,next,lim,rd,wr,c⟩<;>rfl
theorem El {α:Type}{c:Ctx}{m:M α}{s s':St}{o:Out α}(h:within c m s=rOf o s'): ∃s1,m ⟨s.mem,s.next,s.lim,s.rd,s.wr,c⟩=rOf o s1/\s'=⟨s1.mem,s1.next,s1.lim,s1.rd,s1.wr,s.cx⟩:=by
 rw[Y3]at h
 cases e:m ⟨s.mem,s.next,s.lim,s.rd,s.wr,c⟩with
 |none=>rw[e]at h;exact(Al h).elim
 |some a s1=>rw[e]at h;obtain⟨rfl,rfl⟩:=AM h;exact⟨s1,rfl,rfl⟩
 |pan p s1=>rw[e]at h;obtain⟨rfl,rfl⟩:=Ig h;exact⟨s1,rfl,rfl⟩
theorem LF {α:Type}(c:Ctx){m:M α}(h:Loc m):Loc (within c m):=⟨λs o s' e hb=>by
 obtain⟨s1,e1,rfl⟩:=El e
 obtain⟨Rd,Wr,dr,dw,g,i1,i2⟩:=h.at' _ o s1 e1 hb
 refine⟨Rd,Wr,dr,dw,⟨g.rd,g.wr,g.nxt,g.lim,g.bnd,g.rlt,g.wlt,g.old,λt e1 e2 e3 e4=> ?_⟩,i1,i2⟩
 obtain⟨t',q1,q2,q3,q4,q5,q6,q7,q8⟩:=g.any ⟨t.mem,t.next,t.lim,t.rd,t.wr,c⟩ e1 e2 rfl e4
 refine⟨⟨t'.mem,t'.next,t'.lim,t'.rd,t'.wr,t.cx⟩, ?_,q2,q3,e3,q5,q6,q7,q8⟩
 rw[Y3,q1]
 cases o<;>rfl⟩
theorem Gx {run:AF->M (Value×FrameMode)}{m:M AF}(hm:NoPan m){s s':St}{out:Out Value}(h:M.bind (M.bind m run) fstV s=rOf out s'):
  ∃af s1 o,m s= .some af s1/\run af s1=rOf o s'/\out=(match o with| .inl p=> .inl p.1| .inr c=> .inr c):=by
 rcases Bj h with⟨p,s2,e1,e2⟩|⟨c,e1,rfl⟩
 ·obtain⟨af,s1,e3,e4⟩:=bind_some e1
  obtain⟨rfl,rfl⟩:=AM (show R.some p.1 s2=rOf out s' from e2)
  exact⟨af,s1, .inl p,e3,e4,rfl⟩
 ·rcases Nl e1 with e3|⟨af,s1,e3,e4⟩
  ·exact(hm.no _ _ _ e3).elim
  ·exact⟨af,s1, .inr c,e3,e4,rfl⟩
theorem AbV_ (he:EnvOK E){run:AF->M (Value×FrameMode)}(hrun:RunOK E run):CallOK E (Ab E run) where
 loc:=λf args=>by
  unfold Ab
  cases ho:E.orc.get f with
  |some m=>exact he.orcLoc f m ho args
  |none=>
   cases hx:E.ext.get f with
   |some m=>exact he.extLoc f m hx args
   |none=>exact LF _ (Aa (Aa (Zt _ _ _) hrun.loc) λp=>Ae _)
 ok:=by
  intro w0 w r f args args' s out s' h hr hb hf ha
  unfold Ab at h
  cases ho:E.orc.get f with
  |some m=>rw[ho]at h;exact .inl (he.orc ho h hr hb hf ha)
  |none=>
   rw[ho]at h
   cases hx:E.ext.get f with
   |some m=>rw[hx]at h;exact .inr ⟨(λe=>by cases e),he.ext hx h hr ha⟩
   |none=>
   rw[hx]at h
   refine .inl ?_
   obtain⟨s2,e1,rfl⟩:=El (show within cxN (M.bind (M.bind (BA E f args .normal) run) fstV) s=rOf out s' from h)
   obtain⟨af,s1,o,e2,e3,rfl⟩:=Gx (GG _ _ _) e1
   have hen:=λ(c:Frame) (cs:List Frame)=>Is (base:=([],c::cs)) (cx:=cxN) he e2 ha (cs:=c::cs) ⟨⟨rfl,rfl⟩,rfl, .nil⟩
   refine⟨(hen default []).1,λc cs=> ?_⟩
   obtain⟨_,hF,rfl⟩:=hen c cs
   obtain⟨w',r',k1,k2,cs',k3,k4⟩:=hrun.ok e3 hF hr hb hf
   have hcs:cs'=c::cs:=by
    rcases k3 with k3|⟨_,_,_,_,_,k,_⟩
    ·exact k3.2
    ·cases k
   refine⟨w',r',⟨k1.le,k1.nxt,k1.domB,k1.domE,k1.rel⟩,k2,rfl, ?_⟩
   cases o with
   |inl p=>
    obtain⟨v',q1,q2,q3⟩:=k4
    exact⟨v',q1,q2 c cs hcs⟩
   |inr ch=>
    obtain⟨ch',q1,q2⟩:=k4
    exact⟨ch',q1,q2 c cs hcs⟩
theorem Z1 {g:Nat}{y:Nat}{v:Value}: ∀{ps:List Nat} {l:List Value} {t:T Value},T.get (F9 g ps l t) y=some v-> ∀{_n:Nat} {r:Inj} {tt:Array Value} {l':List Value},TmR r g t tt->VRs r l l'->l.length=ps.length->(∀p∈ps,p<tt.size)->
  Nat.testBit g y=true/\ ∃v',((ps.zip l').foldl (λtmps (x:Nat×Value)=>tmps.setIfInBounds x.1 x.2) tt)[y]?=some v'/\VR r v v'
 |[],l,t,h,n,r,tt,l',hT,hl,_,_=>by simpa using hT y v h
 |p::ps,[],t,h,n,r,tt,l',hT,hl,hlen,_=>by simp at hlen
 |p::ps,a::l,t,h,n,r,tt,l',hT,hl,hlen,hp=>by
  obtain⟨a',l1,rfl,q1,q2⟩:=hl.inv
  replace h:T.get (F9 g ps l (putG g p a t)) y=some v:=h
  have hps:p<tt.size:=hp p List.mem_cons_self
  have:=Z1 h (_n:=n) (r:=r) (tt:=tt.setIfInBounds p a') (l':=l1) (λx u e=>by
   unfold putG at e
   cases hb:Nat.testBit g p with
   |true=>
    rw[hb]at e
    simp only[T.get_set]at e
    split at e
    ·rename_i hx
     cases e
     subst hx
     exact⟨hb,a',by simp[hps],q1⟩
    ·rename_i hx
     obtain⟨z1,u',z2,z3⟩:=hT x u e
     exact⟨z1,u',by rw[Array.getElem?_setIfInBounds_ne (λe=>hx e.symm)];exact z2,z3⟩
   |false=>
    rw[hb]at e
    obtain⟨z1,u',z2,z3⟩:=hT x u e
    refine⟨z1,u', ?_,z3⟩
    rw[Array.getElem?_setIfInBounds_ne]
    ·exact z2
    ·intro hx
     subst hx
     rw[z1]at hb
     cases hb) q2 (by simpa using hlen) (λx hx=>by rw[Array.size_setIfInBounds];exact hp x (List.mem_cons_of_mem _ hx))
  simpa using this
theorem Iu_: ∀(l:List (Nat×Value)) (tt:Array Value),(l.foldl (λtmps (x:Nat×Value)=>tmps.setIfInBounds x.1 x.2) tt).size=tt.size
 |[],tt=>rfl
 |p::l,tt=>by rw[List.foldl_cons,Iu_ l];simp
theorem QE_ (l:Nat)(args:List Value):Loc (Gk l args):=by
 unfold Gk
 refine Aa (CB _) λc=> ?_
 cases c with
 |C a b=>exact Ag
 |O o=>cases o<;>first|exact Ag|exact AI _ (Ae _)
theorem TX_ (l:Nat)(args:List Value):NoPan (Gk l args):=by
 unfold Gk
 refine Ad (C1 _) λc=> ?_
 cases c with
 |C a b=>exact Ap
 |O o=>cases o<;>first|exact Ap|exact AW _ (Aj _)
theorem Xr_ {run:AF->M (Value×FrameMode)}(hrun:RunOK E run):RoundOK E (A9 run) where
 loc:=λl args=>Fm (LF _ (Aa (Aa (QE_ _ _) hrun.loc) λp=>Ae _))
 ok:=by
  intro w0 w r l l' d args args' s out s' h hr hb hf ha hl
  obtain⟨v,hout,h'⟩:=JP h
  clear h
  subst hout
  have h:=h'
  clear h'
  obtain⟨s2,e1,rfl⟩:=El (o:= .inl v) h
  obtain⟨af,s1,o,e2,e3,e4⟩:=Gx (TX_ _ _) e1
  cases o with
  |inr c=>cases e4
  |inl p=>
   cases e4
   unfold Gk at e2
   obtain⟨c,s3,e5,e6⟩:=bind_some e2
   obtain⟨z1,z2⟩:=CA e5
   cases c with
   |C a b=>cases e6
   |O o=>
    cases o with
    |loop st pe f n g tm ps as bd df=>
     obtain⟨e7,e8⟩:=AN e6
     obtain⟨rfl,rfl⟩:=Ac e8
     rw[Bool.and_eq_true]at e7
     obtain⟨b',d',o',y1,y2,y3⟩:=hr.obj _ _ z1 rfl
     rw[hl]at y1
     cases y1
     cases o' with
     |loop L=>
      obtain⟨j1,j2,j3,j4,j5,j6,j7,j8,j9⟩:=y3
      have hlen:args.length=ps.length:=Nat.eq_of_beq_eq_true e7.1
      have hps: ∀p∈ps,p<L.tmps.size:=λp hp=>by
       rw[j4]
       exact A5 (List.all_eq_true.1 e7.2 p hp)
      have hsize:args'.toArray.size=L.params.size:=by
       rw[List.size_toArray,<-ha.1,hlen,<-j6,Array.length_toList]
      have hzip:(L.params.zip args'.toArray).foldl (λtmps (x:Nat×Value)=>tmps.setIfInBounds x.1 x.2) L.tmps=(ps.zip args').foldl (λtmps (x:Nat×Value)=>tmps.setIfInBounds x.1 x.2) L.tmps:=by
       rw[<-Array.foldl_toList,Array.toList_zip,j6]
      refine⟨L.fn,(ps.zip args').foldl (λtmps (x:Nat×Value)=>tmps.setIfInBounds x.1 x.2) L.tmps,L.assign,L.body, ?_,λc cs=> ?_⟩
      ·simp only[Instr.yield,Sem.run_bind,H4 y2,Result.andThen_ok]
       rw[if_neg (by simpa using hsize)]
       simp only[Sem.run_pure,<-hzip]
      ·have hF:FR E.P r {fn:=f,n,glob:=g,tmps:=F9 g ps args tm,todo:=[.code as, .beginRound, .code bd],mode:= .run,kind:= .normal,roundOf:=some l} cxR ([],c::cs)
         (Frame.round l' L.fn ((ps.zip args').foldl (λtmps (x:Nat×Value)=>tmps.setIfInBounds x.1 x.2) L.tmps) L.assign L.body .normal) (c::cs):=by
        refine⟨j3,by simp only[Frame.round];rw[Iu_,j4],λy v e=>Z1 e (_n:=n) j5 ha hlen hps,λ_=> ?_, .run,⟨d,hl⟩,λ_=>rfl,(λe=>by cases e),⟨⟨rfl,rfl⟩,(by simp[Frame.round]),rfl⟩⟩
        simp only[Frame.round,j7,j8]
       have z2':s3.mem=s.mem/\s3.next=s.next/\s3.lim=s.lim/\s3.cx=cxR:=z2
       obtain⟨w',r',k1,k2,cs',k3,k4⟩:=hrun.ok (out:= .inl p) e3 (by rw[z2'.2.2.2];exact hF) (by rw[z2'.1];exact hr) (show s3.lim<=s3.next by rw[z2'.2.2.1,z2'.2.1];exact hb) (by rw[z2'.2.1];exact hf)
       have hcs:cs'=c::cs:=by
        rcases k3 with k3|⟨_,_,_,_,_,k,_⟩
        ·exact k3.2
        ·cases k
       obtain⟨v',q1,q2,q3⟩:=k4
       refine⟨w',r',⟨k1.le,by rw[<-z2'.2.1];exact k1.nxt,λb hb=>by rw[<-z2'.2.1];exact k1.domB b hb,λb hb=>by rw[<-z2'.2.1];exact k1.domE b hb,k1.rel⟩,by rw[<-z2'.2.2.1];exact k2,rfl,v',q1,q2 c cs hcs⟩
     |_=>exact y3.elim
    |_=>cases e6
theorem Acm_ (he:EnvOK E){run:AF->M (Value×FrameMode)}(hrun:RunOK E run):DeferOK E (CZ E run) where
 loc:=λf args m=>LF _ (by
  refine Ij (m:=M.bind (BA E f args .deferred) run) (f:=λp=>M.pure (none,p.2)) (g:=λc=>M.bind getCx λcx=>M.pure (some c,upOf cx)) (Aa (Zt _ _ _) hrun.loc) (λp=>Ae _) λc=>Aa Ie λcx=>Ae _)
 ok:=by
  intro w0 w r f args args' m m' s out s' h hr hb hf ha hm
  obtain⟨s2,e1,rfl⟩:=El h
  have e1':R.rec (motive:=λ_=>R (Option (List PanicEntry)×FrameMode)) .none (λp s=> .some (none,p.2) s) (λc s=> .some (some c,upOf s.cx) s) (M.bind (BA E f args .deferred) run ⟨s.mem,s.next,s.lim,s.rd,s.wr, .cx (some m) (some [])⟩)=rOf out s2:=e1
  have main: ∃af s1 o,BA E f args .deferred ⟨s.mem,s.next,s.lim,s.rd,s.wr, .cx (some m) (some [])⟩= .some af s1/\run af s1=rOf o s2/\out= .inl (match o with| .inl p=>(none,p.2)| .inr c=>(some c,upOf s2.cx)):=by
   cases e2:M.bind (BA E f args .deferred) run ⟨s.mem,s.next,s.lim,s.rd,s.wr, .cx (some m) (some [])⟩with
   |none=>rw[e2]at e1';exact(Al e1').elim
   |some p s3=>
    rw[e2]at e1'
    obtain⟨rfl,rfl⟩:=AM (show R.some (none,p.2) s3=rOf out s2 from e1')
    obtain⟨af,s1,e3,e4⟩:=bind_some e2
    exact⟨af,s1, .inl p,e3,e4,rfl⟩
   |pan c s3=>
    rw[e2]at e1'
    obtain⟨rfl,rfl⟩:=AM (show R.some (some c,upOf s3.cx) s3=rOf out s2 from e1')
    rcases Nl e2 with e3|⟨af,s1,e3,e4⟩
    ·exact((GG _ _ _).no _ _ _ e3).elim
    ·exact⟨af,s1, .inr c,e3,e4,rfl⟩
  obtain⟨af,s1,o,e2,e3,rfl⟩:=main
  have hen:=λ(c:Frame) (cs:List Frame) (hc:c.mode=m')=>Is (base:=([],c::cs)) (cx:= .cx (some m) (some [])) he e2 ha (cs:=c::cs) ⟨⟨rfl,c,cs,m',rfl,by rw[<-hc],hm⟩,rfl, .nil⟩
  refine⟨(hen {(default:Frame)with mode:=m'} [] rfl).1,λc cs hc=> ?_⟩
  obtain⟨_,hF,rfl⟩:=hen c cs hc
  obtain⟨w',r',k1,k2,cs',k3,k4⟩:=hrun.ok e3 hF hr hb hf
  rcases k3 with⟨k3,_⟩|⟨u,c0,rest,m2,k5,k6,k7,k8,k9,k10⟩
  ·cases k3
  ·cases k7
   refine⟨w',r',_,m2,rfl,⟨k1.le,k1.nxt,k1.domB,k1.domE,k1.rel⟩,k2,rfl, ?_, ?_⟩
   ·cases o with
    |inl p=>rw[show p.2=u from k10 p.1 p.2 rfl];exact k9
    |inr ch=>rw[show upOf s2.cx=u by rw[k5];rfl];exact k9
   ·cases o with
    |inl p=>
     obtain⟨v',q1,q2,q3⟩:=k4
     exact⟨v',q2 _ _ k8⟩
    |inr ch=>
     obtain⟨ch',q1,q2⟩:=k4
     exact⟨ch',q1,q2 _ _ k8⟩
theorem Jn (he:EnvOK E): ∀fuel,RunOK E (runF E fuel)
 |0=>⟨λ_=>Ag,λh=>(Al h).elim⟩
 |fuel+1=>by
  have ih:=Jn he fuel
  have c1:=AbV_ he ih
  have c2:=Xr_ ih
  have c3:=Acm_ he ih
  have h0: ∀af,runF E (fuel+1) af=M.bind (DS E (Ab E (runF E fuel)) (A9 (runF E fuel)) (CZ E (runF E fuel)) af) (DO (runF E fuel)):=λ_=>rfl
  have lR: ∀p,Loc (DO (runF E fuel) p):=λp=>by
   cases p with
   |go af=>exact ih.loc af
   |fin v u=>exact Ae _
  refine⟨λaf=>by rw[h0];exact Aa (Hy_ he c1 c2 c3 af) lR, ?_⟩
  intro w0 w r base af fr cs s out s' h hF hr hb hf
  rw[h0]at h
  rcases Bj h with⟨p,s1,e1,e2⟩|⟨c,e1,rfl⟩
  ·have L1:=(Hy_ he c1 c2 c3 af).at' s (.inl p) s1 e1 hb
   have L2:=(lR p).at' s1 out s' e2 L1.bnd
   obtain⟨w1,r1,k1,k2,k3⟩:=Xx (out:= .inl p) he c1 c2 c3 e1 hF hr hb (λb x y=>hf b x (Nat.lt_of_lt_of_le y L2.next))
   cases p with
   |go af'=>
    obtain⟨fr',cs',k4,k5,k6⟩:=k3
    obtain⟨w2,r2,q1,q2,q3⟩:=ih.ok (show runF E fuel af' s1=rOf out s' from e2) k5 k1.rel L1.bnd (k1.fresh hf)
    exact⟨w2,r2,k1.trans q1,q2.trans k2,q3.head k4 k6⟩
   |fin v u=>
    obtain⟨rfl,rfl⟩:=AM (show R.some (v,u) s1=rOf out s' from e2)
    exact⟨w1,r1,k1,k2,k3⟩
  ·obtain⟨w1,r1,k1,k2,k3⟩:=Xx (out:= .inr c) he c1 c2 c3 e1 hF hr hb hf
   exact⟨w1,r1,k1,k2,k3⟩
end
theorem Rel.empty (w:World){K:Know}(hK:K.sure w):Rel w (.nil K) .E w:=
 ⟨.refl _ _,(λb b' d e=>by cases e),(λl b v e=>by cases e),(λl1 l2 b1 v1 b2 v2 b' d1 d2 e=>by cases e),(λl o e=>by cases e),(λl1 l2 o1 o2 b' d1 d2 e=>by cases e),(λt sz e=>by cases e),(λt1 t2 s1 s2 k1 k2 e=>by cases e),hK,(λl n e=>by cases e),⟨(λl b v e=>by cases e),(λl b v b' d e=>by cases e),(λl o b' d e=>by cases e),(λl n b' d e=>by cases e)⟩⟩
def st0:St:=⟨.E,0,0,[],[], .no⟩
theorem Bs_ {E:Env}(he:EnvOK E){fuel f:Nat}{v:Value}{s':St}(ho:E.orc.get f=none)(hx:E.ext.get f=none)(h:callF E fuel f [] st0= .some v s')(hp:plain v=true)(w:World):Calls E.P f #[] w λe w'=>e= .returned v/\Below w.heap.size w w':=by
 intro cs
 replace h:Ab E (runF E fuel) f [] st0= .some v s':=h
 unfold Ab at h
 rw[ho,hx]at h
 obtain⟨s2,e1,rfl⟩:=El (o:= .inl v) (show within cxN (M.bind (M.bind (BA E f [] .normal) (runF E fuel)) fstV) st0=rOf (.inl v) s' from h)
 obtain⟨af,s1,o,e2,e3,e4⟩:=Gx (GG _ _ _) e1
 obtain⟨_,hF,rfl⟩:=Is (r:= .nil .no) (base:=([],cs)) (cx:=cxN) he e2 .nil (cs:=cs) ⟨⟨rfl,rfl⟩,rfl, .nil⟩
 obtain⟨w',r',k1,k2,cs',k3,k4⟩:=(Jn he fuel).ok e3 hF (Rel.empty w (aY w)) (Nat.le_refl _) (λ_ _ _=>⟨rfl,rfl⟩)
 cases o with
 |inr c=>cases e4
 |inl p=>
  cases e4
  obtain⟨v',q1,q2,q3⟩:=k4
  obtain⟨fr',x1,x2,x3⟩:=q3 rfl rfl
  have hcs:cs'=cs:=by
   rcases k3 with k3|⟨_,_,_,_,_,k,_⟩
   ·exact k3.2
   ·cases k
  subst hcs
  exact⟨.returned v',w',fr',⟨by rw[q1.eq_of_plain hp],k1.rel.below⟩,x3,x1,x2⟩
def T.tab {α:Type}(f:Nat->Option α)(fuel:Nat):Nat->Nat->T α:=
 Nat.rec (motive:=λ_=>Nat->Nat->T α) (λ_ _=> .E) (λ_ ih a s=>fN (Nat.add a s) λb=>fN (Nat.add b s) λc=>fN (Nat.add s s) λd=> .N (f a) (ih b d) (ih c d)) fuel
theorem a8 {α:Type}(f:Nat->Option α)(n a s:Nat):T.tab f (n+1) a s= .N (f a) (T.tab f n (a+s) (s+s)) (T.tab f n (a+s+s) (s+s)):=by
 show fN (Nat.add a s) (λb=>fN (Nat.add b s) λc=>fN (Nat.add s s) λd=>T.N (f a) (T.tab f n b d) (T.tab f n c d))=_
 rw[Ao,Ao,Ao]
 rfl
theorem aT {α:Type}(f:Nat->Option α): ∀(n a s k:Nat) {x:α},T.get (T.tab f n a s) k=some x->f (a+s*k)=some x
 |0,_,_,_,_,h=>by cases h
 |n+1,a,s,0,x,h=>by
  rw[a8,aO]at h
  simpa using h
 |n+1,a,s,k+1,x,h=>by
  rw[a8,aJ]at h
  split at h
  ·rename_i hk
   have:=aT f n _ _ _ h
   rw[<-this]
   congr 1
   have e:k=2*(k/2):=by omega
   rw[Nat.add_mul,Nat.mul_add,<-Nat.two_mul,Nat.mul_left_comm,<-e]
   omega
  ·rename_i hk
   have:=aT f n _ _ _ h
   rw[<-this]
   congr 1
   have e:k=2*(k/2)+1:=by omega
   have e2:s*(k+1)=s*(2*(k/2))+s+s:=by rw[e];rw[show 2*((2*(k/2)+1)/2)=2*(k/2) by omega];rw[Nat.mul_add,Nat.mul_add];omega
   rw[e2,Nat.add_mul,<-Nat.two_mul,Nat.mul_left_comm]
   omega
theorem T.tab_get {α:Type}(f:Nat->Option α): ∀(n a s k:Nat),k+1<2^n->T.get (T.tab f n a s) k=f (a+s*k)
 |0,_,_,k,h=>by simp at h
 |n+1,a,s,0,_=>by rw[a8];rfl
 |n+1,a,s,k+1,h=>by
  rw[a8,aJ]
  split
  ·rename_i hk
   rw[T.tab_get f n _ _ _ (by rw[Nat.pow_succ]at h;omega)]
   congr 1
   have e:k=2*(k/2):=by omega
   rw[Nat.add_mul,Nat.mul_add,<-Nat.two_mul,Nat.mul_left_comm,<-e]
   omega
  ·rename_i hk
   rw[T.tab_get f n _ _ _ (by rw[Nat.pow_succ]at h;omega)]
   congr 1
   have e:k=2*(k/2)+1:=by omega
   have e2:s*(k+1)=s*(2*(k/2))+s+s:=by rw[e];rw[show 2*((2*(k/2)+1)/2)=2*(k/2) by omega];rw[Nat.mul_add,Nat.mul_add];omega
   rw[e2,Nat.add_mul,<-Nat.two_mul,Nat.mul_left_comm]
   omega
def ti0 (P:Program)(t:Nat):Option TI:=
 match P.info? t,P.underlying t with
 |some n,some u=>(match n.zero with
  |some z=>Bool.rec (motive:=λ_=>Option TI) none (some ⟨u,n.size,aggD u,z.cells.toList,n.bytes⟩) (Nat.beq z.cells.toList.length n.size&&z.cells.toList.all plain&&(aggV z==aggD u))
  |none=>none)
 |_,_=>none
def Fx (ok:Nat->Bool)(u:TypeDesc):Bool:=
 match u with
 | .struct fs=>fs.toList.all λf=>ok f.type
 |_=>true
def tyB (P:Program)(n:Nat):Nat->Bool:=
 Nat.rec (motive:=λ_=>Nat->Bool) (λ_=>false) (λ_ ih t=>Nat.blt t 4095&&Option.rec (motive:=λ_=>Bool) false (λi=>Fx ih i.u) (ti0 P t)) n
def tyAt (P:Program)(t:Nat):Option TI:=Bool.rec (motive:=λ_=>Option TI) none (ti0 P t) (tyB P 8 t)
def fnAt (P:Program)(f:Nat):Option Func:=
 match P.funcs[f]? with
 | some fn => Bool.rec (motive := fun _ => Option Func) (some fn) none (fn.name == "runtime.NumGoroutine")
 |none=>none
def envOf (P:Program)(orc ext:T (List Value->M Value)):Env:=⟨P,T.tab (tyAt P) 12 0 1,T.tab (fnAt P) 12 0 1,orc,ext⟩
theorem TB_ {P:Program}{t:Nat}{i:TI}(h:ti0 P t=some i):TyOK P t i:=by
 unfold ti0 at h
 split at h
 ·rename_i n u h1 h2
  split at h
  ·rename_i z h3
   cases hb:(Nat.beq z.cells.toList.length n.size&&z.cells.toList.all plain&&(aggV z==aggD u))with
   |false=>rw[hb]at h;cases h
   |true=>
    rw[hb]at h
    cases h
    rw[Bool.and_eq_true,Bool.and_eq_true]at hb
    refine⟨⟨n,h1,rfl,rfl,z,h3,rfl⟩,h2,rfl,Nat.eq_of_beq_eq_true hb.1.1,λv hv=>List.all_eq_true.1 hb.1.2 v hv,λn' z' e1 e2=> ?_⟩
    rw[h1]at e1
    cases e1
    rw[h3]at e2
    cases e2
    exact eq_of_beq hb.2
  ·cases h
 ·cases h
theorem Oh {P:Program}{n t:Nat}:tyB P (n+1) t=(Nat.blt t 4095&&Option.rec (motive:=λ_=>Bool) false (λi=>Fx (tyB P n) i.u) (ti0 P t)):=rfl
theorem QV {P:Program}: ∀{n t:Nat},tyB P n t=true->tyB P (n+1) t=true
 |0,_,h=>by cases h
 |n+1,t,h=>by
  rw[Oh,Bool.and_eq_true]at h ⊢
  refine⟨h.1, ?_⟩
  have h2:=h.2
  cases e:ti0 P t with
  |none=>rw[e]at h2;cases h2
  |some i=>
   rw[e]at h2
   replace h2:Fx (tyB P n) i.u=true:=h2
   show Fx (tyB P (n+1)) i.u=true
   unfold Fx at h2 ⊢
   cases hu:i.u with
   |struct fs=>
    rw[hu]at h2
    simp only at h2 ⊢
    exact List.all_eq_true.2 λf hf=>QV (List.all_eq_true.1 h2 f hf)
   |_=>rfl
theorem Hw_ {P:Program}{t:Nat}{i:TI}(h:tyAt P t=some i):tyB P 8 t=true/\ti0 P t=some i:=by
 unfold tyAt at h
 cases e:tyB P 8 t with
 |false=>rw[e]at h;cases h
 |true=>rw[e]at h;exact⟨rfl,h⟩
theorem WA (P:Program)(orc ext:T (List Value->M Value)):EnvTy (envOf P orc ext) where
 ok:=λt i h=>by
  have h1:=aT (tyAt P) 12 0 1 t h
  rw[Nat.zero_add,Nat.one_mul]at h1
  exact TB_ (Hw_ h1).2
 flds:=λt i fs h hu f hf=>by
  have h1:=aT (tyAt P) 12 0 1 t h
  rw[Nat.zero_add,Nat.one_mul]at h1
  obtain⟨h2,h3⟩:=Hw_ h1
  rw[show(8:Nat)=7+1 from rfl,Oh,Bool.and_eq_true,h3]at h2
  have h4:Fx (tyB P 7) i.u=true:=h2.2
  unfold Fx at h4
  rw[hu]at h4
  have h5:tyB P 7 f.type=true:=List.all_eq_true.1 h4 f (by simpa using hf)
  have h6:=QV h5
  have h7:=h6
  rw[Oh,Bool.and_eq_true]at h7
  have h8:f.type<4095:=A5 h7.1
  have h9:T.get (envOf P orc ext).ty f.type=tyAt P f.type:=by
   have:=T.tab_get (tyAt P) 12 0 1 f.type (Nat.succ_lt_succ h8)
   rw[Nat.zero_add,Nat.one_mul]at this
   exact this
  rw[h9]
  unfold tyAt
  rw[h6]
  cases e:ti0 P f.type with
  |none=>rw[e]at h7;cases h7.2
  |some fi=>exact⟨fi,rfl⟩
theorem ES_ (P : Program) (orc ext : T (List Value → M Value)) (f : Nat) (fn : Func) (h : T.get (envOf P orc ext).fn f = some fn) : P.funcs[f]? = some fn ∧ fn.name ≠ "runtime.NumGoroutine" := by
 have h1:=aT (fnAt P) 12 0 1 f h
 rw[Nat.zero_add,Nat.one_mul]at h1
 unfold fnAt at h1
 split at h1
 ·rename_i fn' h2
  cases hb : (fn'.name == "runtime.NumGoroutine") with
  |true=>rw[hb]at h1;cases h1
  |false=>
   rw[hb]at h1
   cases h1
   exact⟨h2,λe=>by rw[e]at hb;simp at hb⟩
 ·cases h1
theorem envOf_ok (P:Program)(h:P.follows .mixedOrders=true):EnvOK (envOf P .E .E):=
 ⟨WA P .E .E,ES_ P .E .E,h,(λf m e=>by cases e),(λe=>by cases e),(λf m e=>by cases e),(λe=>by cases e)⟩
structure OrcOK (P:Program)(f:Nat)(m:List Value->M Value):Prop where
 loc: ∀args,Loc (m args)
 ok: ∀{w0 w:World} {r:Inj} {args args':List Value} {s:St} {out:Out Value} {s':St},m args s=rOf out s'->Rel w0 r s.mem w->Bnd s->AA r s.next s'.next->VRs r args args'->
  (∀w,(callFunc f args'.toArray).run P w= .ok (.enter f args'.toArray) w)/\
  ∀c cs,∃w' r',Goes w0 r s s' r' w'/\s'.lim=s.lim/\s'.cx=s.cx/\Ends P r' out (lone (Frame.enter P f args'.toArray .normal) (c::cs) w) c cs w'
def OrcT (P:Program)(orc:T (List Value->M Value)):Prop:= ∀f m,T.get orc f=some m->OrcOK P f m
theorem OrcT.E (P:Program):OrcT P .E:=λf m h=>by cases h
theorem OrcT.set {P:Program}{orc:T (List Value->M Value)}(h:OrcT P orc){f:Nat}{m:List Value->M Value}(k:OrcOK P f m):OrcT P (T.set orc f m):=λg n e=>by
 rw[T.get_set]at e
 split at e
 ·rename_i hg
  cases e
  rw[hg]
  exact k
 ·exact h g n e
def valR (r:R Value):Option Value:=R.rec (motive:=λ_=>Option Value) none (λv _=>some v) (λ_ _=>none) r
theorem P5 {r:R Value}{v:Value}(h:valR r=some v): ∃s,r= .some v s:=by
 cases r with
 |none=>cases h
 |some a s=>cases h;exact⟨s,rfl⟩
 |pan c s=>cases h
def Oz (v:Value)(args:List Value):M Value:=List.rec (motive:=λ_=>M Value) (M.pure v) (λ_ _ _=>aA) args
theorem Aa_ {E:Env}(he:EnvOK E){fuel f:Nat}{args:List Value}{v:Value}{s s':St}(ho:E.orc.get f=none)(hx:E.ext.get f=none)(h:callF E fuel f args s= .some v s')(args':Array Value)(w:World):(callFunc f args').run E.P w= .ok (.enter f args') w:=by
 replace h:Ab E (runF E fuel) f args s= .some v s':=h
 unfold Ab at h
 rw[ho,hx]at h
 obtain⟨s2,e1,rfl⟩:=El (o:= .inl v) (show within cxN (M.bind (M.bind (BA E f args .normal) (runF E fuel)) fstV) s=rOf (.inl v) s' from h)
 obtain⟨af,s1,o,e2,_⟩:=Gx (GG _ _ _) e1
 obtain⟨_,fn,c,h1,h2,_⟩:=UT e2
 obtain⟨k1,k2⟩:=he.fn f fn h1
 unfold callFunc
 simp[Sem.run,program,k1,k2,h2]
theorem Mt_ {E:Env}(he:EnvOK E){fuel f:Nat}{v:Value}(ho:E.orc.get f=none)(hx:E.ext.get f=none)(h:valR (callF E fuel f [] st0)=some v)(hp:plain v=true):OrcOK E.P f (Oz v) where
 loc:=λargs=>by cases args<;>first|exact Ae _|exact Ag
 ok:=by
  intro w0 w r args args' s out s' e hr hb hf ha
  obtain⟨s1,h⟩:=P5 h
  cases args with
  |cons a l=>exact(Al e).elim
  |nil=>
   obtain⟨rfl,rfl⟩:=AM (show R.some v s=rOf out s' from e)
   rw[ha.inv_nil]
   refine⟨λw=>Aa_ he ho hx h _ w,λc cs=> ?_⟩
   obtain⟨e,w',fr,⟨rfl,hbl⟩,hs,_,hl⟩:=Bs_ he ho hx h hp w (c::cs)
   exact⟨w',r, .of_rel rfl (hr.beyond hbl),rfl,rfl,v, .of_plain hp,hs.trans (.one (step_leave_returned hl))⟩
theorem calls_of {E:Env}(he:EnvOK E){fuel f:Nat}{v:Value}(ho:E.orc.get f=none)(hx:E.ext.get f=none)(h:valR (callF E fuel f [] st0)=some v)(hp:plain v=true)(w:World):Calls E.P f #[] w λe w'=>e= .returned v/\Below w.heap.size w w':=by
 obtain⟨s1,h⟩:=P5 h
 exact Bs_ he ho hx h hp w
structure ExtOK (P:Program)(f:Nat)(m:List Value->M Value):Prop where
 loc: ∀args,Loc (m args)
 ok: ∀{w0 w:World} {r:Inj} {args args':List Value} {s:St} {out:Out Value} {s':St},m args s=rOf out s'->Rel w0 r s.mem w->VRs r args args'->Od P w0 w r s f args' out s'
def ExtT (P:Program)(ext:T (List Value->M Value)):Prop:= ∀f m,T.get ext f=some m->ExtOK P f m
theorem ExtT.E (P:Program):ExtT P .E:=λf m h=>by cases h
theorem ExtT.set {P:Program}{ext:T (List Value->M Value)}(h:ExtT P ext){f:Nat}{m:List Value->M Value}(k:ExtOK P f m):ExtT P (T.set ext f m):=λg n e=>by
 rw[T.get_set]at e
 split at e
 ·rename_i hg
  cases e
  rw[hg]
  exact k
 ·exact h g n e
theorem Gb_ (P:Program)(h:P.follows .mixedOrders=true){orc ext:T (List Value->M Value)}(ho:OrcT P orc)(hx:ExtT P ext):EnvOK (envOf P orc ext):=
 ⟨WA P orc ext,ES_ P orc ext,h,λf m e=>(ho f m e).loc,λe=>(ho _ _ e).ok,λf m e=>(hx f m e).loc,λe=>(hx _ _ e).ok⟩
section
variable {P:Program}{f:Nat}{fn:Func}
theorem VC_ {e : Array Value → Sem Value} (hf : P.funcs[f]? = some fn) (h1 : (fn.name == "runtime.NumGoroutine") = false) (h2 : fn.body = none) (h3 : Extern.findNext fn = none) (h4 : Extern.find fn = some e)
  (args:Array Value) {w w':World} {v:Value} (h:(e args).run P w= .ok v w'):(callFunc f args).run P w= .ok (.value v) w':=by
 have h1' : ¬fn.name = "runtime.NumGoroutine" := by simpa using h1
 unfold callFunc
 simp[run_program,Sem.run_bind,hf,h1',h2,h3,h4,h]
theorem YU_ (op:IntKind->Int->Int->Sem Value)(k:IntKind)(b:Bool)(x y:Value):Extern.Atomic.update op k b #[x,y]=(do
 let a <-asAddr x
 let old <-Extern.Atomic.read (.int k) a
 let new <-op k (<-asInt old) (<-asInt y)
 store a new .atomic
 pure (if b then new else old)):=rfl
def Hd (args:List Value):M Value:=
 match args with
 |[.pointer (some a), .int .i64 y]=>M.bind (rdV a) λv=>match v with
  | .int .i64 x=>fI (wrap64 (addI x y)) λn=>M.bind (wrV a (.int .i64 n)) λ_=>M.pure (.int .i64 n)
  |_=>aA
 |_=>aA
theorem Kd_ (hf : P.funcs[f]? = some fn) (h1 : (fn.name == "runtime.NumGoroutine") = false) (h2 : fn.body = none) (h3 : Extern.findNext fn = none) (h4 : Extern.find fn = some (Extern.Atomic.update (Op.intArith .add) .i64 true)) : ExtOK P f Hd where
 loc:=λargs=>by
  unfold Hd
  split
  ·refine Aa (Ex _) λv=> ?_
   split
   ·exact Gt _ λn=>Aa (QZ _ _) λ_=>Ae _
   ·exact Ag
  ·exact Ag
 ok:=by
  intro w0 w r args args' s out s' e hr ha
  unfold Hd at e
  split at e
  ·rename_i a y
   obtain⟨p',l',rfl,q1,q2⟩:=ha.inv
   obtain⟨y',l2,rfl,q3,q4⟩:=q2.inv
   obtain⟨a',rfl,qa⟩:=q1.ptr_inv
   have:=q4.inv_nil
   subst this
   have:=q3.int_inv
   subst this
   rcases Bj e with⟨v,s1,e1,e2⟩|⟨c,e1,_⟩
   case inr=>exact((D8 _).no _ _ _ e1).elim
   obtain⟨v',g1,g2,g3⟩:=Es e1 hr qa
   split at e2
   ·rename_i x
    have:=g2.int_inv
    subst this
    rw[BO,Iw,KF]at e2
    rcases Bj e2 with⟨u,s2,e3,e4⟩|⟨c,e3,_⟩
    case inr=>exact((Q8 _ _).no _ _ _ e3).elim
    obtain⟨rfl,rfl⟩:=AM (show R.some (Value.int .i64 (IntKind.i64.wrap (x+y))) s2=rOf out s' from e4)
    obtain⟨k1,k2,k3,k4,k5,k6,k7⟩:=HP_ (P:=P) (v':= .int .i64 (IntKind.i64.wrap (x+y))) e3 (by rw[g3.1];exact hr) qa (.of_plain rfl)
    refine⟨.int .i64 (IntKind.i64.wrap (x+y)), .int .i64 (IntKind.i64.wrap (x+y)),w.setCell a' (.int .i64 (IntKind.i64.wrap (x+y))),r,rfl, .of_plain rfl, .of_rel (by rw[k3];exact g3.2.1) k2,by rw[k4];exact g3.2.2.1,by rw[k5];exact g3.2.2.2,VC_ hf h1 h2 h3 h4 _ ?_⟩
    show(Extern.Atomic.update (Op.intArith .add) .i64 true #[.pointer (some a'), .int .i64 y]).run P w=_
    rw[YU_]
    simp[Extern.Atomic.read,asAddr,asInt,asIntOf,load,store,Sem.run,g1,Op.intArith,k7]
   ·exact(Al e2).elim
  ·exact(Al e).elim
end
section
variable {α β:Type}{s:St}
def W (m:M α)(s:St)(Q:α->St->Prop):Prop:= ∃a s',m s= .some a s'/\Q a s'
theorem W.mono {m:M α}{Q R:α->St->Prop}(h:W m s Q)(k: ∀a s',Q a s'->R a s'):W m s R:=let ⟨a,s',e,q⟩:=h;⟨a,s',e,k a s' q⟩
theorem W.of {m:M α}{Q:α->St->Prop}{a:α}{s':St}(e:m s= .some a s')(q:Q a s'):W m s Q:=⟨a,s',e,q⟩
theorem W.pure {a:α}{Q:α->St->Prop}(q:Q a s):W (M.pure a) s Q:=⟨a,s,rfl,q⟩
theorem Ba {m:M α}{f:α->M β}{a:α}{s1:St}(e:m s= .some a s1):M.bind m f s=f a s1:=by
 unfold M.bind
 rw[e]
theorem W.bind {m:M α}{f:α->M β}{Q:β->St->Prop}(h:W m s λa s1=>W (f a) s1 Q):W (M.bind m f) s Q:=by
 obtain⟨a,s1,e,b,s2,e2,q⟩:=h
 refine⟨b,s2, ?_,q⟩
 unfold M.bind
 rw[e]
 exact e2
theorem W.chk {b:Bool}{m:M α}{Q:α->St->Prop}(hb:b=true)(h:W m s Q):W (M.chk b m) s Q:=by subst hb;exact h
theorem W.on {x:Option α}{a:α}{f:α->M β}{Q:β->St->Prop}(e:x=some a)(h:W (f a) s Q):W (M.on x f) s Q:=by subst e;exact h
theorem W.ofOpt {x:Option α}{a:α}{Q:α->St->Prop}(e:x=some a)(q:Q a s):W (M.ofOpt x) s Q:=by subst e;exact W.pure q
theorem W.cast {m n:M α}{Q:α->St->Prop}(e:m s=n s)(h:W n s Q):W m s Q:=let ⟨a,s',e',q⟩:=h;⟨a,s',e.trans e',q⟩
theorem W.np {m:M α}{Q:α->St->Prop}(h:W m s Q):W (noP m) s Q:=by
 obtain⟨a,s1,e,q⟩:=h
 exact⟨a,s1,by unfold noP;rw[e],q⟩
theorem Bv {a b:Nat}(h:a<b):Nat.blt a b=true:=by simpa using h
theorem HI {a b:Nat}(h:b<=a):Nat.blt a b=false:=by
 cases e:Nat.blt a b with
 |false=>rfl
 |true=>exact absurd (A5 e) (Nat.not_lt_of_le h)
def St.rdN (s:St)(l:Nat):St:=⟨s.mem,s.next,s.lim,notes l s.lim s.rd,s.wr,s.cx⟩
def St.wrN (s:St)(l:Nat)(c:Cell):St:=⟨T.set s.mem l c,s.next,s.lim,s.rd,notes l s.lim s.wr,s.cx⟩
def St.cxN (s:St)(c:Ctx):St:=⟨s.mem,s.next,s.lim,s.rd,s.wr,c⟩
theorem Gr (l lim:Nat)(r:List Nat): ∃d,notes l lim r=d++r/\ ∀x∈d,x<lim/\x=l:=by
 rcases Nat.lt_or_ge l lim with h|h
 ·exact⟨[l],by unfold notes;rw[Bv h];rfl,λx hx=>by
  have:x=l:=by simpa using hx
  exact⟨by omega,this⟩⟩
 ·exact⟨[],by unfold notes;rw[HI h];rfl,λx hx=>by cases hx⟩
structure Ext (F G:Nat->Prop)(s s':St):Prop where
 nxt:s.next<=s'.next
 lim:s'.lim=s.lim
 cx:s'.cx=s.cx
 mem: ∀l,l<s.next-> ¬G l->T.get s'.mem l=T.get s.mem l
 rd: ∃d,s'.rd=d++s.rd/\ ∀l∈d,l<s.lim/\F l
 wr: ∃d,s'.wr=d++s.wr/\ ∀l∈d,l<s.lim/\G l
abbrev Non:Nat->Prop:=λ_=>False
theorem Ext.refl {F G:Nat->Prop}(s:St):Ext F G s s:=⟨Nat.le_refl _,rfl,rfl,λ_ _ _=>rfl,⟨[],rfl,λ_ h=>by cases h⟩,⟨[],rfl,λ_ h=>by cases h⟩⟩
theorem Ext.trans {F G F' G':Nat->Prop}{s s1 s2:St}(h:Ext F G s s1)(k:Ext F' G' s1 s2)(hb:s.lim<=s.next)(hF: ∀l,l<s.lim->F' l->F l)(hG: ∀l,l<s.next->G' l->G l):Ext F G s s2:=by
 refine⟨Nat.le_trans h.nxt k.nxt,k.lim.trans h.lim,k.cx.trans h.cx,λl hl hg=> ?_, ?_, ?_⟩
 ·rw[k.mem l (Nat.lt_of_lt_of_le hl h.nxt) λx=>hg (hG l hl x)]
  exact h.mem l hl hg
 ·obtain⟨d1,e1,q1⟩:=h.rd
  obtain⟨d2,e2,q2⟩:=k.rd
  refine⟨d2++d1,by rw[e2,e1,List.append_assoc],λl hl=> ?_⟩
  rcases List.mem_append.1 hl with hl|hl
  ·have:=q2 l hl
   rw[h.lim]at this
   exact⟨this.1,hF l this.1 this.2⟩
  ·exact q1 l hl
 ·obtain⟨d1,e1,q1⟩:=h.wr
  obtain⟨d2,e2,q2⟩:=k.wr
  refine⟨d2++d1,by rw[e2,e1,List.append_assoc],λl hl=> ?_⟩
  rcases List.mem_append.1 hl with hl|hl
  ·have:=q2 l hl
   rw[h.lim]at this
   exact⟨this.1,hG l (Nat.lt_of_lt_of_le this.1 hb) this.2⟩
  ·exact q1 l hl
theorem Ext.weak {F G F' G':Nat->Prop}{s s1:St}(k:Ext F' G' s s1)(hb:s.lim<=s.next)(hF: ∀l,l<s.lim->F' l->F l)(hG: ∀l,l<s.next->G' l->G l):Ext F G s s1:=(Ext.refl s).trans k hb hF hG
theorem Ext.rdN {F G:Nat->Prop}(s:St)(l:Nat)(hF:l<s.lim->F l):Ext F G s (s.rdN l):=by
 obtain⟨d,e,q⟩:=Gr l s.lim s.rd
 exact⟨Nat.le_refl _,rfl,rfl,λ_ _ _=>rfl,⟨d,e,λx hx=>⟨(q x hx).1,by have:=q x hx;rw[this.2];exact hF (by rw[<-this.2];exact this.1)⟩⟩,⟨[],rfl,λ_ h=>by cases h⟩⟩
theorem Ext.wrN {F G:Nat->Prop}(s:St)(l:Nat)(c:Cell)(hG:G l):Ext F G s (s.wrN l c):=by
 obtain⟨d,e,q⟩:=Gr l s.lim s.wr
 refine⟨Nat.le_refl _,rfl,rfl,λx _ hx=> ?_,⟨[],rfl,λ_ h=>by cases h⟩,⟨d,e,λx hx=>⟨(q x hx).1,by rw[(q x hx).2];exact hG⟩⟩⟩
 show T.get (T.set s.mem l c) x=_
 rw[T.get_set,if_neg]
 intro h
 exact hx (by rw[h];exact hG)
theorem Ext.bnd {F G:Nat->Prop}{s s':St}(h:Ext F G s s')(hb:s.lim<=s.next):s'.lim<=s'.next:=by rw[h.lim];exact Nat.le_trans hb h.nxt
def At (s:St)(b o:Nat)(v:Value):Prop:=b+o<s.next/\(T.get s.mem (b+o)=some (.C b v)\/T.get s.mem (b+o)=some (.O (.old b v)))
def Own (s:St)(b o:Nat)(v:Value):Prop:=b+o<s.next/\T.get s.mem (b+o)=some (.C b v)
theorem Own.at' {b o:Nat}{v:Value}(h:Own s b o v):At s b o v:=⟨h.1, .inl h.2⟩
theorem At.ext {F G:Nat->Prop}{s s':St}{b o:Nat}{v:Value}(h:At s b o v)(e:Ext F G s s')(hG: ¬G (b+o)):At s' b o v:=
 ⟨Nat.lt_of_lt_of_le h.1 e.nxt,by rw[e.mem _ h.1 hG];exact h.2⟩
theorem Own.ext {F G:Nat->Prop}{s s':St}{b o:Nat}{v:Value}(h:Own s b o v)(e:Ext F G s s')(hG: ¬G (b+o)):Own s' b o v:=
 ⟨Nat.lt_of_lt_of_le h.1 e.nxt,by rw[e.mem _ h.1 hG];exact h.2⟩
theorem At.same {s s':St}{b o:Nat}{v:Value}(h:At s b o v)(hm:s'.mem=s.mem)(hn:s'.next=s.next):At s' b o v:=by
 unfold At at *
 rw[hm,hn]
 exact h
theorem Own.same {s s':St}{b o:Nat}{v:Value}(h:Own s b o v)(hm:s'.mem=s.mem)(hn:s'.next=s.next):Own s' b o v:=by
 unfold Own at *
 rw[hm,hn]
 exact h
def Row (s:St)(b o:Nat)(l:List Value):Prop:= ∀i v,l[i]?=some v->At s b (o+i) v
def An (s:St)(b o:Nat)(l:List Value):Prop:= ∀i v,l[i]?=some v->Own s b (o+i) v
theorem An.row {b o:Nat}{l:List Value}(h:An s b o l):Row s b o l:=λi v e=>(h i v e).at'
theorem Row.ext {F G:Nat->Prop}{s s':St}{b o:Nat}{l:List Value}(h:Row s b o l)(e:Ext F G s s')(hG: ∀i,i<l.length-> ¬G (b+(o+i))):Row s' b o l:=λi v q=>(h i v q).ext e (hG i (List.getElem?_eq_some_iff.1 q).1)
theorem An.ext {F G:Nat->Prop}{s s':St}{b o:Nat}{l:List Value}(h:An s b o l)(e:Ext F G s s')(hG: ∀i,i<l.length-> ¬G (b+(o+i))):An s' b o l:=λi v q=>(h i v q).ext e (hG i (List.getElem?_eq_some_iff.1 q).1)
theorem Row.ext0 {F:Nat->Prop}{s s':St}{b o:Nat}{l:List Value}(h:Row s b o l)(e:Ext F Non s s'):Row s' b o l:=h.ext e λ_ _=>id
theorem An.ext0 {F:Nat->Prop}{s s':St}{b o:Nat}{l:List Value}(h:An s b o l)(e:Ext F Non s s'):An s' b o l:=h.ext e λ_ _=>id
theorem At.ext0 {F:Nat->Prop}{s s':St}{b o:Nat}{v:Value}(h:At s b o v)(e:Ext F Non s s'):At s' b o v:=h.ext e id
theorem Own.ext0 {F:Nat->Prop}{s s':St}{b o:Nat}{v:Value}(h:Own s b o v)(e:Ext F Non s s'):Own s' b o v:=h.ext e id
theorem Row.tail {b o:Nat}{v:Value}{l:List Value}(h:Row s b o (v::l)):Row s b (o+1) l:=λi x e=>by
 have:=h (i+1) x (by simpa using e)
 rw[show o+1+i=o+(i+1) by omega]
 exact this
theorem W.rdC {l:Nat}{c:Cell}{Q:Cell->St->Prop}(h:T.get s.mem l=some c)(hl:l<s.next)(q:Q c (s.rdN l)):W (rdC l) s Q:=by
 obtain⟨mem,next,lim,rd,wr,cx⟩:=s
 refine⟨c,_, ?_,q⟩
 unfold Am.rdC
 simp only at h hl ⊢
 rw[Bv hl,h]
 rfl
theorem W.wrC {l:Nat}{c:Cell}{Q:Unit->St->Prop}(hl:l<s.next)(q:Q () (s.wrN l c)):W (wrC l c) s Q:=by
 obtain⟨mem,next,lim,rd,wr,cx⟩:=s
 refine⟨(),_, ?_,q⟩
 unfold Am.wrC
 simp only at hl ⊢
 obtain⟨v,a,b,e⟩:=aU mem l c
 rw[Bv hl]
 show T.rec (motive:=λ_=>R Unit) .none (λa b d _ _=>R.some () (St.mk (.N a b d) next lim rd (notes l lim wr) cx)) (T.set mem l c)=R.some () (St.mk (T.set mem l c) next lim rd (notes l lim wr) cx)
 rw[e]
theorem PM (a:Nat):Nat.beq a a=true:=Nat.beq_refl a
theorem W.rdV {b o:Nat}{v:Value}{Q:Value->St->Prop}(h:At s b o v)(q:Q v (s.rdN (b+o))):W (rdV ⟨b,o,none⟩) s Q:=by
 refine W.bind ?_
 rcases h with⟨h1,h2|h2⟩
 ·refine W.rdC h2 h1 (W.ofOpt (a:=v) ?_ q)
  show Bool.rec (motive:=λ_=>Option Value) none (some v) (Nat.beq b b)=_
  rw[PM]
 ·refine W.rdC h2 h1 (W.ofOpt (a:=v) ?_ q)
  show Bool.rec (motive:=λ_=>Option Value) none (some v) (Nat.beq b b)=_
  rw[PM]
theorem W.wrV {b o:Nat}{u v:Value}{Q:Unit->St->Prop}(h:Own s b o u)(hv:oneCell v=true)(q:Q () ((s.rdN (b+o)).wrN (b+o) (.C b v))):W (wrV ⟨b,o,none⟩ v) s Q:=by
 refine W.bind (W.rdC h.2 h.1 (W.chk ?_ (W.wrC h.1 q)))
 show(Nat.beq b b&&oneCell v)=true
 rw[PM,hv]
 rfl
theorem W.fA {γ:Type}{a:Addr}{K:Addr->M γ}{Q:γ->St->Prop}(h:W (K a) s Q):W (fA a K) s Q:=by rw[Cq];exact h
theorem W.fN {γ:Type}{n:Nat}{K:Nat->M γ}{Q:γ->St->Prop}(h:W (K n) s Q):W (fN n K) s Q:=by rw[Ao];exact h
theorem W.rdL: ∀{l:List Value} {s:St} {b o:Nat} {Q:List Value->St->Prop},Row s b o l->
  (∀s1,s1.mem=s.mem->s1.next=s.next->Ext (λx=>b+o<=x/\x<b+o+l.length) Non s s1->Q l s1)->W (rdL l.length ⟨b,o,none⟩) s Q
 |[],s,b,o,Q,_,q=>W.pure (q s rfl rfl (Ext.refl s))
 |v::l,s,b,o,Q,h,q=>by
  have hv:=h 0 v rfl
  show W (Am.fA (⟨b,o,none⟩:Addr) λa=>M.bind (Am.rdV a) λv=>M.bind (Am.rdL l.length ⟨a.block,Nat.succ a.off,a.spot⟩) λl=>M.pure (v::l)) s Q
  refine W.fA (W.bind (W.rdV hv (W.bind (W.rdL (l:=l) (s:=s.rdN (b+(o+0))) (b:=b) (o:=o+1) (λi x e=>(h.tail i x e).same rfl rfl) λs1 h1 h2 h3=>W.pure (q s1 h1 h2 ?_)))))
  have e0:Ext (λx=>b+o<=x/\x<b+o+(v::l).length) Non s (s.rdN (b+(o+0))):=Ext.rdN s _ λ_=>by simp
  obtain⟨d1,p1,p2⟩:=e0.rd
  obtain⟨d2,p3,p4⟩:=h3.rd
  obtain⟨d3,p5,p6⟩:=h3.wr
  refine⟨Nat.le_of_eq h2.symm,h3.lim,h3.cx,λx _ _=>by rw[h1];rfl,⟨d2++d1,by rw[p3,p1,List.append_assoc],λx hx=> ?_⟩,⟨d3,p5,p6⟩⟩
  rcases List.mem_append.1 hx with hx|hx
  ·have:=p4 x hx
   simp only[List.length_cons]
   exact⟨this.1,by omega,by omega⟩
  ·exact p2 x hx
end
section
variable {α β:Type}{s:St}
abbrev In (b o n:Nat):Nat->Prop:=λx=>b+o<=x/\x<b+o+n
theorem wrLs: ∀{l:List Value} {s:St} {b o:Nat},(∀i,i<l.length-> ∃u,Own s b (o+i) u)->l.all oneCell=true->
  ∃s1,wrL l ⟨b,o,none⟩ s= .some () s1/\s1.next=s.next/\Ext (In b o l.length) (In b o l.length) s s1/\An s1 b o l
 |[],s,b,o,_,_=>⟨s,rfl,rfl,Ext.refl s,λi v e=>by simp at e⟩
 |v::l,s,b,o,h,h1=>by
  rw[List.all_cons,Bool.and_eq_true]at h1
  obtain⟨u,hu⟩:=h 0 (by simp)
  obtain⟨a,s1,e1,rfl⟩: ∃a s1,wrV ⟨b,o,none⟩ v s= .some a s1/\s1=(s.rdN (b+o)).wrN (b+o) (.C b v):=W.wrV hu h1.1 rfl
  have x1:Ext (In b o (l.length+1)) (In b o (l.length+1)) s ((s.rdN (b+o)).wrN (b+o) (.C b v)):=by
   have a1:Ext (In b o (l.length+1)) (In b o (l.length+1)) s (s.rdN (b+o)):=Ext.rdN s _ λ_=>⟨Nat.le_refl _,by omega⟩
   have a2:Ext (In b o (l.length+1)) (In b o (l.length+1)) (s.rdN (b+o)) ((s.rdN (b+o)).wrN (b+o) (.C b v)):=Ext.wrN _ _ _ ⟨Nat.le_refl _,by omega⟩
   obtain⟨d1,p1,p2⟩:=a1.rd
   obtain⟨d2,p3,p4⟩:=a2.wr
   exact⟨Nat.le_refl _,rfl,rfl,λx q1 q2=>a2.mem x q1 q2,⟨d1,p1,p2⟩,⟨d2,p3,p4⟩⟩
  have own: ∀i w,i≠0->Own s b (o+i) w->Own ((s.rdN (b+o)).wrN (b+o) (.C b v)) b (o+i) w:=λi w hi hw=>⟨hw.1,by
   show T.get (T.set s.mem (b+o) (.C b v)) (b+(o+i))=_
   rw[T.get_set,if_neg (by omega)]
   exact hw.2⟩
  obtain⟨s2,e2,n2,x2,r2⟩:=wrLs (l:=l) (s:=(s.rdN (b+o)).wrN (b+o) (.C b v)) (b:=b) (o:=o+1) (λi hi=>by
   obtain⟨w,hw⟩:=h (i+1) (by simpa using hi)
   rw[show o+1+i=o+(i+1) by omega]
   exact⟨w,own _ _ (by omega) hw⟩) h1.2
  have e3:wrL (v::l) ⟨b,o,none⟩ s= .some () s2:=by
   show Am.fA (⟨b,o,none⟩:Addr) (λa=>M.bind (wrV a v) λ_=>wrL l ⟨a.block,Nat.succ a.off,a.spot⟩) s=_
   rw[Cq]
   unfold M.bind
   rw[e1]
   exact e2
  refine⟨s2,e3,n2, ?_,λi w e=> ?_⟩
  ·obtain⟨d1,p1,p2⟩:=x1.rd
   obtain⟨d2,p3,p4⟩:=x2.rd
   obtain⟨d3,p5,p6⟩:=x1.wr
   obtain⟨d4,p7,p8⟩:=x2.wr
   have sub: ∀x,In b (o+1) l.length x->In b o (l.length+1) x:=λx hx=>⟨by have:=hx.1;omega,by have:=hx.2;omega⟩
   refine⟨Nat.le_of_eq n2.symm,x2.lim,x2.cx,λx q1 q2=>(x2.mem x q1 λy=>q2 (sub x y)).trans (x1.mem x q1 q2),⟨d2++d1,by rw[p3,p1,List.append_assoc],λx hx=> ?_⟩,⟨d4++d3,by rw[p7,p5,List.append_assoc],λx hx=> ?_⟩⟩
   ·rcases List.mem_append.1 hx with hx|hx
    ·exact⟨(p4 x hx).1,sub x (p4 x hx).2⟩
    ·exact p2 x hx
   ·rcases List.mem_append.1 hx with hx|hx
    ·exact⟨(p8 x hx).1,sub x (p8 x hx).2⟩
    ·exact p6 x hx
  ·cases i with
   |zero=>
    have:v=w:=by simpa using e
    subst this
    have o1:Own ((s.rdN (b+o)).wrN (b+o) (.C b v)) b o v:=⟨hu.1,by
     show T.get (T.set s.mem (b+o) (.C b v)) (b+o)=_
     rw[T.get_set,if_pos rfl]⟩
    exact o1.ext x2 λy=>by have:=y.1;omega
   |succ i=>
    rw[show o+(i+1)=o+1+i by omega]
    exact r2 i w (by simpa using e)
theorem W.wrL {l:List Value}{b o:Nat}{Q:Unit->St->Prop}(h: ∀i,i<l.length-> ∃u,Own s b (o+i) u)(h1:l.all oneCell=true)
  (q: ∀s1,s1.next=s.next->Ext (In b o l.length) (In b o l.length) s s1->An s1 b o l->Q () s1):W (wrL l ⟨b,o,none⟩) s Q:=by
 obtain⟨s1,e,h2,h3,h4⟩:=wrLs h h1
 exact⟨(),s1,e,q s1 h2 h3 h4⟩
theorem O2: ∀(vs:List Value) (b loc:Nat) (t:T Cell) (l:Nat),T.get (layL b vs loc t) l=if loc<=l/\l<loc+vs.length then(vs[l-loc]?).map (Cell.C b)else T.get t l
 |[],b,loc,t,l=>by
  rw[if_neg (by simp)]
  rfl
 |v::vs,b,loc,t,l=>by
  have e:layL b (v::vs) loc t=layL b vs (loc+1) (T.set t loc (.C b v)):=by
   show Am.fN loc (λloc=>layL b vs (Nat.succ loc) (T.set t loc (.C b v)))=_
   rw[Ao]
  rw[e,O2 vs b (loc+1),T.get_set]
  simp only[List.length_cons]
  by_cases h1:l=loc
  ·subst h1
   rw[if_neg (by omega),if_pos rfl,if_pos (by omega),Nat.sub_self]
   rfl
  ·by_cases h2:loc+1<=l/\l<loc+1+vs.length
   ·rw[if_pos h2,if_pos (by omega),show l-loc=(l-(loc+1))+1 by omega]
    rfl
   ·rw[if_neg h2,if_neg h1,if_neg (by omega)]
theorem AbE_ (vs:List Value)(s:St): ∃s1,newL vs s= .some s.next s1/\s1.next=s.next+vs.length+1/\Ext Non Non s s1/\An s1 s.next 0 vs:=by
 obtain⟨mem,next,lim,rd,wr,cx⟩:=s
 refine⟨⟨layL next vs next mem,next+vs.length+1,lim,rd,wr,cx⟩, ?_,rfl,⟨by simp only;omega,rfl,rfl,λl hl _=> ?_,⟨[],rfl,λ_ h=>by cases h⟩,⟨[],rfl,λ_ h=>by cases h⟩⟩,λi v e=> ?_⟩
 ·show Am.fN next (λb=>Am.fN (Nat.succ (Nat.add b vs.length)) λn=>R.some b (St.mk (layL b vs b mem) n lim rd wr cx))=_
  rw[Ao,Ao]
  rfl
 ·simp only at hl ⊢
  rw[O2,if_neg (by omega)]
 ·have hi:=(List.getElem?_eq_some_iff.1 e).1
  refine⟨by simp only;omega, ?_⟩
  simp only
  rw[O2,if_pos (by omega),show next+(0+i)-next=i by omega,e]
  rfl
theorem W.newL {vs:List Value}{Q:Nat->St->Prop}(q: ∀s1,s1.next=s.next+vs.length+1->Ext Non Non s s1->An s1 s.next 0 vs->Q s.next s1):W (newL vs) s Q:=by
 obtain⟨s1,e,h1,h2,h3⟩:=AbE_ vs s
 exact⟨_,s1,e,q s1 h1 h2 h3⟩
theorem W.run {E:Env}{n:Nat}{af:AF}{Q:Value×FrameMode->St->Prop}(h:W (DS E (Ab E (runF E n)) (A9 (runF E n)) (CZ E (runF E n)) af) s λp s1=>W (DO (runF E n) p) s1 Q):W (runF E (n+1) af) s Q:=
 W.bind (m:=DS E (Ab E (runF E n)) (A9 (runF E n)) (CZ E (runF E n)) af) (f:=DO (runF E n)) h
theorem W.code {E:Env}{n f nt g:Nat}{tm:T Value}{todo k:List Item}{c:Code}{ki:CallKind}{ro:Option Nat}{Q:Value×FrameMode->St->Prop}(ht:skim 64 todo= .code c::k)
  (h:W (codeF E (Ab E (runF E n)) (A9 (runF E n)) ⟨f,nt,g,tm, .code c::k, .run,ki,ro⟩ k c) s λp s1=>W (DO (runF E n) p) s1 Q):W (runF E (n+1) ⟨f,nt,g,tm,todo, .run,ki,ro⟩) s Q:=by
 refine W.run ?_
 show W (noP (Fs E (Ab E (runF E n)) (A9 (runF E n)) ⟨f,nt,g,tm,skim 64 todo, .run,ki,ro⟩ (skim 64 todo))) s _
 rw[ht]
 exact W.np h
theorem W.go {E:Env}{n:Nat}{af:AF}{Q:Value×FrameMode->St->Prop}(h:W (runF E n af) s Q):W (DO (runF E n) (.go af)) s Q:=h
def Tm (tm:T Value)(l:List (Nat×Value)):Prop:= ∀p∈l,T.get tm p.1=some p.2
theorem Rf {E:Env}{tm:T Value}: ∀{rs:List Nat} {vs:List Value} {s:St},rs.map (T.get tm)=vs.map some->resL E tm (rs.map .tmp) s= .some vs s
 |[],[],_,_=>rfl
 |[],_::_,_,h=>by simp at h
 |_::_,[],_,h=>by simp at h
 |r::rs,v::vs,s,h=>by
  simp only[List.map_cons,List.cons.injEq]at h
  show M.bind (resV E tm (.tmp r)) (λv=>M.bind (resL E tm (rs.map .tmp)) λl=>M.pure (v::l)) s=_
  have e1:resV E tm (.tmp r) s= .some v s:=by
   show M.ofOpt (tm.get r) s=_
   rw[h.1]
   rfl
  rw[Ba e1,Ba (Rf h.2)]
  rfl
theorem W.ret {E:Env}{n f nt g:Nat}{tm:T Value}{todo:List Item}{ki:CallKind}{fn:Func}{rs:List Nat}{vs:List Value}{up:Option FrameMode}{Q:Value×FrameMode->St->Prop}(ht:(∃k,skim 64 todo= .code .ret::k)\/skim 64 todo=[])
  (hf:E.fn.get f=some fn) (hr:fn.results.toList=rs.map .tmp) (hv:rs.map (T.get tm)=vs.map some) (hc:s.cx= .cx up (some [])) (q:Q (tupV vs,up.getD .run) s):W (runF E (n+2) ⟨f,nt,g,tm,todo, .run,ki,none⟩) s Q:=by
 have h1:W (runF E (n+1) ⟨f,nt,g,tm,skim 64 todo, .returning,ki,none⟩) s Q:=by
  refine W.run ?_
  show W (CO E (CZ E (runF E n)) ⟨f,nt,g,tm,skim 64 todo, .returning,ki,none⟩) s _
  refine W.bind (W.of (a:=s.cx) (s':=s) (by obtain⟨mem,next,lim,rd,wr,cx⟩:=s;rfl) ?_)
  rw[hc]
  show W (outF E ⟨f,nt,g,tm,skim 64 todo, .returning,ki,none⟩ up) s _
  refine W.on hf (W.bind (W.of (a:=tupV vs) (s':=s) ?_ (W.pure (W.pure q))))
  show M.bind (resL E tm fn.results.toList) (λl=>M.pure (tupV l)) s=_
  rw[hr,Ba (Rf hv)]
  rfl
 rcases ht with⟨k,ht⟩|ht
 ·refine W.code ht ?_
  rw[ht]at h1
  exact W.pure h1
 ·refine W.run ?_
  show W (noP (Fs E (Ab E (runF E (n+1))) (A9 (runF E (n+1))) ⟨f,nt,g,tm,skim 64 todo, .run,ki,none⟩ (skim 64 todo))) s _
  rw[ht]at h1 ⊢
  exact W.np (W.pure h1)
theorem W.within {c:Ctx}{m:M α}{Q:α->St->Prop}(h:W m (s.cxN c) λa s1=>Q a (s1.cxN s.cx)):W (within c m) s Q:=by
 obtain⟨a,s1,e,q⟩:=h
 obtain⟨mem,next,lim,rd,wr,cx⟩:=s
 obtain⟨mem1,next1,lim1,rd1,wr1,cx1⟩:=s1
 refine⟨a,_, ?_,q⟩
 have e':m ⟨mem,next,lim,rd,wr,c⟩= .some a ⟨mem1,next1,lim1,rd1,wr1,cx1⟩:=e
 unfold Am.within
 simp only[e']
 rfl
theorem W.call {E:Env}{ih:AF->M (Value×FrameMode)}{f nt g:Nat}{fn:Func}{body:Code}{args:List Value}{Q:Value->St->Prop}(ho:E.orc.get f=none)(hx:E.ext.get f=none)(hf:E.fn.get f=some fn)(hb:fn.body=some body)
  (hn:fn.ntmps=nt) (hg:Ar fn=g) (ha:args.length<=nt) (h:W (ih ⟨f,nt,g,Cd g args 0 .E,[.code body], .run, .normal,none⟩) (s.cxN cxN) λp s1=>Q p.1 (s1.cxN s.cx)):W (Ab E ih f args) s Q:=by
 unfold Ab
 rw[ho,hx]
 refine W.within (W.bind (W.bind ?_))
 have e:BA E f args .normal (s.cxN cxN)= .some ⟨f,nt,g,Cd g args 0 .E,[.code body], .run, .normal,none⟩ (s.cxN cxN):=by
  unfold BA
  rw[hf]
  show M.on fn.body (λc=>M.chk (Nat.ble args.length fn.ntmps) (Am.fN fn.ntmps λn=>Am.fN (Ar fn) λg=>M.pure (⟨f,n,g,Cd g args 0 .E,[.code c], .run, .normal,none⟩:AF))) _=_
  rw[hb]
  show M.chk (Nat.ble args.length fn.ntmps) (Am.fN fn.ntmps λn=>Am.fN (Ar fn) λg=>M.pure (⟨f,n,g,Cd g args 0 .E,[.code body], .run, .normal,none⟩:AF)) _=_
  rw[show Nat.ble args.length fn.ntmps=true from Nat.ble_eq_true_of_le (by rw[hn];exact ha),Ao,Ao,hn,hg]
  rfl
 exact W.of e (h.mono λp s1 q=>W.pure q)
theorem aI {E:Env}{s:St}{ih:AF->M (Value×FrameMode)}{f nt g:Nat}{fn:Func}{body:Code}{args:List Value}{Q:Value->St->Prop}(hf:E.fn.get f=some fn)(h:W (ih ⟨f,nt,g,Cd g args 0 .E,[.code body], .run, .normal,none⟩) (s.cxN cxN) λp s1=>Q p.1 (s1.cxN s.cx))(ho:E.orc.get f=none:=by kernel_rfl)(hx:E.ext.get f=none:=by kernel_rfl)(hb:fn.body=some body:=by kernel_rfl)(hn:fn.ntmps=nt:=by rfl)(hg:Ar fn=g:=by rfl)(ha:args.length<=nt:=by simp):W (Ab E ih f args) s Q:=W.call ho hx hf hb hn hg ha h
end
section
variable {α β:Type}{s:St}
theorem Bc {n:Int}(h1: -9223372036854775808<=n)(h2:n<=9223372036854775807):wrap64 n=n:=by
 rw[Iw]
 have e:IntKind.i64.wrap n=if n%18446744073709551616≥9223372036854775808 then n%18446744073709551616-18446744073709551616 else n%18446744073709551616:=by
  unfold IntKind.wrap
  simp[IntKind.bits,IntKind.signed]
 rw[e]
 by_cases h:n%18446744073709551616≥9223372036854775808
 ·rw[if_pos h];omega
 ·rw[if_neg h];omega
theorem Cv_ (n:Int)(s:St):rI n s= .some (.int .i64 (wrap64 n)) s:=by unfold rI;rw[BO]
theorem Fi (b:Bool)(s:St):rB b s= .some (.bool b) s:=by cases b<;>rfl
theorem ED (f:Int->Int->St->R Value)(slow:Value->Value->M Value)(a b:Int):int2 f slow (.int .i64 a) (.int .i64 b) s=f a b s:=rfl
theorem RJ (slow:Value->Value->M Value)(a b:Int):int2 (λa b s=>rI (addI a b) s) slow (.int .i64 a) (.int .i64 b) s= .some (.int .i64 (wrap64 (a+b))) s:=by rw[ED,Cv_,KF]
theorem AaG_ (slow:Value->Value->M Value)(a b:Int):int2 (λa b s=>rI (subI a b) s) slow (.int .i64 a) (.int .i64 b) s= .some (.int .i64 (wrap64 (a-b))) s:=by rw[ED,Cv_,TN]
theorem Ja_ (slow:Value->Value->M Value)(a b:Int):int2 (λa b s=>rB (ltI a b) s) slow (.int .i64 a) (.int .i64 b) s= .some (.bool (decide (a<b))) s:=by rw[ED,Fi,Hf]
theorem Abw_ (slow:Value->Value->M Value)(a b:Int):int2 (λa b s=>rB (ltI b a) s) slow (.int .i64 a) (.int .i64 b) s= .some (.bool (decide (b<a))) s:=by rw[ED,Fi,Hf]
theorem Lb_ (slow:Value->Value->M Value)(a b:Int):int2 (λa b s=>rB (!ltI b a) s) slow (.int .i64 a) (.int .i64 b) s= .some (.bool (decide (a<=b))) s:=by
 rw[ED,Fi,Hf]
 congr 2
 by_cases h:b<a
 ·simp[h]
 ·simp[h];omega
theorem Pd_ (slow:Value->Value->M Value)(a b:Int):int2 (λa b s=>rB (!ltI a b) s) slow (.int .i64 a) (.int .i64 b) s= .some (.bool (decide (b<=a))) s:=by
 rw[ED,Fi,Hf]
 congr 2
 by_cases h:a<b
 ·simp[h]
 ·simp[h];omega
theorem Qk_ (slow:Value->Value->M Value)(a b:Int):int2 (λa b s=>rB (eqI a b) s) slow (.int .i64 a) (.int .i64 b) s= .some (.bool (decide (a=b))) s:=by rw[ED,Fi,Mu]
theorem TF_ (slow:Value->Value->M Value)(a b:Int):int2 (λa b s=>rB (!eqI a b) s) slow (.int .i64 a) (.int .i64 b) s= .some (.bool (!decide (a=b))) s:=by rw[ED,Fi,Mu]
def setF {γ:Type}(d:Nat)(v:Value)(tm:T Value)(K:T Value->M γ):M γ:=λs=>T.rec (motive:=λ_=>R γ) .none (λa b c _ _=>K (.N a b c) s) (T.set tm d v)
def setT {γ:Type}(d:Nat)(v:Value)(tm:T Value)(K:T Value->M γ):M γ:=T.rec (motive:=λ_=>M γ) aA (λa b c _ _=>K (.N a b c)) (T.set tm d v)
def GQ (m:M ((Rho×T Value)×List OpLog))(bef:List Nat):M (Rho×T Value):=λs=>St.rec (motive:=λ_=>R (Rho×T Value)) (λmem next lim rd wr cx=>
 R.rec (motive:=λ_=>R (Rho×T Value)) .none (λp s=>Prod.rec (motive:=λ_=>R (Rho×T Value)) (λq l=>St.rec (motive:=λ_=>R (Rho×T Value)) (λmem' next' _ _ _ _=>
  Bool.rec (motive:=λ_=>R (Rho×T Value)) .none (.some q (St.mk mem' next' lim (rdsL lim l rd) (wrsL lim l wr) cx)) (Bt next l.reverse bef)) s) p) (λ_ _=> .none)
  (m (St.mk mem next (nat_lit 0) [] [] .no))) s
def dSt (mem:T Cell)(next:Nat):St:=⟨mem,next,0,[],[], .no⟩
def oSt (mem:T Cell)(next:Nat):St:=⟨mem,next,next,[],[], .no⟩
theorem W.draw {m:M ((Rho×T Value)×List OpLog)}{bef:List Nat}{Q:Rho×T Value->St->Prop}
  (h:W m (dSt s.mem s.next) λp s1=>Bt s.next p.2.reverse bef=true/\Q p.1 ⟨s1.mem,s1.next,s.lim,rdsL s.lim p.2 s.rd,wrsL s.lim p.2 s.wr,s.cx⟩):W (GQ m bef) s Q:=by
 obtain⟨⟨q,l⟩,s1,e,ha,hq⟩:=h
 obtain⟨mem,next,lim,rd,wr,cx⟩:=s
 obtain⟨mem1,next1,lim1,rd1,wr1,cx1⟩:=s1
 refine⟨q,_, ?_,hq⟩
 have e':m ⟨mem,next,0,[],[], .no⟩= .some (q,l) ⟨mem1,next1,lim1,rd1,wr1,cx1⟩:=e
 have ha':Bt next l.reverse bef=true:=ha
 unfold GQ
 simp only[e',ha']
theorem aV {m:M α}{f:α×OpLog->M β}{mem:T Cell}{next:Nat}{Q:β->St->Prop}
  (h:W m (oSt mem next) λv s1=> ∃F,Ext F Non (oSt mem next) s1/\ ∀rd,(∀x∈rd,x<next/\F x)->W (f (v,⟨next,s1.next,rd,[]⟩)) (dSt s1.mem s1.next) Q):W (M.bind (apartO m) f) (dSt mem next) Q:=by
 obtain⟨a,s1,e,F,x,q⟩:=h
 obtain⟨mem1,next1,lim1,rd1,wr1,cx1⟩:=s1
 have hcx:cx1= .no:=x.cx
 obtain⟨d1,p1,p2⟩:=x.rd
 obtain⟨d2,p3,p4⟩:=x.wr
 have e1:rd1=d1:=by simpa [oSt]using p1
 have e2:wr1=[]:=by
  have:wr1=d2:=by simpa [oSt]using p3
  rw[this]
  cases d2 with
  |nil=>rfl
  |cons y l=>exact(p4 y (by simp)).2.elim
 subst hcx
 subst e2
 refine W.bind (W.of (a:=(a,⟨next,next1,rd1,[]⟩)) (s':=dSt mem1 next1) ?_ (q rd1 λy hy=>p2 y (by rw[<-e1];exact hy)))
 have e':m ⟨mem,next,next,[],[], .no⟩= .some a ⟨mem1,next1,lim1,rd1,[], .no⟩:=e
 show Am.apartO m ⟨mem,next,0,[],[], .no⟩=_
 unfold Am.apartO
 simp only[e']
 rfl
theorem N9 (n0:Nat)(l acc:List Nat): ∀x,x∈Bd n0 l acc->(x∈l/\n0<=x)\/x∈acc:=by
 induction l with
 |nil=>exact λx h=> .inr h
 |cons a l ih=>
  intro x h
  have h':x∈Bool.rec (motive:=λ_=>List Nat) (Bd n0 l acc) (a::Bd n0 l acc) (Nat.ble n0 a):=h
  cases e:Nat.ble n0 a with
  |false=>
   rw[e]at h'
   rcases ih x h' with⟨h1,h2⟩|h1
   ·exact .inl ⟨by simp[h1],h2⟩
   ·exact .inr h1
  |true=>
   rw[e]at h'
   rcases List.mem_cons.1 h' with rfl|h'
   ·exact .inl ⟨by simp,Nat.le_of_ble_eq_true e⟩
   ·rcases ih x h' with⟨h1,h2⟩|h1
    ·exact .inl ⟨by simp[h1],h2⟩
    ·exact .inr h1
theorem AU_ (lo hi:Nat)(l:List Nat)(h: ∀x∈l,¬(lo<=x/\x<hi)):CV lo hi l=false:=by
 induction l with
 |nil=>rfl
 |cons a l ih=>
  have i:=ih λx hx=>h x (by simp[hx])
  show Bool.rec (motive:=λ_=>Bool) (CV lo hi l) (Bool.rec (motive:=λ_=>Bool) (CV lo hi l) true (Nat.blt a hi)) (Nat.ble lo a)=false
  cases e1:Nat.ble lo a with
  |false=>exact i
  |true=>
   cases e2:Nat.blt a hi with
   |false=>exact i
   |true=>exact absurd ⟨Nat.le_of_ble_eq_true e1,A5 e2⟩ (h a (by simp))
theorem Tl (bj:Nat)(news:List Nat): ∀(acc:List OpLog) (i:Nat),(∀k a,acc[k]?=some a->bj.testBit (i+k)=true\/ ∀x∈news,¬(a.lo<=x/\x<a.hi))->DJ bj news acc i=true
 |[],_,_=>rfl
 |a::acc,i,h=>by
  show((bj.testBit i|| !CV a.lo a.hi news)&&DJ bj news acc (Nat.succ i))=true
  rw[Bool.and_eq_true]
  constructor
  ·rcases h 0 a rfl with h|h
   ·rw[Nat.add_zero]at h;rw[h];rfl
   ·rw[AU_ _ _ _ h];simp
  ·refine Tl bj news acc (i+1) λk b hk=> ?_
   have:=h (k+1) b (by simpa using hk)
   rwa [show i+(k+1)=i+1+k by omega]at this
theorem Rc (n0:Nat)(all:List OpLog): ∀(l:List OpLog) (bef:List Nat) (j:Nat),l.length<=bef.length->(∀(k:Nat) (m:OpLog) (b:Nat),l[k]?=some m->bef[k]?=some b->m.wr=[]/\ ∀(i:Nat) (a:OpLog),i<j+k->all[i]?=some a->b.testBit i=true\/ ∀x∈m.rd,n0<=x-> ¬(a.lo<=x/\x<a.hi))->FA n0 all l bef j=true
 |[],_,_,_,_=>rfl
 |_::_,[],_,h,_=>by simp at h
 |m::l,b::bef,j,hl,h=>by
  show(F1 b (Bd n0 m.rd (Bd n0 m.wr [])) (all.take j)&&FA n0 all l bef (Nat.succ j))=true
  rw[Bool.and_eq_true]
  obtain⟨h1,h2⟩:=h 0 m b rfl rfl
  constructor
  ·have hn: ∀x,x∈Bd n0 m.rd (Bd n0 m.wr [])->x∈m.rd/\n0<=x:=λx hx=>by
    rw[h1]at hx
    rcases N9 _ _ _ x hx with h|h
    ·exact h
    ·cases h
   have hj:DJ b (Bd n0 m.rd (Bd n0 m.wr [])) (all.take j) 0=true:=by
    refine Tl _ _ _ _ λk a hk=> ?_
    rw[List.getElem?_take]at hk
    split at hk
    ·rename_i hkj
     rw[Nat.zero_add]
     rcases h2 k a (by omega) hk with q|q
     ·exact .inl q
     ·exact .inr λx hx=>q x (hn x hx).1 (hn x hx).2
    ·cases hk
   unfold F1
   generalize Bd n0 m.rd (Bd n0 m.wr [])=z at hj
   cases z with
   |nil=>rfl
   |cons x z=>exact hj
  ·refine Rc n0 all l bef (j+1) (by simpa using hl) λk m b e1 e2=> ?_
   obtain⟨h3,h4⟩:=h (k+1) m b (by simpa using e1) (by simpa using e2)
   exact⟨h3,λi a hi=>h4 i a (by omega)⟩
theorem YC {n0:Nat}{l:List OpLog}{bef:List Nat}(hl:l.length<=bef.length)(h: ∀(k:Nat) (m:OpLog) (b:Nat),l[k]?=some m->bef[k]?=some b->m.wr=[]/\ ∀(i:Nat) (a:OpLog),i<k->l[i]?=some a->b.testBit i=true\/ ∀x∈m.rd,n0<=x-> ¬(a.lo<=x/\x<a.hi))(hw: ∀m∈l,m.wr=[]):Bt n0 l bef=true:=by
 unfold Bt
 rw[Bool.and_eq_true]
 refine⟨Rc n0 l l bef 0 hl λk m b e1 e2=> ?_, ?_⟩
 ·obtain⟨h1,h2⟩:=h k m b e1 e2
  exact⟨h1,λi a hi=>h2 i a (by omega)⟩
 ·rw[Bool.or_eq_true]
  left
  unfold Cg_
  rw[List.all_eq_true]
  intro m hm
  rw[hw m hm]
  rfl
theorem Zf (lim:Nat)(l base:List Nat): ∃d,addL lim l base=d++base/\ ∀x∈d,x<lim/\x∈l:=by
 induction l with
 |nil=>exact⟨[],rfl,λ_ h=>by cases h⟩
 |cons a l ih=>
  obtain⟨d,e,q⟩:=ih
  obtain⟨d2,e2,q2⟩:=Gr a lim (addL lim l base)
  refine⟨d2++d, ?_,λx hx=> ?_⟩
  ·show notes a lim (addL lim l base)=_
   rw[e2,e,List.append_assoc]
  ·rcases List.mem_append.1 hx with hx|hx
   ·exact⟨(q2 x hx).1,by simp[(q2 x hx).2]⟩
   ·exact⟨(q x hx).1,by simp[(q x hx).2]⟩
theorem FK_ (lim:Nat)(l:List OpLog)(base:List Nat): ∃d,rdsL lim l base=d++base/\ ∀x∈d,x<lim/\ ∃m∈l,x∈m.rd:=by
 induction l with
 |nil=>exact⟨[],rfl,λ_ h=>by cases h⟩
 |cons m l ih=>
  obtain⟨d,e,q⟩:=ih
  obtain⟨d2,e2,q2⟩:=Zf lim m.rd (rdsL lim l base)
  refine⟨d2++d, ?_,λx hx=> ?_⟩
  ·show addL lim m.rd (rdsL lim l base)=_
   rw[e2,e,List.append_assoc]
  ·rcases List.mem_append.1 hx with hx|hx
   ·exact⟨(q2 x hx).1,m,by simp,(q2 x hx).2⟩
   ·obtain⟨h1,m',h2,h3⟩:=q x hx
    exact⟨h1,m',by simp[h2],h3⟩
theorem Yg_ (lim:Nat)(l:List OpLog)(base:List Nat)(h: ∀m∈l,m.wr=[]):wrsL lim l base=base:=by
 induction l with
 |nil=>rfl
 |cons m l ih=>
  show addL lim m.wr (wrsL lim l base)=base
  rw[h m (by simp),ih λx hx=>h x (by simp[hx])]
  rfl
theorem Ext.draw {F:Nat->Prop}{mem':T Cell}{next':Nat}{l:List OpLog}(h1:s.next<=next')(h2: ∀x,x<s.next->T.get mem' x=T.get s.mem x)(hw: ∀m∈l,m.wr=[])(hr: ∀m∈l,∀x∈m.rd,x<s.lim->F x):
  Ext F Non s ⟨mem',next',s.lim,rdsL s.lim l s.rd,wrsL s.lim l s.wr,s.cx⟩:=by
 obtain⟨d,e,q⟩:=FK_ s.lim l s.rd
 exact⟨h1,rfl,rfl,λx hx _=>h2 x hx,⟨d,e,λx hx=>by obtain⟨a,m,b,c⟩:=q x hx;exact⟨a,hr m b x c a⟩⟩,⟨[],Yg_ _ _ _ hw,λ_ h=>by cases h⟩⟩
end
section
variable {α β:Type}{s:St}
def oS (x:Option α)(f:α->M β):M β:=λs=>Option.rec (motive:=λ_=>R β) .none (λa=>f a s) x
def seqO (l:List (Option Value)):Option (List Value):=List.rec (motive:=λ_=>Option (List Value)) (some []) (λx _ ih=>onO x λv=>onO ih λl=>some (v::l)) l
def seqP (l:List (Nat×Option Value)):Option (List (Nat×Value)):=List.rec (motive:=λ_=>Option (List (Nat×Value))) (some []) (λx _ ih=>onO x.2 λv=>onO ih λl=>some ((x.1,v)::l)) l
def Cl.get {γ:Type}(c:Cl γ):γ:=Cl.rec (motive:=λ_=>γ) (λf=>f) c
def hdC (l:List Item):Code:=match l with| .code c::_=>c|_=> .skip
def dsC (c:Code):List Nat:=match c with| .region _ ops _=>dstL ops.toList|_=>[]
def brT (l:List Item):List Item:=match l with| .code (.cond _ a _)::k=> .code a::k|_=>[]
def brF (l:List Item):List Item:=match l with| .code (.cond _ _ b)::k=> .code b::k|_=>[]
def Ak (l:List Item):Option Nat:=match l with| .code (.cond (.tmp t) _ _)::_=>some t|_=>none
theorem W.reg {E:Env}{n f nt g:Nat}{tm:T Value}{T P:List Item}{ki:CallKind}{ro:Option Nat}{nice:Env->Ah->Ah->Am.T Value->M (Am.T Value)}{Q:Value×FrameMode->St->Prop}(ht:skim 64 T=P)(hP:P= .code (hdC P)::P.tail)
  (he: ∀(E:Env) (call round:Ah) (td k:List Item) (ki:CallKind) (ro:Option Nat) (tm:Am.T Value) (s:St),codeF E call round ⟨f,nt,g,tm,td, .run,ki,ro⟩ k (hdC P) s=regF call round ⟨f,nt,g,tm,td, .run,ki,ro⟩ (dsC (hdC P)) (λcall round _ tm=>nice E call round tm) k s)
  (hn:0<n) (h:W (nice E (Ab E (runF E (n-1))) (A9 (runF E (n-1))) tm) s λtm s1=>W (runF E (n-1) ⟨f,nt,g,tm,P.tail, .run,ki,ro⟩) s1 Q):W (runF E n ⟨f,nt,g,tm,T, .run,ki,ro⟩) s Q:=by
 obtain⟨m,rfl⟩: ∃m,n=m+1:=⟨n-1,by omega⟩
 rw[hP]at ht
 refine W.code ht (W.cast (he E _ _ _ _ _ _ _ _) ?_)
 rw[Nat.add_sub_cancel]at h
 obtain⟨tm',s1,e,hq⟩:=h
 refine⟨.go ⟨f,nt,g,tm',P.tail, .run,ki,ro⟩,s1, ?_,hq⟩
 unfold regF
 simp only[e]
 rfl
theorem W.cond {E:Env}{n f nt g t:Nat}{tm:T Value}{T P:List Item}{ki:CallKind}{ro:Option Nat}{v:Bool}{Q:Value×FrameMode->St->Prop}(ht:skim 64 T=P)(hx:Ak P=some t)(hv:Am.T.get tm t=some (.bool v))(hn:0<n)
  (h1:v=true->W (runF E (n-1) ⟨f,nt,g,tm,brT P, .run,ki,ro⟩) s Q) (h2:v=false->W (runF E (n-1) ⟨f,nt,g,tm,brF P, .run,ki,ro⟩) s Q):W (runF E n ⟨f,nt,g,tm,T, .run,ki,ro⟩) s Q:=by
 obtain⟨m,rfl⟩: ∃m,n=m+1:=⟨n-1,by omega⟩
 rw[Nat.add_sub_cancel]at h1 h2
 unfold Ak at hx
 split at hx
 ·rename_i t' a b k
  cases hx
  refine W.code ht ?_
  show W (M.on (Am.T.get tm t) (GK ⟨f,nt,g,tm, .code (.cond (.tmp t) a b)::k, .run,ki,ro⟩ a b k)) s _
  refine W.on hv ?_
  cases v with
  |true=>exact W.pure (h1 rfl)
  |false=>exact W.pure (h2 rfl)
 ·cases hx
theorem aK {E:Env}{n f nt g:Nat}{s:St}{tm:T Value}{T P:List Item}{ki:CallKind}{ro:Option Nat}{Q:Value×FrameMode->St->Prop}{t:Nat}(hx:Ak P=some t)(h:W (runF E (n-1) ⟨f,nt,g,tm,brT P, .run,ki,ro⟩) s Q)(ht:skim 64 T=P:=by rfl)(hv:Am.T.get tm t=some (.bool true):=by simp[Am.T.get_set]<;>omega)(hn:0<n:=by omega):W (runF E n ⟨f,nt,g,tm,T, .run,ki,ro⟩) s Q:=W.cond ht hx hv hn (λ_=>h) λh=>by cases h
theorem aH {E:Env}{n f nt g:Nat}{s:St}{tm:T Value}{T P:List Item}{ki:CallKind}{ro:Option Nat}{Q:Value×FrameMode->St->Prop}{t:Nat}(hx:Ak P=some t)(h:W (runF E (n-1) ⟨f,nt,g,tm,brF P, .run,ki,ro⟩) s Q)(ht:skim 64 T=P:=by rfl)(hv:Am.T.get tm t=some (.bool false):=by simp[Am.T.get_set]<;>omega)(hn:0<n:=by omega):W (runF E n ⟨f,nt,g,tm,T, .run,ki,ro⟩) s Q:=W.cond ht hx hv hn (λh=>by cases h) λ_=>h
structure RegEq (f nt g:Nat)(P:List Item)(nice:Env->Ah->Ah->T Value->M (T Value)):Prop where
 hd:P= .code (hdC P)::P.tail:=by kernel_rfl
 eq: ∀(E:Env) (call round:Ah) (td k:List Item) (ki:CallKind) (ro:Option Nat) (tm:T Value) (s:St),codeF E call round ⟨f,nt,g,tm,td, .run,ki,ro⟩ k (hdC P) s=regF call round ⟨f,nt,g,tm,td, .run,ki,ro⟩ (dsC (hdC P)) (λcall round _ tm=>nice E call round tm) k s:=by intros;kernel_rfl
theorem RegEq.w {E:Env}{n f nt g:Nat}{tm:T Value}{T P:List Item}{ki:CallKind}{ro:Option Nat}{nice:Env->Ah->Ah->Am.T Value->M (Am.T Value)}{Q:Value×FrameMode->St->Prop}(q:RegEq f nt g P nice)(ht:skim 64 T=P)(hn:0<n)
 (h:W (nice E (Ab E (runF E (n-1))) (A9 (runF E (n-1))) tm) s λtm s1=>W (runF E (n-1) ⟨f,nt,g,tm,P.tail, .run,ki,ro⟩) s1 Q):W (runF E n ⟨f,nt,g,tm,T, .run,ki,ro⟩) s Q:=W.reg ht q.hd q.eq hn h
theorem RegEq.u {E:Env}{n f nt g:Nat}{s:St}{tm:T Value}{T P:List Item}{ki:CallKind}{ro:Option Nat}{Q:Value×FrameMode->St->Prop}{nice:Env->Ah->Ah->Am.T Value->M (Am.T Value)}(q:RegEq f nt g P nice)(h:W (nice E (Ab E (runF E (n-1))) (A9 (runF E (n-1))) tm) s λtm s1=>W (runF E (n-1) ⟨f,nt,g,tm,P.tail, .run,ki,ro⟩) s1 Q)(ht:skim 64 T=P:=by rfl)(hn:0<n:=by omega):W (runF E n ⟨f,nt,g,tm,T, .run,ki,ro⟩) s Q:=q.w ht hn h
def befC (c:Code):List Nat:=match c with| .region _ ops _=>(Region.before ops).toList|_=>[]
def Bg (E:Env)(g n:Nat)(c:Code):List COp:=match c with
 | .region _ ops _=>(match BD E g n ops.toList ops.toList []with|some l=>Fz l (Ck l.length (Region.before ops).toList)|none=>[])
 |_=>[]
theorem W.regD {E:Env}{n f nt g:Nat}{tm:T Value}{T P:List Item}{ki:CallKind}{ro:Option Nat}{nice:Env->Ah->Ah->Am.T Value->M ((Rho×Am.T Value)×List OpLog)}{Q:Value×FrameMode->St->Prop}(ht:skim 64 T=P)(hP:P= .code (hdC P)::P.tail)
  (he: ∀(E:Env) (call round:Ah) (td k:List Item) (ki:CallKind) (ro:Option Nat) (tm:Am.T Value) (s:St),codeF E call round ⟨f,nt,g,tm,td, .run,ki,ro⟩ k (hdC P) s=M.bind (GQ (nice E call round tm) (befC (hdC P))) (endE call round ⟨f,nt,g,tm,td, .run,ki,ro⟩ (Bg E g nt (hdC P)) (dsC (hdC P)) k) s)
  (hn:0<n) {bef:List Nat} (hb:befC (hdC P)=bef) (h:W (nice E (Ab E (runF E (n-1))) (A9 (runF E (n-1))) tm) (dSt s.mem s.next) λp s1=>Bt s.next p.2.reverse bef=true/\
   W (AH (Ab E (runF E (n-1))) (A9 (runF E (n-1))) (Bg E g nt (hdC P)) p.1.1 p.1.2) ⟨s1.mem,s1.next,s.lim,rdsL s.lim p.2 s.rd,wrsL s.lim p.2 s.wr,s.cx⟩ λtm s1=>W (runF E (n-1) ⟨f,nt,g,tm,P.tail, .run,ki,ro⟩) s1 Q):W (runF E n ⟨f,nt,g,tm,T, .run,ki,ro⟩) s Q:=by
 obtain⟨m,rfl⟩: ∃m,n=m+1:=⟨n-1,by omega⟩
 rw[hP]at ht
 rw[Nat.add_sub_cancel]at h
 refine W.code ht (W.cast (he E _ _ _ _ _ _ _ _) (W.bind (W.draw ?_)))
 rw[hb]
 refine h.mono λp s1 q=>⟨q.1, ?_⟩
 obtain⟨tm',s2,e,hq⟩:=q.2
 refine⟨.go ⟨f,nt,g,tm',P.tail, .run,ki,ro⟩,s2, ?_,hq⟩
 unfold endE
 simp only[e]
 rfl
structure DrawEq (f nt g:Nat)(P:List Item)(bef:List Nat)(nice:Env->Ah->Ah->T Value->M ((Rho×T Value)×List OpLog)):Prop where
 hd:P= .code (hdC P)::P.tail:=by kernel_rfl
 bef:befC (hdC P)=bef:=by kernel_rfl
 eq: ∀(E:Env) (call round:Ah) (td k:List Item) (ki:CallKind) (ro:Option Nat) (tm:T Value) (s:St),codeF E call round ⟨f,nt,g,tm,td, .run,ki,ro⟩ k (hdC P) s=M.bind (GQ (nice E call round tm) (befC (hdC P))) (endE call round ⟨f,nt,g,tm,td, .run,ki,ro⟩ (Bg E g nt (hdC P)) (dsC (hdC P)) k) s:=by intros;kernel_rfl
theorem DrawEq.w {E:Env}{n f nt g:Nat}{tm:T Value}{T P:List Item}{ki:CallKind}{ro:Option Nat}{bef:List Nat}{nice:Env->Ah->Ah->Am.T Value->M ((Rho×Am.T Value)×List OpLog)}{Q:Value×FrameMode->St->Prop}(q:DrawEq f nt g P bef nice)(ht:skim 64 T=P)(hn:0<n)
 (h:W (nice E (Ab E (runF E (n-1))) (A9 (runF E (n-1))) tm) (dSt s.mem s.next) λp s1=>Bt s.next p.2.reverse bef=true/\
  W (AH (Ab E (runF E (n-1))) (A9 (runF E (n-1))) (Bg E g nt (hdC P)) p.1.1 p.1.2) ⟨s1.mem,s1.next,s.lim,rdsL s.lim p.2 s.rd,wrsL s.lim p.2 s.wr,s.cx⟩ λtm s1=>W (runF E (n-1) ⟨f,nt,g,tm,P.tail, .run,ki,ro⟩) s1 Q):W (runF E n ⟨f,nt,g,tm,T, .run,ki,ro⟩) s Q:=W.regD ht q.hd q.eq hn q.bef h
theorem DrawEq.u {E:Env}{n f nt g:Nat}{s:St}{tm:T Value}{T P:List Item}{ki:CallKind}{ro:Option Nat}{Q:Value×FrameMode->St->Prop}{bef:List Nat}{nice:Env->Ah->Ah->Am.T Value->M ((Rho×Am.T Value)×List OpLog)}(q:DrawEq f nt g P bef nice)(h:W (nice E (Ab E (runF E (n-1))) (A9 (runF E (n-1))) tm) (dSt s.mem s.next) λp s1=>Bt s.next p.2.reverse bef=true/\W (AH (Ab E (runF E (n-1))) (A9 (runF E (n-1))) (Bg E g nt (hdC P)) p.1.1 p.1.2) ⟨s1.mem,s1.next,s.lim,rdsL s.lim p.2 s.rd,wrsL s.lim p.2 s.wr,s.cx⟩ λtm s1=>W (runF E (n-1) ⟨f,nt,g,tm,P.tail, .run,ki,ro⟩) s1 Q)(ht:skim 64 T=P:=by rfl)(hn:0<n:=by omega):W (runF E n ⟨f,nt,g,tm,T, .run,ki,ro⟩) s Q:=q.w ht hn h
def mv {γ:Type}(x:Option Value)(K:Value->M γ):M γ:=M.bind (oS x λa=>M.pure a) K
end
section
variable {α β:Type}{s:St}
theorem AJ {m:M α}{Q:α->St->Prop}{a:α}{s':St}(e:m s= .some a s'):W m s Q=Q a s':=propext ⟨λ⟨b,s1,e1,q⟩=>by rw[e]at e1;cases e1;exact q,λq=>⟨a,s',e,q⟩⟩
theorem Jw (m:M α)(f:α->M β)(Q:β->St->Prop):W (M.bind m f) s Q=W m s λa s1=>W (f a) s1 Q:=propext ⟨λ⟨b,s2,e,q⟩=>by
 obtain⟨a,s1,e1,e2⟩:=bind_some e
 exact⟨a,s1,e1,b,s2,e2,q⟩,W.bind⟩
theorem AY (a:α)(Q:α->St->Prop):W (M.pure a) s Q=Q a s:=AJ rfl
theorem W_mv {γ:Type}(a:Value)(K:Value->M γ)(Q:γ->St->Prop):W (mv (some a) K) s Q=W (K a) s Q:=(Jw _ _ _).trans (AY a _)
theorem W_oS (a:α)(f:α->M β)(Q:β->St->Prop):W (oS (some a) f) s Q=W (f a) s Q:=propext Iff.rfl
theorem W_on (a:α)(f:α->M β)(Q:β->St->Prop):W (M.on (some a) f) s Q=W (f a) s Q:=propext Iff.rfl
theorem Dl (m:M α)(Q:α->St->Prop):W (M.chk true m) s Q=W m s Q:=propext Iff.rfl
theorem Tz (x y:M α)(Q:α->St->Prop):W (aN true x y) s Q=W x s Q:=propext Iff.rfl
theorem Dp (x y:M α)(Q:α->St->Prop):W (aN false x y) s Q=W y s Q:=propext Iff.rfl
theorem Uf {γ:Type}(d:Nat)(v:Value)(tm:T Value)(K:T Value->M γ)(Q:γ->St->Prop):W (setF d v tm K) s Q=W (K (T.set tm d v)) s Q:=by
 obtain⟨x,a,b,e⟩:=aU tm d v
 unfold setF
 rw[e]
theorem Gv {γ:Type}(d:Nat)(v:Value)(tm:T Value)(K:T Value->M γ)(Q:γ->St->Prop):W (setT d v tm K) s Q=W (K (T.set tm d v)) s Q:=by
 obtain⟨x,a,b,e⟩:=aU tm d v
 unfold setT
 rw[e]
theorem aC {E:Env}{n f nt g:Nat}{tm:T Value}{todo P:List Item}{ki:CallKind}{fn:Func}{rs:List Nat}{vs:List Value}{up:Option FrameMode}{Q:Value×FrameMode->St->Prop}(ht:skim 64 todo=P)(hP:(∃k,P= .code .ret::k)\/P=[])(hn:2<=n)
  (hf:E.fn.get f=some fn) (hr:fn.results.toList=rs.map .tmp) (hc:s.cx= .cx up (some [])) (hv:rs.map (Am.T.get tm)=vs.map some) (q:Q (tupV vs,up.getD .run) s):W (runF E n ⟨f,nt,g,tm,todo, .run,ki,none⟩) s Q:=by
 obtain⟨m,rfl⟩: ∃m,n=m+2:=⟨n-2,by omega⟩
 subst ht
 exact W.ret hP hf hr hv hc q
theorem CE (b:Bool):isK (.bool b)=true:=rfl
theorem Ls:isB (.bool true) true=true:=rfl
theorem HU:isB (.bool true) false=false:=rfl
theorem EB:isB (.bool false) true=false:=rfl
theorem Bp_:isB (.bool false) false=true:=rfl
theorem Cb:seqO []=some []:=rfl
theorem B2 (v:Value)(l:List (Option Value)):seqO (some v::l)=onO (seqO l) λl=>some (v::l):=rfl
theorem FW:seqP []=some []:=rfl
theorem FF (k:Nat)(v:Value)(l:List (Nat×Option Value)):seqP ((k,some v)::l)=onO (seqP l) λl=>some ((k,v)::l):=rfl
theorem BQ {γ:Type}(a:α)(K:α->Option γ):onO (some a) K=K a:=rfl
theorem Dr (c:Bool)(a b:Value)(Q:Value->St->Prop):W (Aw (.bool c) a b) s Q=Q (if c then a else b) s:=by
 refine AJ ?_
 cases c<;>rfl
section
variable {E:Env}{t:Nat}{xo yo:Operand}{Q:Value->St->Prop}
theorem AO (a b:Int):W (Cl.get (aBin E .add t xo yo) (.int .i64 a) (.int .i64 b)) s Q=Q (.int .i64 (wrap64 (a+b))) s:=AJ (RJ _ a b)
theorem Bq (a b:Int):W (Cl.get (aBin E .sub t xo yo) (.int .i64 a) (.int .i64 b)) s Q=Q (.int .i64 (wrap64 (a-b))) s:=AJ (AaG_ _ a b)
theorem AC (a b:Int):W (Cl.get (aBin E .lss t xo yo) (.int .i64 a) (.int .i64 b)) s Q=Q (.bool (decide (a<b))) s:=AJ (Ja_ _ a b)
theorem Bp (a b:Int):W (Cl.get (aBin E .gtr t xo yo) (.int .i64 a) (.int .i64 b)) s Q=Q (.bool (decide (b<a))) s:=AJ (Abw_ _ a b)
theorem BZ (a b:Int):W (Cl.get (aBin E .leq t xo yo) (.int .i64 a) (.int .i64 b)) s Q=Q (.bool (decide (a<=b))) s:=AJ (Lb_ _ a b)
theorem BJ (a b:Int):W (Cl.get (aBin E .geq t xo yo) (.int .i64 a) (.int .i64 b)) s Q=Q (.bool (decide (b<=a))) s:=AJ (Pd_ _ a b)
theorem A0 (a b:Int):W (Cl.get (aBin E .eql t xo yo) (.int .i64 a) (.int .i64 b)) s Q=Q (.bool (decide (a=b))) s:=AJ (Qk_ _ a b)
theorem AL (a b:Int):W (Cl.get (aBin E .neq t xo yo) (.int .i64 a) (.int .i64 b)) s Q=Q (.bool (!decide (a=b))) s:=AJ (TF_ _ a b)
end
end
theorem Rel.ofOld {w:World}{r:Inj}{mem:T Cell}(hk:r.known.sure w)(hd: ∀b b' d,r.blk b=some (b',d)->b'<w.heap.size)
  (ho: ∀loc c,T.get mem loc=some c-> ∃b v,c= .O (.old b v)/\ ∃b' d v',b<=loc/\r.blk b=some (b',d)/\w.cell? ⟨b',loc-b+d,none⟩=some v'/\VR r v v'):Rel w r mem w where
 below:= .refl _ _
 dom:=λb b' d e=>⟨Nat.le_refl _,hd b b' d e⟩
 cell:=λl b v e=>by obtain⟨_,_,e2,_⟩:=ho _ _ e;cases e2
 sep:=λl1 l2 b1 v1 b2 v2 b' d1 d2 e=>by obtain⟨_,_,e2,_⟩:=ho _ _ e;cases e2
 obj:=λl o e ht=>by obtain⟨_,_,e2,_⟩:=ho _ _ e;cases e2;cases ht
 sepO:=λl1 l2 o1 o2 b' d1 d2 e _ ht=>by obtain⟨_,_,e2,_⟩:=ho _ _ e;cases e2;cases ht
 tok:=λt sz e=>by obtain⟨_,_,e2,_⟩:=ho _ _ e;cases e2
 sepT:=λt1 t2 s1 s2 k1 k2 e=>by obtain⟨_,_,e2,_⟩:=ho _ _ e;cases e2
 known:=hk
 szs:=λl n e=>by obtain⟨_,_,e2,_⟩:=ho _ _ e;cases e2
 olds:={
  old:=λl b v e=>by obtain⟨_,_,e2,h⟩:=ho _ _ e;cases e2;exact h
  newC:=λl b v b' d e=>by obtain⟨_,_,e2,_⟩:=ho _ _ e;cases e2
  newO:=λl o b' d e ht=>by obtain⟨_,_,e2,_⟩:=ho _ _ e;cases e2;cases ht
  newS:=λl n b' d e=>by obtain⟨_,_,e2,_⟩:=ho _ _ e;cases e2}
theorem MX_ {E:Env}(he:EnvOK E){fuel f:Nat}{args:List Value}{args':Array Value}{v:Value}{s0:St}{r:Inj}(ho:E.orc.get f=none)(hx:E.ext.get f=none)(h:W (Ab E (runF E fuel) f args) s0 λu _=>u=v)(hp:plain v=true){w:World}(ha:VRs r args args'.toList)(hr:Rel w r s0.mem w)(hb:Bnd s0)
  (hf: ∀b,s0.next<=b->r.blk b=none/\r.ext b=none):Calls E.P f args' w λe w'=>e= .returned v/\Below w.heap.size w w':=by
 intro cs
 obtain⟨_,s',h,rfl⟩:=h
 unfold Ab at h
 rw[ho,hx]at h
 obtain⟨s2,e1,rfl⟩:=El (o:= .inl _) (show within cxN (M.bind (M.bind (BA E f args .normal) (runF E fuel)) fstV) s0=rOf (.inl _) s' from h)
 obtain⟨af,s1,o,e2,e3,e4⟩:=Gx (GG _ _ _) e1
 obtain⟨_,hF,rfl⟩:=Is (r:=r) (base:=([],cs)) (cx:=cxN) he e2 ha (cs:=cs) ⟨⟨rfl,rfl⟩,rfl, .nil⟩
 obtain⟨w',r',k1,k2,cs',k3,k4⟩:=(Jn he fuel).ok e3 hF hr hb (λb h1 _=>hf b h1)
 cases o with
 |inr c=>cases e4
 |inl p=>
  cases e4
  obtain⟨v',q1,q2,q3⟩:=k4
  obtain⟨fr',x1,x2,x3⟩:=q3 rfl rfl
  have hcs:cs'=cs:=by
   rcases k3 with k3|⟨_,_,_,_,_,k,_⟩
   ·exact k3.2
   ·cases k
  subst hcs
  exact⟨.returned v',w',fr',⟨by rw[q1.eq_of_plain hp],k1.rel.below⟩,x3,x1,x2⟩
theorem VRs.plains {r:Inj}: ∀{l:List Value},(∀v∈l,plain v=true)->VRs r l l
 |[],_=> .nil
 |v::l,h=> .cons (.of_plain (h v (by simp))) (VRs.plains λu hu=>h u (by simp[hu]))
def layT (b:Nat):List Value->Nat->T Cell->T Cell
 |[],_,t=>t
 |v::l,i,t=>layT b l (i+1) (T.set t i (.O (.old b v)))
theorem AN_ (b:Nat): ∀(l:List Value) (i:Nat) (t:T Cell) (j:Nat),T.get (layT b l i t) j=if i<=j/\j<i+l.length then(l[j-i]?).map (λv=> .O (.old b v))else T.get t j
 |[],i,t,j=>by
  rw[if_neg (by simp only[List.length_nil];omega)]
  rfl
 |v::l,i,t,j=>by
  show T.get (layT b l (i+1) (T.set t i (.O (.old b v)))) j=_
  rw[AN_ b l (i+1),T.get_set]
  simp only[List.length_cons]
  by_cases h1:j=i
  ·subst h1
   rw[if_neg (by omega),if_pos rfl,if_pos (by omega),Nat.sub_self]
   rfl
  ·rw[if_neg h1]
   by_cases h2:i+1<=j/\j<i+1+l.length
   ·rw[if_pos h2,if_pos (by omega),show j-i=(j-(i+1))+1 by omega]
    rfl
   ·rw[if_neg h2,if_neg (by omega)]
def tyS (E:Env)(t:Nat):Option (Nat×Bool):=match T.get E.ty t with|some i=>some (i.size,i.agg)|none=>none
def slN (E:Env)(t:Nat):Option Nat:=match T.get E.ty t with
 |some i=>(match i.u with| .slice e=>(match T.get E.ty e with|some ie=>some ie.size|none=>none)|_=>none)
 |none=>none
def fldN (E:Env)(t f:Nat):Option (Nat×Nat×Bool):=match T.get E.ty t with
 |some i=>(match i.u with| .struct fs=>(match fs.toList[f]? with|some fd=>(match T.get E.ty fd.type with|some fi=>some (fd.offset,fi.size,fi.agg)|none=>none)|none=>none)|_=>none)
 |none=>none
def FT (E:Env)(t:Nat):Option (List Value):=match T.get E.ty t with|some i=>some i.zero|none=>none
def intK (E:Env)(t:Nat):Option IntKind:=match T.get E.ty t with|some i=>(match i.u with| .int k=>some k|_=>none)|none=>none
def hasT (E:Env)(t:Nat):Bool:=(T.get E.ty t).isSome
section
variable {α β:Type}{s:St}{E:Env}{t:Nat}
theorem Oi {n:Nat}{g:Bool}(h:tyS E t=some (n,g)): ∃i,T.get E.ty t=some i/\i.size=n/\i.agg=g:=by
 unfold tyS at h
 split at h
 ·rename_i i e
  cases h
  exact⟨i,e,rfl,rfl⟩
 ·cases h
theorem Ge {n:Nat}(h:slN E t=some n): ∃i e ie,T.get E.ty t=some i/\i.u= .slice e/\T.get E.ty e=some ie/\ie.size=n:=by
 unfold slN at h
 split at h
 ·rename_i i e
  split at h
  ·rename_i e2 q
   split at h
   ·rename_i ie q2
    cases h
    exact⟨i,e2,ie,e,q,q2,rfl⟩
   ·cases h
  ·cases h
 ·cases h
theorem AbF_ {f off sz:Nat}{g:Bool}(h:fldN E t f=some (off,sz,g)): ∃i fs fd fi,T.get E.ty t=some i/\i.u= .struct fs/\fs.toList[f]?=some fd/\T.get E.ty fd.type=some fi/\fd.offset=off/\fi.size=sz/\fi.agg=g:=by
 unfold fldN at h
 split at h
 ·rename_i i e
  split at h
  ·rename_i fs q
   split at h
   ·rename_i fd q2
    split at h
    ·rename_i fi q3
     cases h
     exact⟨i,fs,fd,fi,e,q,q2,q3,rfl,rfl,rfl⟩
    ·cases h
   ·cases h
  ·cases h
 ·cases h
theorem aR {i:TI}{Q:TI->St->Prop}(h:T.get E.ty t=some i)(q:Q i s):W (ti E t) s Q:=W.ofOpt h q
theorem aB {b o:Nat}{v:Value}{Q:Value->St->Prop}(ht:tyS E t=some (1,false))(h:At s b o v)(q:Q v (s.rdN (b+o))):W (AQ E t (.pointer (some ⟨b,o,none⟩))) s Q:=by
 obtain⟨i,h1,h2,h3⟩:=Oi ht
 refine W.bind (W.pure (W.bind (aR h1 ?_)))
 show W (aN i.agg _ _) s Q
 rw[h3]
 exact W.rdV h q
theorem W.loadA {b o n:Nat}{l:List Value}{Q:Value->St->Prop}(ht:tyS E t=some (n,true))(h:Row s b o l)(hl:l.length=n)
  (q: ∀s1,s1.mem=s.mem->s1.next=s.next->Ext (In b o n) Non s s1->Q (.agg l.toArray) s1):W (AQ E t (.pointer (some ⟨b,o,none⟩))) s Q:=by
 obtain⟨i,h1,h2,h3⟩:=Oi ht
 subst hl
 refine W.bind (W.pure (W.bind (aR h1 ?_)))
 show W (aN i.agg (M.bind (Am.rdL i.size ⟨b,o,none⟩) λl=>M.pure (Value.agg l.toArray)) _) s Q
 rw[h3,h2]
 exact W.bind (W.rdL h λs1 e1 e2 e3=>W.pure (q s1 e1 e2 e3))
theorem Dt {v:Value}(h:oneCell v=true):cellsOf v=[v]:=by cases v<;>simp[oneCell]at h<;>rfl
theorem W.store {b o n:Nat}{g:Bool}{v:Value}{Q:Value->St->Prop}(ht:tyS E t=some (n,g))(hl:(cellsOf v).length=n)(h1:(cellsOf v).all oneCell=true)(h: ∀i,i<n-> ∃u,Own s b (o+i) u)
  (q: ∀s1,s1.next=s.next->Ext (In b o n) (In b o n) s s1->An s1 b o (cellsOf v)->Q undef s1):W (AB E t (.pointer (some ⟨b,o,none⟩)) v) s Q:=by
 obtain⟨i,g1,g2,g3⟩:=Oi ht
 subst hl
 refine W.bind (W.pure (W.bind (W.bind (aR g1 (W.chk ?_ (W.wrL h h1 λs1 e1 e2 e3=>W.pure (q s1 e1 e2 e3)))))))
 rw[g2]
 exact Nat.beq_refl _
theorem aG {b o:Nat}{g:Bool}{u v:Value}{Q:Value->St->Prop}(ht:tyS E t=some (1,g))(hv:oneCell v=true)(h:Own s b o u)
  (q: ∀s1,s1.next=s.next->Ext (In b o 1) (In b o 1) s s1->Own s1 b o v->Q undef s1):W (AB E t (.pointer (some ⟨b,o,none⟩)) v) s Q:=by
 refine W.store ht (by rw[Dt hv];rfl) (by rw[Dt hv];simp[hv]) (λi hi=>⟨u,by rw[show o+i=o by omega];exact h⟩) λs1 e1 e2 e3=>q s1 e1 e2 ?_
 have:=e3 0 v (by rw[Dt hv];rfl)
 exact this
theorem W.alloc {z:List Value}{Q:Value->St->Prop}(ht:FT E t=some z)(q: ∀s1,s1.next=s.next+z.length+1->Ext Non Non s s1->An s1 s.next 0 z->Q (.pointer (some ⟨s.next,0,none⟩)) s1):W (Ce E t) s Q:=by
 unfold FT at ht
 split at ht
 ·rename_i i e
  cases ht
  exact W.bind (aR e (W.bind (W.newL λs1 e1 e2 e3=>W.pure (q s1 e1 e2 e3))))
 ·cases ht
theorem W.box {v:Value}{Q:Value->St->Prop}(q: ∀s1,s1.next=s.next+(cellsOf v).length+1->Ext Non Non s s1->An s1 s.next 0 (cellsOf v)->Q (.pointer (some ⟨s.next,0,none⟩)) s1):W (kBox v) s Q:=
 W.bind (W.newL λs1 e1 e2 e3=>W.pure (q s1 e1 e2 e3))
theorem Ai {f off sz b o:Nat}{g:Bool}(h:fldN E t f=some (off,sz,g))(h0:0<sz)(Q:Value->St->Prop):W (kFld E t (.pointer (some ⟨b,o,none⟩)) f) s Q=Q (.pointer (some ⟨b,o+off,none⟩)) s:=by
 obtain⟨i,fs,fd,fi,h1,h2,h3,h4,h5,h6,h7⟩:=AbF_ h
 subst h5;subst h6
 refine AJ ?_
 unfold kFld
 rw[Ba (show ti E t s= .some i s by unfold ti;rw[h1];rfl),Ba (show asA (.pointer (some ⟨b,o,none⟩)) s= .some ⟨b,o,none⟩ s from rfl)]
 rw[Ba (show CI E i.u f s= .some (fd.offset,fi,fd.type) s by unfold CI;rw[h2];simp only[h3];exact Ba (show ti E fd.type s= .some fi s by unfold ti;rw[h4];rfl))]
 show M.chk (Nat.blt 0 fi.size) (ptrA (addA ⟨b,o,none⟩ fd.offset)) s=_
 rw[Bv h0]
 show ptrA ⟨b,o+fd.offset,none⟩ s=_
 unfold ptrA
 rw[Cq]
 rfl
theorem By {sz b o n c k:Nat}{kd:IntKind}(h:slN E t=some sz)(hk:k<n)(Q:Value->St->Prop):W (BT E t (.slice (some ⟨b,o,none⟩) n c) (.int kd (k:Nat))) s Q=Q (.pointer (some ⟨b,o+k*sz,none⟩)) s:=by
 obtain⟨i,e,ie,h1,h2,h3,h4⟩:=Ge h
 subst h4
 refine AJ ?_
 unfold BT
 rw[Ba (show ti E t s= .some i s by unfold ti;rw[h1];rfl),Ba (show asN (.int kd (k:Nat)) s= .some k s from rfl)]
 unfold idxN
 rw[h2]
 simp only
 rw[Ba (show ti E e s= .some ie s by unfold ti;rw[h3];rfl)]
 rw[Bv hk]
 show ptrA ⟨b,o+k*ie.size,none⟩ s=_
 unfold ptrA
 rw[Cq]
 rfl
theorem Bu (a:Addr)(Q:Value->St->Prop):W (kNil (.pointer (some a))) s Q=Q (.pointer (some a)) s:=AJ rfl
theorem B0 {sz n c:Nat}{p:Option Addr}(h:slN E t=some sz)(Q:Value->St->Prop):W (A8 E .len [t] [.slice p n c]) s Q=Q (.int .i64 (n:Nat)) s:=by
 obtain⟨i,e,ie,h1,h2,h3,h4⟩:=Ge h
 refine AJ ?_
 show aLen E t (.slice p n c) s=_
 unfold aLen
 rw[Ba (show ti E t s= .some i s by unfold ti;rw[h1];rfl)]
 rw[h2]
 show pN n s=_
 unfold pN
 rw[Ao]
 rfl
theorem DW {d:Nat}{k k':IntKind}{n:Int}(h1:hasT E t=true)(h2:intK E d=some k')(Q:Value->St->Prop):W (Cf E t d (.int k n)) s Q=Q (.int k' (k'.wrap n)) s:=by
 refine AJ ?_
 show ET E t d k n s=_
 unfold hasT at h1
 obtain⟨i,hi⟩:=Option.isSome_iff_exists.1 h1
 unfold intK at h2
 split at h2
 ·rename_i id hd
  split at h2
  ·rename_i k2 hu
   cases h2
   unfold ET
   rw[Ba (show ti E t s= .some i s by unfold ti;rw[hi];rfl),Ba (show ti E d s= .some id s by unfold ti;rw[hd];rfl)]
   simp only[hu]
   show fI (JW k' n) (λn=>M.pure (Value.int k' n)) s=_
   rw[BO,Ay_]
   rfl
  ·cases h2
 ·cases h2
theorem AP {k:Nat}{vs:Array Value}{v:Value}(h:vs.toList[k]?=some v)(Q:Value->St->Prop):W (kExt k (.tuple vs)) s Q=Q v s:=AJ (by show M.ofOpt (vs.toList[k]?) s=_;rw[h];rfl)
theorem EJ_ {call round:Ah}{f:Nat}{l:List Value}(Q:Value->St->Prop):W (Be call round (.func (.func f) #[] #[]) l) s Q=W (call f l) s Q:=by
 show W (call f ([]++(l++[]))) s Q=_
 rw[List.append_nil,List.nil_append]
theorem SS:type_of%(And.intro @Jw (And.intro @W_oS (And.intro @W_on (And.intro @AY (And.intro @W_mv (And.intro @Uf (And.intro @Gv (And.intro @T.get_set (And.intro @B2 (And.intro @Cb (And.intro @FF (And.intro @FW (And.intro @BQ (And.intro @EJ_ (And.intro @CE (And.intro @Ls (And.intro @HU (And.intro @EB (And.intro @Bp_ (And.intro @Dl (And.intro @Tz (And.intro @Dp (And.intro @Dr (@Bu)))))))))))))))))))))))):=⟨@Jw, @W_oS, @W_on, @AY, @W_mv, @Uf, @Gv, @T.get_set, @B2, @Cb, @FF, @FW, @BQ, @EJ_, @CE, @Ls, @HU, @EB, @Bp_, @Dl, @Tz, @Dp, @Dr, @Bu⟩
theorem W.orc {ih:AF->M (Value×FrameMode)}{f:Nat}{m:List Value->M Value}{args:List Value}{Q:Value->St->Prop}(ho:E.orc.get f=some m)(h:W (m args) s Q):W (Ab E ih f args) s Q:=by
 unfold Ab
 rw[ho]
 exact h
end
def lD {γ:Type}(E:Env)(t:Nat)(x:Option Value)(k:Value->M γ):M γ:=M.bind (oS x λa=>AQ E t a) k
def LD {γ:Type}(E:Env)(t:Nat)(x:Option Value)(k:Value×OpLog->M γ):M γ:=M.bind (apartO (oS x λa=>AQ E t a)) k
def fD {γ:Type}(E:Env)(t i:Nat)(x:Option Value)(k:Value->M γ):M γ:=M.bind (oS x λa=>kFld E t a i) k
def FD {γ:Type}(E:Env)(t i:Nat)(x:Option Value)(k:Value×OpLog->M γ):M γ:=M.bind (apartO (oS x λa=>kFld E t a i)) k
def eX {γ:Type}(i:Nat)(x:Option Value)(k:Value->M γ):M γ:=M.bind (oS x λa=>kExt i a) k
def EX {γ:Type}(i:Nat)(x:Option Value)(k:Value×OpLog->M γ):M γ:=M.bind (apartO (oS x λa=>kExt i a)) k
def vB {γ:Type}(E:Env)(t i:Nat)(x:Option Value)(k:Value->M γ):M γ:=M.bind (oS x λa=>Cf E t i a) k
def VB {γ:Type}(E:Env)(t i:Nat)(x:Option Value)(k:Value×OpLog->M γ):M γ:=M.bind (apartO (oS x λa=>Cf E t i a)) k
def iD {γ:Type}(E:Env)(t:Nat)(x y:Option Value)(k:Value->M γ):M γ:=M.bind (oS x λa=>oS y λb=>BT E t a b) k
def ID {γ:Type}(E:Env)(t:Nat)(x y:Option Value)(k:Value×OpLog->M γ):M γ:=M.bind (apartO (oS x λa=>oS y λb=>BT E t a b)) k
def bI {γ:Type}(E:Env)(o:BinOp)(t:Nat)(p q:Operand)(x y:Option Value)(k:Value->M γ):M γ:=M.bind (oS x λa=>oS y λb=>Cl.get (aBin E o t p q) a b) k
def BI {γ:Type}(E:Env)(o:BinOp)(t:Nat)(p q:Operand)(x y:Option Value)(k:Value×OpLog->M γ):M γ:=M.bind (apartO (oS x λa=>oS y λb=>Cl.get (aBin E o t p q) a b)) k
def lN {γ:Type}(E:Env)(b:Builtin)(ts:List Nat)(l:List (Option Value))(k:Value->M γ):M γ:=M.bind (oS (seqO l) λl=>A8 E b ts l) k
def LN {γ:Type}(E:Env)(b:Builtin)(ts:List Nat)(l:List (Option Value))(k:Value×OpLog->M γ):M γ:=M.bind (apartO (oS (seqO l) λl=>A8 E b ts l)) k
def cN {γ:Type}(call round:Ah)(n:Nat)(l:List (Option Value))(k:Value->M γ):M γ:=M.bind (M.on (some (.func (.func n) #[] #[])) λf=>M.on (seqO l) λl=>Be call round f l) k
def CN {γ:Type}(call round:Ah)(n:Nat)(l:List (Option Value))(k:Value×OpLog->M γ):M γ:=M.bind (apartO (M.on (some (.func (.func n) #[] #[])) λf=>M.on (seqO l) λl=>Be call round f l)) k
def PD {γ:Type}(x:Option Value)(k:Value×OpLog->M γ):M γ:=M.bind (apartO (oS x λa=>M.pure a)) k
def sK {γ:Type}(v:Value)(b:Bool)(m:M Value)(k:Value->M γ):M γ:=M.bind (M.chk (isK v) (aN (isB v b) m (M.pure undef))) k
def SK {γ:Type}(v:Value)(b:Bool)(m:M Value)(k:Value×OpLog->M γ):M γ:=M.bind (apartO (M.chk (isK v) (aN (isB v b) m (M.pure undef)))) k
def gS:List (Value×OpLog)->List Value
 |[]=>[]
 |p::l=>p.1::gS l
def gR:List (Value×OpLog)->List OpLog
 |[]=>[]
 |p::l=>p.2::gR l
def fJ (l:List (Value×OpLog))(tm:T Value):M ((Rho×T Value)×List OpLog):=M.pure ((gS l,tm),gR l)
theorem RR:(∀{γ:Type} (E:Env) (t:Nat) (x:Option Value) (k:Value->M γ),lD E t x k=M.bind (oS x λa=>AQ E t a) k)/\(∀{γ:Type} (E:Env) (t:Nat) (x:Option Value) (k:Value×OpLog->M γ),LD E t x k=M.bind (apartO (oS x λa=>AQ E t a)) k)/\(∀{γ:Type} (E:Env) (t i:Nat) (x:Option Value) (k:Value->M γ),fD E t i x k=M.bind (oS x λa=>kFld E t a i) k)/\(∀{γ:Type} (E:Env) (t i:Nat) (x:Option Value) (k:Value×OpLog->M γ),FD E t i x k=M.bind (apartO (oS x λa=>kFld E t a i)) k)/\(∀{γ:Type} (i:Nat) (x:Option Value) (k:Value->M γ),eX i x k=M.bind (oS x λa=>kExt i a) k)/\(∀{γ:Type} (i:Nat) (x:Option Value) (k:Value×OpLog->M γ),EX i x k=M.bind (apartO (oS x λa=>kExt i a)) k)/\(∀{γ:Type} (E:Env) (t i:Nat) (x:Option Value) (k:Value->M γ),vB E t i x k=M.bind (oS x λa=>Cf E t i a) k)/\(∀{γ:Type} (E:Env) (t i:Nat) (x:Option Value) (k:Value×OpLog->M γ),VB E t i x k=M.bind (apartO (oS x λa=>Cf E t i a)) k)/\(∀{γ:Type} (E:Env) (t:Nat) (x y:Option Value) (k:Value->M γ),iD E t x y k=M.bind (oS x λa=>oS y λb=>BT E t a b) k)/\(∀{γ:Type} (E:Env) (t:Nat) (x y:Option Value) (k:Value×OpLog->M γ),ID E t x y k=M.bind (apartO (oS x λa=>oS y λb=>BT E t a b)) k)/\(∀{γ:Type} (E:Env) (o:BinOp) (t:Nat) (p q:Operand) (x y:Option Value) (k:Value->M γ),bI E o t p q x y k=M.bind (oS x λa=>oS y λb=>Cl.get (aBin E o t p q) a b) k)/\(∀{γ:Type} (E:Env) (o:BinOp) (t:Nat) (p q:Operand) (x y:Option Value) (k:Value×OpLog->M γ),BI E o t p q x y k=M.bind (apartO (oS x λa=>oS y λb=>Cl.get (aBin E o t p q) a b)) k)/\(∀{γ:Type} (E:Env) (b:Builtin) (ts:List Nat) (l:List (Option Value)) (k:Value->M γ),lN E b ts l k=M.bind (oS (seqO l) λl=>A8 E b ts l) k)/\(∀{γ:Type} (E:Env) (b:Builtin) (ts:List Nat) (l:List (Option Value)) (k:Value×OpLog->M γ),LN E b ts l k=M.bind (apartO (oS (seqO l) λl=>A8 E b ts l)) k)/\(∀{γ:Type} (call round:Ah) (n:Nat) (l:List (Option Value)) (k:Value->M γ),cN call round n l k=M.bind (M.on (some (.func (.func n) #[] #[])) λf=>M.on (seqO l) λl=>Be call round f l) k)/\(∀{γ:Type} (call round:Ah) (n:Nat) (l:List (Option Value)) (k:Value×OpLog->M γ),CN call round n l k=M.bind (apartO (M.on (some (.func (.func n) #[] #[])) λf=>M.on (seqO l) λl=>Be call round f l)) k)/\(∀{γ:Type} (x:Option Value) (k:Value×OpLog->M γ),PD x k=M.bind (apartO (oS x λa=>M.pure a)) k)/\(∀{γ:Type} (v:Value) (b:Bool) (m:M Value) (k:Value->M γ),sK v b m k=M.bind (M.chk (isK v) (aN (isB v b) m (M.pure undef))) k)/\(∀{γ:Type} (v:Value) (b:Bool) (m:M Value) (k:Value×OpLog->M γ),SK v b m k=M.bind (apartO (M.chk (isK v) (aN (isB v b) m (M.pure undef)))) k)/\gS []=[]/\(∀(p:Value×OpLog) (l:List (Value×OpLog)),gS (p::l)=p.1::gS l)/\gR []=[]/\(∀(p:Value×OpLog) (l:List (Value×OpLog)),gR (p::l)=p.2::gR l)/\(∀(l:List (Value×OpLog)) (tm:T Value),fJ l tm=M.pure ((gS l,tm),gR l)):=⟨by intros;rfl,by intros;rfl,by intros;rfl,by intros;rfl,by intros;rfl,by intros;rfl,by intros;rfl,by intros;rfl,by intros;rfl,by intros;rfl,by intros;rfl,by intros;rfl,by intros;rfl,by intros;rfl,by intros;rfl,by intros;rfl,by intros;rfl,by intros;rfl,by intros;rfl,by intros;rfl,by intros;rfl,by intros;rfl,by intros;rfl,by intros;rfl⟩
abbrev Rg:=Env->Ah->Ah->T Value->M (T Value)
abbrev RdW:=Env->Ah->Ah->T Value->M ((Rho×T Value)×List OpLog)
abbrev G0 (E:Env)(f nt g:Nat)(b:Code):Prop:= ∀{n:Nat} {s:St} {Q:Value->St->Prop},(∀tm,W (runF E n ⟨f,nt,g,tm,[.code b], .run, .normal,none⟩) (s.cxN cxN) λp s1=>Q p.1 (s1.cxN s.cx))->W (Ab E (runF E n) f []) s Q
abbrev G1 (E:Env)(f nt g:Nat)(b:Code):Prop:= ∀{a0:Value} {n:Nat} {s:St} {Q:Value->St->Prop},(∀tm,T.get tm 0=some a0->W (runF E n ⟨f,nt,g,tm,[.code b], .run, .normal,none⟩) (s.cxN cxN) λp s1=>Q p.1 (s1.cxN s.cx))->W (Ab E (runF E n) f [a0]) s Q
abbrev G2 (E:Env)(f nt g:Nat)(b:Code):Prop:= ∀{a0 a1:Value} {n:Nat} {s:St} {Q:Value->St->Prop},(∀tm,T.get tm 0=some a0->T.get tm 1=some a1->W (runF E n ⟨f,nt,g,tm,[.code b], .run, .normal,none⟩) (s.cxN cxN) λp s1=>Q p.1 (s1.cxN s.cx))->W (Ab E (runF E n) f [a0,a1]) s Q
abbrev G3 (E:Env)(f nt g:Nat)(b:Code):Prop:= ∀{a0 a1 a2:Value} {n:Nat} {s:St} {Q:Value->St->Prop},(∀tm,T.get tm 0=some a0->T.get tm 1=some a1->T.get tm 2=some a2->W (runF E n ⟨f,nt,g,tm,[.code b], .run, .normal,none⟩) (s.cxN cxN) λp s1=>Q p.1 (s1.cxN s.cx))->W (Ab E (runF E n) f [a0,a1,a2]) s Q
abbrev G4 (E:Env)(f nt g:Nat)(b:Code):Prop:= ∀{a0 a1 a2 a3:Value} {n:Nat} {s:St} {Q:Value->St->Prop},(∀tm,T.get tm 0=some a0->T.get tm 1=some a1->T.get tm 2=some a2->T.get tm 3=some a3->W (runF E n ⟨f,nt,g,tm,[.code b], .run, .normal,none⟩) (s.cxN cxN) λp s1=>Q p.1 (s1.cxN s.cx))->W (Ab E (runF E n) f [a0,a1,a2,a3]) s Q
theorem eiW {i:Nat}(h:i<9223372036854775807):wrap64 ((i:Nat)+1:Int)=((i+1:Nat):Int):=by
 rw[Bc (by omega) (by omega)];simp
def nx (P:List Item):List Item:=skim 64 P.tail
def bt (P:List Item):List Item:=skim 64 (brT P)
def bf (P:List Item):List Item:=skim 64 (brF P)
