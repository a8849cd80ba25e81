import Derived.Test.YtheboekhpelhlaaDSb06
import Derived.KernelRfl
import GoSem.ClaimWide
import Derived.ChangeShapes
import Derived.ChangeSlices
import Derived.WideShapes
import Derived.OpenShut
noncomputable section
namespace Go.Proofs.Ytheboekhpelhlaa
theorem X{p:Prop}(h:p:=by kernel_rfl):p:=h
end Go.Proofs.Ytheboekhpelhlaa
namespace Go.Proofs.Ytheboekhpelhlaa.Am
section
variable {α β:Type}{s:St}
abbrev In (b o n:Nat):Nat->Prop:=λx=>b+o<=x/\x<b+o+n
theorem wrLs: ∀{l:List Value} {s:St} {b o:Nat},(∀i,i<l.length-> ∃u,Own s b (o+i) u)->l.all oneCell=true->
  ∃s1,wrL l ⟨b,o,none⟩ s= .some () s1/\s1.next=s.next/\Ext (In b o l.length) (In b o l.length) s s1/\Ai s1 b o l
 |[],s,b,o,_,_=>⟨s,rfl,rfl,Ext.refl s,λi v e=>by simp at e⟩
 |v::l,s,b,o,h,h1=>by
  rw[List.all_cons,Bool.and_eq_true]at h1
  obtain⟨u,hu⟩:=h 0 am
  obtain⟨a,s1,e1,rfl⟩: ∃a s1,wrV ⟨b,o,none⟩ v s= .some a s1/\s1=(s.rdN (b+o)).wrN (b+o) (.C b v):=W.wrV hu h1.1 rfl
  have x1:Ext (In b o (l.length+1)) (In b o (l.length+1)) s ((s.rdN (b+o)).wrN (b+o) (.C b v)):=by
   have a1:Ext (In b o (l.length+1)) (In b o (l.length+1)) s (s.rdN (b+o)):=Ext.rdN s _ λ_=>⟨Nat.le_refl _,J⟩
   have a2:Ext (In b o (l.length+1)) (In b o (l.length+1)) (s.rdN (b+o)) ((s.rdN (b+o)).wrN (b+o) (.C b v)):=Ext.wrN _ _ _ ⟨Nat.le_refl _,J⟩
   obtain⟨d1,p1,p2⟩:=a1.rd
   obtain⟨d2,p3,p4⟩:=a2.wr
   exact⟨Nat.le_refl _,rfl,rfl,λx q1 q2=>a2.mem x q1 q2,⟨d1,p1,p2⟩,⟨d2,p3,p4⟩⟩
  have own: ∀i w,i≠0->Own s b (o+i) w->Own ((s.rdN (b+o)).wrN (b+o) (.C b v)) b (o+i) w:=λi w hi hw=>⟨hw.1,by
   show T.get (T.set s.mem (b+o) (.C b v)) (b+(o+i))=_
   rw[T.get_set,if_neg J]
   exact hw.2⟩
  obtain⟨s2,e2,n2,x2,r2⟩:=wrLs (l:=l) (s:=(s.rdN (b+o)).wrN (b+o) (.C b v)) (b:=b) (o:=o+1) (λi hi=>by
   obtain⟨w,hw⟩:=h (i+1) (by simpa using hi)
   rw[show o+1+i=o+(i+1) by omega]
   exact⟨w,own _ _ J hw⟩) h1.2
  have e3:wrL (v::l) ⟨b,o,none⟩ s= .some () s2:=by
   show Am.fA (⟨b,o,none⟩:Addr) (λa=>M.bind (wrV a v) λ_=>wrL l ⟨a.block,Nat.succ a.off,a.spot⟩) s=_
   rw[CH]
   unfold M.bind
   rw[e1]
   exact e2
  refine⟨s2,e3,n2, ?_,λi w e=> ?_⟩
  ·obtain⟨d1,p1,p2⟩:=x1.rd
   obtain⟨d2,p3,p4⟩:=x2.rd
   obtain⟨d3,p5,p6⟩:=x1.wr
   obtain⟨d4,p7,p8⟩:=x2.wr
   have sub: ∀x,In b (o+1) l.length x->In b o (l.length+1) x:=λx hx=>⟨by have:=hx.1;omega,by have:=hx.2;omega⟩
   refine⟨Nat.le_of_eq n2.symm,x2.lim,x2.cx,λx q1 q2=>(x2.mem x q1 λy=>q2 (sub x y)).trans (x1.mem x q1 q2),⟨d2++d1,by rw[p3,p1,List.append_assoc],λx hx=> ?_⟩,⟨d4++d3,by rw[p7,p5,List.append_assoc],λx hx=> ?_⟩⟩
   ·rcases List.mem_append.1 hx with hx|hx
    ·exact⟨(p4 x hx).1,sub x (p4 x hx).2⟩
    ·exact p2 x hx
   ·rcases List.mem_append.1 hx with hx|hx
    ·exact⟨(p8 x hx).1,sub x (p8 x hx).2⟩
    ·exact p6 x hx
  ·cases i with
   |zero=>
    have:v=w:=by simpa using e
    subst this
    have o1:Own ((s.rdN (b+o)).wrN (b+o) (.C b v)) b o v:=⟨hu.1,by
     show T.get (T.set s.mem (b+o) (.C b v)) (b+o)=_
     rw[T.get_set,if_pos rfl]⟩
    exact o1.ext x2 λy=>by have:=y.1;omega
   |succ i=>
    rw[show o+(i+1)=o+1+i by omega]
    exact r2 i w (by simpa using e)
theorem W.wrL {l:List Value}{b o:Nat}{Q:Unit->St->Prop}(h: ∀i,i<l.length-> ∃u,Own s b (o+i) u)(h1:l.all oneCell=true)
  (q: ∀s1,s1.next=s.next->Ext (In b o l.length) (In b o l.length) s s1->Ai s1 b o l->Q () s1):W (wrL l ⟨b,o,none⟩) s Q:=by
 obtain⟨s1,e,h2,h3,h4⟩:=wrLs h h1
 exact⟨(),s1,e,q s1 h2 h3 h4⟩
theorem Q7: ∀(vs:List Value) (b loc:Nat) (t:T Cell) (l:Nat),T.get (layL b vs loc t) l=if loc<=l/\l<loc+vs.length then(vs[l-loc]?).map (Cell.C b)else T.get t l
 |[],b,loc,t,l=>by
  rw[if_neg am]
  rfl
 |v::vs,b,loc,t,l=>by
  have e:layL b (v::vs) loc t=layL b vs (loc+1) (T.set t loc (.C b v)):=by
   show Am.fN loc (λloc=>layL b vs (Nat.succ loc) (T.set t loc (.C b v)))=_
   rw[Ar]
  rw[e,Q7 vs b (loc+1),T.get_set]
  simp only[List.length_cons]
  by_cases h1:l=loc
  ·subst h1
   rw[if_neg J,if_pos rfl,if_pos J,Nat.sub_self]
   rfl
  ·by_cases h2:loc+1<=l/\l<loc+1+vs.length
   ·rw[if_pos h2,if_pos J,show l-loc=(l-(loc+1))+1 by omega]
    rfl
   ·rw[if_neg h2,if_neg h1,if_neg J]
theorem Aps_ (vs:List Value)(s:St): ∃s1,newL vs s= .some s.next s1/\s1.next=s.next+vs.length+1/\Ext Non Non s s1/\Ai s1 s.next 0 vs:=by
 obtain⟨mem,next,lim,rd,wr,cx⟩:=s
 refine⟨⟨layL next vs next mem,next+vs.length+1,lim,rd,wr,cx⟩, ?_,rfl,⟨by simp only;omega,rfl,rfl,λl hl _=> ?_,⟨[],rfl,λ_ h=>by cases h⟩,⟨[],rfl,λ_ h=>by cases h⟩⟩,λi v e=> ?_⟩
 ·show Am.fN next (λb=>Am.fN (Nat.succ (Nat.add b vs.length)) λn=>R.some b (St.mk (layL b vs b mem) n lim rd wr cx))=_
  rw[Ar,Ar]
  rfl
 ·simp only at hl ⊢
  rw[Q7,if_neg J]
 ·have hi:=(List.getElem?_eq_some_iff.1 e).1
  refine⟨by simp only;omega, ?_⟩
  simp only
  rw[Q7,if_pos J,show next+(0+i)-next=i by omega,e]
  rfl
theorem W.newL {vs:List Value}{Q:Nat->St->Prop}(q: ∀s1,s1.next=s.next+vs.length+1->Ext Non Non s s1->Ai s1 s.next 0 vs->Q s.next s1):W (newL vs) s Q:=by
 obtain⟨s1,e,h1,h2,h3⟩:=Aps_ vs s
 exact⟨_,s1,e,q s1 h1 h2 h3⟩
theorem W.run {E:Env}{n:Nat}{af:AF}{Q:Value×FrameMode->St->Prop}(h:W (Fg E (Ac E (runF E n)) (B3 (runF E n)) (GP E (runF E n)) af) s λp s1=>W (Hi (runF E n) p) s1 Q):W (runF E (n+1) af) s Q:=
 W.bind (m:=Fg E (Ac E (runF E n)) (B3 (runF E n)) (GP E (runF E n)) af) (f:=Hi (runF E n)) h
theorem W.code {E:Env}{n f nt g:Nat}{tm:T Value}{todo k:List Item}{c:Code}{ki:CallKind}{ro:Option Nat}{Q:Value×FrameMode->St->Prop}(ht:skim 64 todo= .code c::k)
  (h:W (codeF E (Ac E (runF E n)) (B3 (runF E n)) ⟨f,nt,g,tm, .code c::k, .run,ki,ro⟩ k c) s λp s1=>W (Hi (runF E n) p) s1 Q):W (runF E (n+1) ⟨f,nt,g,tm,todo, .run,ki,ro⟩) s Q:=by
 refine W.run ?_
 show W (noP (KP E (Ac E (runF E n)) (B3 (runF E n)) ⟨f,nt,g,tm,skim 64 todo, .run,ki,ro⟩ (skim 64 todo))) s _
 rw[ht]
 exact W.np h
def Tm (tm:T Value)(l:List (Nat×Value)):Prop:= ∀p∈l,T.get tm p.1=some p.2
theorem Uk {E:Env}{tm:T Value}: ∀{rs:List Nat} {vs:List Value} {s:St},rs.map (T.get tm)=vs.map some->resL E tm (rs.map .tmp) s= .some vs s
 |[],[],_,_=>rfl
 |[],_::_,_,h=>by simp at h
 |_::_,[],_,h=>by simp at h
 |r::rs,v::vs,s,h=>by
  simp only[List.map_cons,List.cons.injEq]at h
  show M.bind (resV E tm (.tmp r)) (λv=>M.bind (resL E tm (rs.map .tmp)) λl=>M.pure (v::l)) s=_
  have e1:resV E tm (.tmp r) s= .some v s:=by
   show M.ofOpt (tm.get r) s=_
   rw[h.1]
   rfl
  rw[AO e1,AO (Uk h.2)]
  rfl
theorem W.ret {E:Env}{n f nt g:Nat}{tm:T Value}{todo:List Item}{ki:CallKind}{fn:Func}{rs:List Nat}{vs:List Value}{up:Option FrameMode}{Q:Value×FrameMode->St->Prop}(ht:(∃k,skim 64 todo= .code .ret::k)\/skim 64 todo=[])
  (hf:E.fn.get f=some fn) (hr:fn.results.toList=rs.map .tmp) (hv:rs.map (T.get tm)=vs.map some) (hc:s.cx= .cx up (some [])) (q:Q (tupV vs,up.getD .run) s):W (runF E (n+2) ⟨f,nt,g,tm,todo, .run,ki,none⟩) s Q:=by
 have h1:W (runF E (n+1) ⟨f,nt,g,tm,skim 64 todo, .returning,ki,none⟩) s Q:=by
  refine W.run ?_
  show W (EE E (GP E (runF E n)) ⟨f,nt,g,tm,skim 64 todo, .returning,ki,none⟩) s _
  refine W.bind (a7 (a:=s.cx) (s':=s) (by obtain⟨mem,next,lim,rd,wr,cx⟩:=s;rfl) ?_)
  rw[hc]
  show W (outF E ⟨f,nt,g,tm,skim 64 todo, .returning,ki,none⟩ up) s _
  refine W.on hf (W.bind (a7 (a:=tupV vs) (s':=s) ?_ (W.pure (W.pure q))))
  show M.bind (resL E tm fn.results.toList) (λl=>M.pure (tupV l)) s=_
  rw[hr,AO (Uk hv)]
  rfl
 rcases ht with⟨k,ht⟩|ht
 ·refine W.code ht ?_
  rw[ht]at h1
  exact W.pure h1
 ·refine W.run ?_
  show W (noP (KP E (Ac E (runF E (n+1))) (B3 (runF E (n+1))) ⟨f,nt,g,tm,skim 64 todo, .run,ki,none⟩ (skim 64 todo))) s _
  rw[ht]at h1 ⊢
  exact W.np (W.pure h1)
theorem W.within {c:Ctx}{m:M α}{Q:α->St->Prop}(h:W m (s.cxN c) λa s1=>Q a (s1.cxN s.cx)):W (within c m) s Q:=by
 obtain⟨a,s1,e,q⟩:=h
 obtain⟨mem,next,lim,rd,wr,cx⟩:=s
 obtain⟨mem1,next1,lim1,rd1,wr1,cx1⟩:=s1
 refine⟨a,_, ?_,q⟩
 have e':m ⟨mem,next,lim,rd,wr,c⟩= .some a ⟨mem1,next1,lim1,rd1,wr1,cx1⟩:=e
 unfold Am.within
 simp only[e']
 rfl
theorem W.call {E:Env}{ih:AF->M (Value×FrameMode)}{f nt g:Nat}{fn:Func}{body:Code}{args:List Value}{Q:Value->St->Prop}(ho:E.orc.get f=none)(hx:E.ext.get f=none)(hf:E.fn.get f=some fn)(hb:fn.body=some body)
  (hn:fn.ntmps=nt) (hg:Ao fn=g) (ha:args.length<=nt) (h:W (ih ⟨f,nt,g,Ee g args 0 .E,[.code body], .run, .normal,none⟩) (s.cxN cxN) λp s1=>Q p.1 (s1.cxN s.cx)):W (Ac E ih f args) s Q:=by
 unfold Ac
 rw[ho,hx]
 refine W.within (W.bind (W.bind ?_))
 have e:B2 E f args .normal (s.cxN cxN)= .some ⟨f,nt,g,Ee g args 0 .E,[.code body], .run, .normal,none⟩ (s.cxN cxN):=by
  unfold B2
  rw[hf]
  show M.on fn.body (λc=>M.chk (Nat.ble args.length fn.ntmps) (Am.fN fn.ntmps λn=>Am.fN (Ao fn) λg=>M.pure (⟨f,n,g,Ee g args 0 .E,[.code c], .run, .normal,none⟩:AF))) _=_
  rw[hb]
  show M.chk (Nat.ble args.length fn.ntmps) (Am.fN fn.ntmps λn=>Am.fN (Ao fn) λg=>M.pure (⟨f,n,g,Ee g args 0 .E,[.code body], .run, .normal,none⟩:AF)) _=_
  rw[show Nat.ble args.length fn.ntmps=true from Nat.ble_eq_true_of_le (by rw[hn];exact ha),Ar,Ar,hn,hg]
  rfl
 exact a7 e (h.mono λp s1 q=>W.pure q)
theorem aL {E:Env}{s:St}{ih:AF->M (Value×FrameMode)}{f nt g:Nat}{fn:Func}{body:Code}{args:List Value}{Q:Value->St->Prop}(hf:E.fn.get f=some fn)(h:W (ih ⟨f,nt,g,Ee g args 0 .E,[.code body], .run, .normal,none⟩) (s.cxN cxN) λp s1=>Q p.1 (s1.cxN s.cx))(ho:E.orc.get f=none:=by kernel_rfl)(hx:E.ext.get f=none:=by kernel_rfl)(hb:fn.body=some body:=by kernel_rfl)(hn:fn.ntmps=nt:=by rfl)(hg:Ao fn=g:=by rfl)(ha:args.length<=nt:=by simp):W (Ac E ih f args) s Q:=W.call ho hx hf hb hn hg ha h
end
section
variable {α β:Type}{s:St}
theorem Bh {n:Int}(h1: -9223372036854775808<=n)(h2:n<=9223372036854775807):wrap64 n=n:=by
 rw[I6]
 have e:IntKind.i64.wrap n=if n%18446744073709551616≥9223372036854775808 then n%18446744073709551616-18446744073709551616 else n%18446744073709551616:=by
  unfold IntKind.wrap
  simp[IntKind.bits,IntKind.signed]
 rw[e]
 by_cases h:n%18446744073709551616≥9223372036854775808
 ·rw[if_pos h];omega
 ·rw[if_neg h];omega
theorem KS_ (n:Int)(s:St):rI n s= .some (.int .i64 (wrap64 n)) s:=by unfold rI;rw[Cd]
theorem FX (b:Bool)(s:St):rB b s= .some (.bool b) s:=by cases b<;>rfl
theorem Fh (f:Int->Int->St->R Value)(slow:Value->Value->M Value)(a b:Int):int2 f slow (.int .i64 a) (.int .i64 b) s=f a b s:=rfl
theorem UU (slow:Value->Value->M Value)(a b:Int):int2 (λa b s=>rI (addI a b) s) slow (.int .i64 a) (.int .i64 b) s= .some (.int .i64 (wrap64 (a+b))) s:=by rw[Fh,KS_,LB]
theorem Ph_ (slow:Value->Value->M Value)(a b:Int):int2 (λa b s=>rI (subI a b) s) slow (.int .i64 a) (.int .i64 b) s= .some (.int .i64 (wrap64 (a-b))) s:=by rw[Fh,KS_,XH]
theorem Tz (slow:Value->Value->M Value)(a b:Int):int2 (λa b s=>rB (ltI a b) s) slow (.int .i64 a) (.int .i64 b) s= .some (.bool (decide (a<b))) s:=by rw[Fh,FX,HH]
theorem Apa_ (slow:Value->Value->M Value)(a b:Int):int2 (λa b s=>rB (ltI b a) s) slow (.int .i64 a) (.int .i64 b) s= .some (.bool (decide (b<a))) s:=by rw[Fh,FX,HH]
theorem VY_ (slow:Value->Value->M Value)(a b:Int):int2 (λa b s=>rB (!ltI b a) s) slow (.int .i64 a) (.int .i64 b) s= .some (.bool (decide (a<=b))) s:=by
 rw[Fh,FX,HH]
 congr 2
 by_cases h:b<a
 ·simp[h]
 ·simp[h];omega
theorem Aar_ (slow:Value->Value->M Value)(a b:Int):int2 (λa b s=>rB (!ltI a b) s) slow (.int .i64 a) (.int .i64 b) s= .some (.bool (decide (b<=a))) s:=by
 rw[Fh,FX,HH]
 congr 2
 by_cases h:a<b
 ·simp[h]
 ·simp[h];omega
theorem AbK_ (slow:Value->Value->M Value)(a b:Int):int2 (λa b s=>rB (eqI a b) s) slow (.int .i64 a) (.int .i64 b) s= .some (.bool (decide (a=b))) s:=by rw[Fh,FX,N9]
theorem Afi_ (slow:Value->Value->M Value)(a b:Int):int2 (λa b s=>rB (!eqI a b) s) slow (.int .i64 a) (.int .i64 b) s= .some (.bool (!decide (a=b))) s:=by rw[Fh,FX,N9]
def setF {γ:Type}(d:Nat)(v:Value)(tm:T Value)(K:T Value->M γ):M γ:=λs=>T.rec (motive:=λ_=>R γ) .none (λa b c _ _=>K (.N a b c) s) (T.set tm d v)
def setT {γ:Type}(d:Nat)(v:Value)(tm:T Value)(K:T Value->M γ):M γ:=T.rec (motive:=λ_=>M γ) aC (λa b c _ _=>K (.N a b c)) (T.set tm d v)
def LF (m:M ((Rho×T Value)×List OpLog))(bef:List Nat):M (Rho×T Value):=λs=>St.rec (motive:=λ_=>R (Rho×T Value)) (λmem next lim rd wr cx=>
 R.rec (motive:=λ_=>R (Rho×T Value)) .none (λp s=>Prod.rec (motive:=λ_=>R (Rho×T Value)) (λq l=>St.rec (motive:=λ_=>R (Rho×T Value)) (λmem' next' _ _ _ _=>
  Bool.rec (motive:=λ_=>R (Rho×T Value)) .none (.some q (St.mk mem' next' lim (rdsL lim l rd) (wrsL lim l wr) cx)) (BN next l.reverse bef)) s) p) (λ_ _=> .none)
  (m (St.mk mem next (nat_lit 0) [] [] .no))) s
def dSt (mem:T Cell)(next:Nat):St:=⟨mem,next,0,[],[], .no⟩
def oSt (mem:T Cell)(next:Nat):St:=⟨mem,next,next,[],[], .no⟩
theorem W.draw {m:M ((Rho×T Value)×List OpLog)}{bef:List Nat}{Q:Rho×T Value->St->Prop}
  (h:W m (dSt s.mem s.next) λp s1=>BN s.next p.2.reverse bef=true/\Q p.1 ⟨s1.mem,s1.next,s.lim,rdsL s.lim p.2 s.rd,wrsL s.lim p.2 s.wr,s.cx⟩):W (LF m bef) s Q:=by
 obtain⟨⟨q,l⟩,s1,e,ha,hq⟩:=h
 obtain⟨mem,next,lim,rd,wr,cx⟩:=s
 obtain⟨mem1,next1,lim1,rd1,wr1,cx1⟩:=s1
 refine⟨q,_, ?_,hq⟩
 have e':m ⟨mem,next,0,[],[], .no⟩= .some (q,l) ⟨mem1,next1,lim1,rd1,wr1,cx1⟩:=e
 have ha':BN next l.reverse bef=true:=ha
 unfold LF
 simp only[e',ha']
theorem aO {m:M α}{f:α×OpLog->M β}{mem:T Cell}{next:Nat}{Q:β->St->Prop}
  (h:W m (oSt mem next) λv s1=> ∃F,Ext F Non (oSt mem next) s1/\ ∀rd,(∀x∈rd,x<next/\F x)->W (f (v,⟨next,s1.next,rd,[]⟩)) (dSt s1.mem s1.next) Q):W (M.bind (apartO m) f) (dSt mem next) Q:=by
 obtain⟨a,s1,e,F,x,q⟩:=h
 obtain⟨mem1,next1,lim1,rd1,wr1,cx1⟩:=s1
 have hcx:cx1= .no:=x.cx
 obtain⟨d1,p1,p2⟩:=x.rd
 obtain⟨d2,p3,p4⟩:=x.wr
 have e1:rd1=d1:=by simpa [oSt]using p1
 have e2:wr1=[]:=by
  have:wr1=d2:=by simpa [oSt]using p3
  rw[this]
  cases d2 with
  |nil=>rfl
  |cons y l=>exact(p4 y am).2.elim
 subst hcx
 subst e2
 refine W.bind (a7 (a:=(a,⟨next,next1,rd1,[]⟩)) (s':=dSt mem1 next1) ?_ (q rd1 λy hy=>p2 y (by rw[<-e1];exact hy)))
 have e':m ⟨mem,next,next,[],[], .no⟩= .some a ⟨mem1,next1,lim1,rd1,[], .no⟩:=e
 show Am.apartO m ⟨mem,next,0,[],[], .no⟩=_
 unfold Am.apartO
 simp only[e']
 rfl
theorem Qm (n0:Nat)(l acc:List Nat): ∀x,x∈Bi n0 l acc->(x∈l/\n0<=x)\/x∈acc:=by
 induction l with
 |nil=>exact λx h=> .inr h
 |cons a l ih=>
  intro x h
  have h':x∈Bool.rec (motive:=λ_=>List Nat) (Bi n0 l acc) (a::Bi n0 l acc) (Nat.ble n0 a):=h
  cases e:Nat.ble n0 a with
  |false=>
   rw[e]at h'
   rcases ih x h' with⟨h1,h2⟩|h1
   ·exact .inl ⟨by simp[h1],h2⟩
   ·exact .inr h1
  |true=>
   rw[e]at h'
   rcases List.mem_cons.1 h' with rfl|h'
   ·exact .inl ⟨am,Nat.le_of_ble_eq_true e⟩
   ·rcases ih x h' with⟨h1,h2⟩|h1
    ·exact .inl ⟨by simp[h1],h2⟩
    ·exact .inr h1
theorem IG_ (lo hi:Nat)(l:List Nat)(h: ∀x∈l,¬(lo<=x/\x<hi)):Db lo hi l=false:=by
 induction l with
 |nil=>rfl
 |cons a l ih=>
  have i:=ih λx hx=>h x (by simp[hx])
  show Bool.rec (motive:=λ_=>Bool) (Db lo hi l) (Bool.rec (motive:=λ_=>Bool) (Db lo hi l) true (Nat.blt a hi)) (Nat.ble lo a)=false
  cases e1:Nat.ble lo a with
  |false=>exact i
  |true=>
   cases e2:Nat.blt a hi with
   |false=>exact i
   |true=>exact absurd ⟨Nat.le_of_ble_eq_true e1,Bg e2⟩ (h a am)
theorem WZ (bj:Nat)(news:List Nat): ∀(acc:List OpLog) (i:Nat),(∀k a,acc[k]?=some a->bj.testBit (i+k)=true\/ ∀x∈news,¬(a.lo<=x/\x<a.hi))->Ef bj news acc i=true
 |[],_,_=>rfl
 |a::acc,i,h=>by
  show((bj.testBit i|| !Db a.lo a.hi news)&&Ef bj news acc (Nat.succ i))=true
  rw[Bool.and_eq_true]
  constructor
  ·rcases h 0 a rfl with h|h
   ·rw[Nat.add_zero]at h;rw[h];rfl
   ·rw[IG_ _ _ _ h];simp
  ·refine WZ bj news acc (i+1) λk b hk=> ?_
   have:=h (k+1) b (by simpa using hk)
   rwa [show i+(k+1)=i+1+k by omega]at this
theorem Uf (n0:Nat)(all:List OpLog): ∀(l:List OpLog) (bef:List Nat) (j:Nat),l.length<=bef.length->(∀(k:Nat) (m:OpLog) (b:Nat),l[k]?=some m->bef[k]?=some b->m.wr=[]/\ ∀(i:Nat) (a:OpLog),i<j+k->all[i]?=some a->b.testBit i=true\/ ∀x∈m.rd,n0<=x-> ¬(a.lo<=x/\x<a.hi))->Gk n0 all l bef j=true
 |[],_,_,_,_=>rfl
 |_::_,[],_,h,_=>by simp at h
 |m::l,b::bef,j,hl,h=>by
  show(GJ b (Bi n0 m.rd (Bi n0 m.wr [])) (all.take j)&&Gk n0 all l bef (Nat.succ j))=true
  rw[Bool.and_eq_true]
  obtain⟨h1,h2⟩:=h 0 m b rfl rfl
  constructor
  ·have hn: ∀x,x∈Bi n0 m.rd (Bi n0 m.wr [])->x∈m.rd/\n0<=x:=λx hx=>by
    rw[h1]at hx
    rcases Qm _ _ _ x hx with h|h
    ·exact h
    ·cases h
   have hj:Ef b (Bi n0 m.rd (Bi n0 m.wr [])) (all.take j) 0=true:=by
    refine WZ _ _ _ _ λk a hk=> ?_
    rw[List.getElem?_take]at hk
    split at hk
    ·rename_i hkj
     rw[Nat.zero_add]
     rcases h2 k a J hk with q|q
     ·exact .inl q
     ·exact .inr λx hx=>q x (hn x hx).1 (hn x hx).2
    ·cases hk
   unfold GJ
   generalize Bi n0 m.rd (Bi n0 m.wr [])=z at hj
   cases z with
   |nil=>rfl
   |cons x z=>exact hj
  ·refine Uf n0 all l bef (j+1) (by simpa using hl) λk m b e1 e2=> ?_
   obtain⟨h3,h4⟩:=h (k+1) m b (by simpa using e1) (by simpa using e2)
   exact⟨h3,λi a hi=>h4 i a J⟩
theorem EA_ {n0:Nat}{l:List OpLog}{bef:List Nat}(hl:l.length<=bef.length)(h: ∀(k:Nat) (m:OpLog) (b:Nat),l[k]?=some m->bef[k]?=some b->m.wr=[]/\ ∀(i:Nat) (a:OpLog),i<k->l[i]?=some a->b.testBit i=true\/ ∀x∈m.rd,n0<=x-> ¬(a.lo<=x/\x<a.hi))(hw: ∀m∈l,m.wr=[]):BN n0 l bef=true:=by
 unfold BN
 rw[Bool.and_eq_true]
 refine⟨Uf n0 l l bef 0 hl λk m b e1 e2=> ?_, ?_⟩
 ·obtain⟨h1,h2⟩:=h k m b e1 e2
  exact⟨h1,λi a hi=>h2 i a J⟩
 ·rw[Bool.or_eq_true]
  left
  unfold KA_
  rw[List.all_eq_true]
  intro m hm
  rw[hw m hm]
  rfl
theorem FG_ (lim:Nat)(l base:List Nat): ∃d,addL lim l base=d++base/\ ∀x∈d,x<lim/\x∈l:=by
 induction l with
 |nil=>exact⟨[],rfl,λ_ h=>by cases h⟩
 |cons a l ih=>
  obtain⟨d,e,q⟩:=ih
  obtain⟨d2,e2,q2⟩:=Hc a lim (addL lim l base)
  refine⟨d2++d, ?_,λx hx=> ?_⟩
  ·show notes a lim (addL lim l base)=_
   rw[e2,e,List.append_assoc]
  ·rcases List.mem_append.1 hx with hx|hx
   ·exact⟨(q2 x hx).1,by simp[(q2 x hx).2]⟩
   ·exact⟨(q x hx).1,by simp[(q x hx).2]⟩
theorem OY_ (lim:Nat)(l:List OpLog)(base:List Nat): ∃d,rdsL lim l base=d++base/\ ∀x∈d,x<lim/\ ∃m∈l,x∈m.rd:=by
 induction l with
 |nil=>exact⟨[],rfl,λ_ h=>by cases h⟩
 |cons m l ih=>
  obtain⟨d,e,q⟩:=ih
  obtain⟨d2,e2,q2⟩:=FG_ lim m.rd (rdsL lim l base)
  refine⟨d2++d, ?_,λx hx=> ?_⟩
  ·show addL lim m.rd (rdsL lim l base)=_
   rw[e2,e,List.append_assoc]
  ·rcases List.mem_append.1 hx with hx|hx
   ·exact⟨(q2 x hx).1,m,am,(q2 x hx).2⟩
   ·obtain⟨h1,m',h2,h3⟩:=q x hx
    exact⟨h1,m',by simp[h2],h3⟩
theorem Alc_ (lim:Nat)(l:List OpLog)(base:List Nat)(h: ∀m∈l,m.wr=[]):wrsL lim l base=base:=by
 induction l with
 |nil=>rfl
 |cons m l ih=>
  show addL lim m.wr (wrsL lim l base)=base
  rw[h m am,ih λx hx=>h x (by simp[hx])]
  rfl
theorem Ext.draw {F:Nat->Prop}{mem':T Cell}{next':Nat}{l:List OpLog}(h1:s.next<=next')(h2: ∀x,x<s.next->T.get mem' x=T.get s.mem x)(hw: ∀m∈l,m.wr=[])(hr: ∀m∈l,∀x∈m.rd,x<s.lim->F x):
  Ext F Non s ⟨mem',next',s.lim,rdsL s.lim l s.rd,wrsL s.lim l s.wr,s.cx⟩:=by
 obtain⟨d,e,q⟩:=OY_ s.lim l s.rd
 exact⟨h1,rfl,rfl,λx hx _=>h2 x hx,⟨d,e,λx hx=>by obtain⟨a,m,b,c⟩:=q x hx;exact⟨a,hr m b x c a⟩⟩,⟨[],Alc_ _ _ _ hw,λ_ h=>by cases h⟩⟩
end
section
variable {α β:Type}{s:St}
def oS (x:Option α)(f:α->M β):M β:=λs=>Option.rec (motive:=λ_=>R β) .none (λa=>f a s) x
def seqO (l:List (Option Value)):Option (List Value):=List.rec (motive:=λ_=>Option (List Value)) (some []) (λx _ ih=>onO x λv=>onO ih λl=>some (v::l)) l
def seqP (l:List (Nat×Option Value)):Option (List (Nat×Value)):=List.rec (motive:=λ_=>Option (List (Nat×Value))) (some []) (λx _ ih=>onO x.2 λv=>onO ih λl=>some ((x.1,v)::l)) l
def Cl.get {γ:Type}(c:Cl γ):γ:=Cl.rec (motive:=λ_=>γ) (λf=>f) c
def hdC (l:List Item):Code:=match l with| .code c::_=>c|_=> .skip
def dsC (c:Code):List Nat:=match c with| .region _ ops _=>dstL ops.toList|_=>[]
def brT (l:List Item):List Item:=match l with| .code (.cond _ a _)::k=> .code a::k|_=>[]
def brF (l:List Item):List Item:=match l with| .code (.cond _ _ b)::k=> .code b::k|_=>[]
def Ad (l:List Item):Option Nat:=match l with| .code (.cond (.tmp t) _ _)::_=>some t|_=>none
theorem W.reg {E:Env}{n f nt g:Nat}{tm:T Value}{T P:List Item}{ki:CallKind}{ro:Option Nat}{nice:Env->Ag->Ag->Am.T Value->M (Am.T Value)}{Q:Value×FrameMode->St->Prop}(ht:skim 64 T=P)(hP:P= .code (hdC P)::P.tail)
  (he: ∀(E:Env) (call round:Ag) (td k:List Item) (ki:CallKind) (ro:Option Nat) (tm:Am.T Value) (s:St),codeF E call round ⟨f,nt,g,tm,td, .run,ki,ro⟩ k (hdC P) s=regF call round ⟨f,nt,g,tm,td, .run,ki,ro⟩ (dsC (hdC P)) (λcall round _ tm=>nice E call round tm) k s)
  (hn:0<n) (h:W (nice E (Ac E (runF E (n-1))) (B3 (runF E (n-1))) tm) s λtm s1=>W (runF E (n-1) ⟨f,nt,g,tm,P.tail, .run,ki,ro⟩) s1 Q):W (runF E n ⟨f,nt,g,tm,T, .run,ki,ro⟩) s Q:=by
 obtain⟨m,rfl⟩: ∃m,n=m+1:=⟨n-1,J⟩
 rw[hP]at ht
 refine W.code ht (aK (he E _ _ _ _ _ _ _ _) ?_)
 rw[Nat.add_sub_cancel]at h
 obtain⟨tm',s1,e,hq⟩:=h
 refine⟨.go ⟨f,nt,g,tm',P.tail, .run,ki,ro⟩,s1, ?_,hq⟩
 unfold regF
 simp only[e]
 rfl
theorem W.cond {E:Env}{n f nt g t:Nat}{tm:T Value}{T P:List Item}{ki:CallKind}{ro:Option Nat}{v:Bool}{Q:Value×FrameMode->St->Prop}(ht:skim 64 T=P)(hx:Ad P=some t)(hv:Am.T.get tm t=some (.bool v))(hn:0<n)
  (h1:v=true->W (runF E (n-1) ⟨f,nt,g,tm,brT P, .run,ki,ro⟩) s Q) (h2:v=false->W (runF E (n-1) ⟨f,nt,g,tm,brF P, .run,ki,ro⟩) s Q):W (runF E n ⟨f,nt,g,tm,T, .run,ki,ro⟩) s Q:=by
 obtain⟨m,rfl⟩: ∃m,n=m+1:=⟨n-1,J⟩
 rw[Nat.add_sub_cancel]at h1 h2
 unfold Ad at hx
 split at hx
 ·rename_i t' a b k
  cases hx
  refine W.code ht ?_
  show W (M.on (Am.T.get tm t) (IR ⟨f,nt,g,tm, .code (.cond (.tmp t) a b)::k, .run,ki,ro⟩ a b k)) s _
  refine W.on hv ?_
  cases v with
  |true=>exact W.pure (h1 rfl)
  |false=>exact W.pure (h2 rfl)
 ·cases hx
theorem aJ {E:Env}{n f nt g:Nat}{s:St}{tm:T Value}{T P:List Item}{ki:CallKind}{ro:Option Nat}{Q:Value×FrameMode->St->Prop}{t:Nat}(hx:Ad P=some t)(h:W (runF E (n-1) ⟨f,nt,g,tm,brT P, .run,ki,ro⟩) s Q)(ht:skim 64 T=P:=by rfl)(hv:Am.T.get tm t=some (.bool true):=by simp[Am.T.get_set]<;>omega)(hn:0<n:=by omega):W (runF E n ⟨f,nt,g,tm,T, .run,ki,ro⟩) s Q:=W.cond ht hx hv hn (λ_=>h) λh=>by cases h
theorem aG {E:Env}{n f nt g:Nat}{s:St}{tm:T Value}{T P:List Item}{ki:CallKind}{ro:Option Nat}{Q:Value×FrameMode->St->Prop}{t:Nat}(hx:Ad P=some t)(h:W (runF E (n-1) ⟨f,nt,g,tm,brF P, .run,ki,ro⟩) s Q)(ht:skim 64 T=P:=by rfl)(hv:Am.T.get tm t=some (.bool false):=by simp[Am.T.get_set]<;>omega)(hn:0<n:=by omega):W (runF E n ⟨f,nt,g,tm,T, .run,ki,ro⟩) s Q:=W.cond ht hx hv hn (λh=>by cases h) λ_=>h
structure RegEq (f nt g:Nat)(P:List Item)(nice:Env->Ag->Ag->T Value->M (T Value)):Prop where
 hd:P= .code (hdC P)::P.tail:=by kernel_rfl
 eq: ∀(E:Env) (call round:Ag) (td k:List Item) (ki:CallKind) (ro:Option Nat) (tm:T Value) (s:St),codeF E call round ⟨f,nt,g,tm,td, .run,ki,ro⟩ k (hdC P) s=regF call round ⟨f,nt,g,tm,td, .run,ki,ro⟩ (dsC (hdC P)) (λcall round _ tm=>nice E call round tm) k s:=by intros;kernel_rfl
theorem RegEq.w {E:Env}{n f nt g:Nat}{tm:T Value}{T P:List Item}{ki:CallKind}{ro:Option Nat}{nice:Env->Ag->Ag->Am.T Value->M (Am.T Value)}{Q:Value×FrameMode->St->Prop}(q:RegEq f nt g P nice)(ht:skim 64 T=P)(hn:0<n)
 (h:W (nice E (Ac E (runF E (n-1))) (B3 (runF E (n-1))) tm) s λtm s1=>W (runF E (n-1) ⟨f,nt,g,tm,P.tail, .run,ki,ro⟩) s1 Q):W (runF E n ⟨f,nt,g,tm,T, .run,ki,ro⟩) s Q:=W.reg ht q.hd q.eq hn h
theorem RegEq.u {E:Env}{n f nt g:Nat}{s:St}{tm:T Value}{T P:List Item}{ki:CallKind}{ro:Option Nat}{Q:Value×FrameMode->St->Prop}{nice:Env->Ag->Ag->Am.T Value->M (Am.T Value)}(q:RegEq f nt g P nice)(h:W (nice E (Ac E (runF E (n-1))) (B3 (runF E (n-1))) tm) s λtm s1=>W (runF E (n-1) ⟨f,nt,g,tm,P.tail, .run,ki,ro⟩) s1 Q)(ht:skim 64 T=P:=by rfl)(hn:0<n:=by omega):W (runF E n ⟨f,nt,g,tm,T, .run,ki,ro⟩) s Q:=q.w ht hn h
def befC (c:Code):List Nat:=match c with| .region _ ops _=>(Region.before ops).toList|_=>[]
def AP (E:Env)(g n:Nat)(c:Code):List COp:=match c with
 | .region _ ops _=>(match BX E g n ops.toList ops.toList []with|some l=>IT l (DC l.length (Region.before ops).toList)|none=>[])
 |_=>[]
theorem W.regD {E:Env}{n f nt g:Nat}{tm:T Value}{T P:List Item}{ki:CallKind}{ro:Option Nat}{nice:Env->Ag->Ag->Am.T Value->M ((Rho×Am.T Value)×List OpLog)}{Q:Value×FrameMode->St->Prop}(ht:skim 64 T=P)(hP:P= .code (hdC P)::P.tail)
  (he: ∀(E:Env) (call round:Ag) (td k:List Item) (ki:CallKind) (ro:Option Nat) (tm:Am.T Value) (s:St),codeF E call round ⟨f,nt,g,tm,td, .run,ki,ro⟩ k (hdC P) s=M.bind (LF (nice E call round tm) (befC (hdC P))) (endE call round ⟨f,nt,g,tm,td, .run,ki,ro⟩ (AP E g nt (hdC P)) (dsC (hdC P)) k) s)
  (hn:0<n) {bef:List Nat} (hb:befC (hdC P)=bef) (h:W (nice E (Ac E (runF E (n-1))) (B3 (runF E (n-1))) tm) (dSt s.mem s.next) λp s1=>BN s.next p.2.reverse bef=true/\
   W (AB (Ac E (runF E (n-1))) (B3 (runF E (n-1))) (AP E g nt (hdC P)) p.1.1 p.1.2) ⟨s1.mem,s1.next,s.lim,rdsL s.lim p.2 s.rd,wrsL s.lim p.2 s.wr,s.cx⟩ λtm s1=>W (runF E (n-1) ⟨f,nt,g,tm,P.tail, .run,ki,ro⟩) s1 Q):W (runF E n ⟨f,nt,g,tm,T, .run,ki,ro⟩) s Q:=by
 obtain⟨m,rfl⟩: ∃m,n=m+1:=⟨n-1,J⟩
 rw[hP]at ht
 rw[Nat.add_sub_cancel]at h
 refine W.code ht (aK (he E _ _ _ _ _ _ _ _) (W.bind (W.draw ?_)))
 rw[hb]
 refine h.mono λp s1 q=>⟨q.1, ?_⟩
 obtain⟨tm',s2,e,hq⟩:=q.2
 refine⟨.go ⟨f,nt,g,tm',P.tail, .run,ki,ro⟩,s2, ?_,hq⟩
 unfold endE
 simp only[e]
 rfl
structure DrawEq (f nt g:Nat)(P:List Item)(bef:List Nat)(nice:Env->Ag->Ag->T Value->M ((Rho×T Value)×List OpLog)):Prop where
 hd:P= .code (hdC P)::P.tail:=by kernel_rfl
 bef:befC (hdC P)=bef:=by kernel_rfl
 eq: ∀(E:Env) (call round:Ag) (td k:List Item) (ki:CallKind) (ro:Option Nat) (tm:T Value) (s:St),codeF E call round ⟨f,nt,g,tm,td, .run,ki,ro⟩ k (hdC P) s=M.bind (LF (nice E call round tm) (befC (hdC P))) (endE call round ⟨f,nt,g,tm,td, .run,ki,ro⟩ (AP E g nt (hdC P)) (dsC (hdC P)) k) s:=by intros;kernel_rfl
theorem DrawEq.w {E:Env}{n f nt g:Nat}{tm:T Value}{T P:List Item}{ki:CallKind}{ro:Option Nat}{bef:List Nat}{nice:Env->Ag->Ag->Am.T Value->M ((Rho×Am.T Value)×List OpLog)}{Q:Value×FrameMode->St->Prop}(q:DrawEq f nt g P bef nice)(ht:skim 64 T=P)(hn:0<n)
 (h:W (nice E (Ac E (runF E (n-1))) (B3 (runF E (n-1))) tm) (dSt s.mem s.next) λp s1=>BN s.next p.2.reverse bef=true/\
  W (AB (Ac E (runF E (n-1))) (B3 (runF E (n-1))) (AP E g nt (hdC P)) p.1.1 p.1.2) ⟨s1.mem,s1.next,s.lim,rdsL s.lim p.2 s.rd,wrsL s.lim p.2 s.wr,s.cx⟩ λtm s1=>W (runF E (n-1) ⟨f,nt,g,tm,P.tail, .run,ki,ro⟩) s1 Q):W (runF E n ⟨f,nt,g,tm,T, .run,ki,ro⟩) s Q:=W.regD ht q.hd q.eq hn q.bef h
theorem DrawEq.u {E:Env}{n f nt g:Nat}{s:St}{tm:T Value}{T P:List Item}{ki:CallKind}{ro:Option Nat}{Q:Value×FrameMode->St->Prop}{bef:List Nat}{nice:Env->Ag->Ag->Am.T Value->M ((Rho×Am.T Value)×List OpLog)}(q:DrawEq f nt g P bef nice)(h:W (nice E (Ac E (runF E (n-1))) (B3 (runF E (n-1))) tm) (dSt s.mem s.next) λp s1=>BN s.next p.2.reverse bef=true/\W (AB (Ac E (runF E (n-1))) (B3 (runF E (n-1))) (AP E g nt (hdC P)) p.1.1 p.1.2) ⟨s1.mem,s1.next,s.lim,rdsL s.lim p.2 s.rd,wrsL s.lim p.2 s.wr,s.cx⟩ λtm s1=>W (runF E (n-1) ⟨f,nt,g,tm,P.tail, .run,ki,ro⟩) s1 Q)(ht:skim 64 T=P:=by rfl)(hn:0<n:=by omega):W (runF E n ⟨f,nt,g,tm,T, .run,ki,ro⟩) s Q:=q.w ht hn h
def mv {γ:Type}(x:Option Value)(K:Value->M γ):M γ:=M.bind (oS x λa=>M.pure a) K
end
section
variable {α β:Type}{s:St}
theorem As {m:M α}{Q:α->St->Prop}{a:α}{s':St}(e:m s= .some a s'):W m s Q=Q a s':=propext ⟨λ⟨b,s1,e1,q⟩=>by rw[e]at e1;cases e1;exact q,λq=>⟨a,s',e,q⟩⟩
theorem J4 (m:M α)(f:α->M β)(Q:β->St->Prop):W (M.bind m f) s Q=W m s λa s1=>W (f a) s1 Q:=propext ⟨λ⟨b,s2,e,q⟩=>by
 obtain⟨a,s1,e1,e2⟩:=bind_some e
 exact⟨a,s1,e1,b,s2,e2,q⟩,W.bind⟩
theorem AI (a:α)(Q:α->St->Prop):W (M.pure a) s Q=Q a s:=As rfl
theorem W_mv {γ:Type}(a:Value)(K:Value->M γ)(Q:γ->St->Prop):W (mv (some a) K) s Q=W (K a) s Q:=(J4 _ _ _).trans (AI a _)
theorem W_oS (a:α)(f:α->M β)(Q:β->St->Prop):W (oS (some a) f) s Q=W (f a) s Q:=propext Iff.rfl
theorem W_on (a:α)(f:α->M β)(Q:β->St->Prop):W (M.on (some a) f) s Q=W (f a) s Q:=propext Iff.rfl
theorem Fy (m:M α)(Q:α->St->Prop):W (M.chk true m) s Q=W m s Q:=propext Iff.rfl
theorem Xj (x y:M α)(Q:α->St->Prop):W (aT true x y) s Q=W x s Q:=propext Iff.rfl
theorem EP (x y:M α)(Q:α->St->Prop):W (aT false x y) s Q=W y s Q:=propext Iff.rfl
theorem Yg {γ:Type}(d:Nat)(v:Value)(tm:T Value)(K:T Value->M γ)(Q:γ->St->Prop):W (setF d v tm K) s Q=W (K (T.set tm d v)) s Q:=by
 obtain⟨x,a,b,e⟩:=aZ tm d v
 unfold setF
 rw[e]
theorem E8 {γ:Type}(d:Nat)(v:Value)(tm:T Value)(K:T Value->M γ)(Q:γ->St->Prop):W (setT d v tm K) s Q=W (K (T.set tm d v)) s Q:=by
 obtain⟨x,a,b,e⟩:=aZ tm d v
 unfold setT
 rw[e]
theorem aB {E:Env}{n f nt g:Nat}{tm:T Value}{todo P:List Item}{ki:CallKind}{fn:Func}{rs:List Nat}{vs:List Value}{up:Option FrameMode}{Q:Value×FrameMode->St->Prop}(ht:skim 64 todo=P)(hP:(∃k,P= .code .ret::k)\/P=[])(hn:2<=n)
  (hf:E.fn.get f=some fn) (hr:fn.results.toList=rs.map .tmp) (hc:s.cx= .cx up (some [])) (hv:rs.map (Am.T.get tm)=vs.map some) (q:Q (tupV vs,up.getD .run) s):W (runF E n ⟨f,nt,g,tm,todo, .run,ki,none⟩) s Q:=by
 obtain⟨m,rfl⟩: ∃m,n=m+2:=⟨n-2,J⟩
 subst ht
 exact W.ret hP hf hr hv hc q
theorem Bk (b:Bool):isK (.bool b)=true:=rfl
theorem MX:isB (.bool true) true=true:=rfl
theorem Ky:isB (.bool true) false=false:=rfl
theorem Hk:isB (.bool false) true=false:=rfl
theorem Hf:isB (.bool false) false=true:=rfl
theorem A3:seqO []=some []:=rfl
theorem A0 (v:Value)(l:List (Option Value)):seqO (some v::l)=onO (seqO l) λl=>some (v::l):=rfl
theorem EN:seqP []=some []:=rfl
theorem LL (k:Nat)(v:Value)(l:List (Nat×Option Value)):seqP ((k,some v)::l)=onO (seqP l) λl=>some ((k,v)::l):=rfl
theorem AW {γ:Type}(a:α)(K:α->Option γ):onO (some a) K=K a:=rfl
theorem Df (c:Bool)(a b:Value)(Q:Value->St->Prop):W (Au (.bool c) a b) s Q=Q (if c then a else b) s:=by
 refine As ?_
 cases c<;>rfl
section
variable {E:Env}{t:Nat}{xo yo:Operand}{Q:Value->St->Prop}
theorem AY (a b:Int):W (Cl.get (aBin E .add t xo yo) (.int .i64 a) (.int .i64 b)) s Q=Q (.int .i64 (wrap64 (a+b))) s:=As (UU _ a b)
theorem HX (a b:Int):W (Cl.get (aBin E .sub t xo yo) (.int .i64 a) (.int .i64 b)) s Q=Q (.int .i64 (wrap64 (a-b))) s:=As (Ph_ _ a b)
theorem Ap (a b:Int):W (Cl.get (aBin E .lss t xo yo) (.int .i64 a) (.int .i64 b)) s Q=Q (.bool (decide (a<b))) s:=As (Tz _ a b)
theorem Ck (a b:Int):W (Cl.get (aBin E .gtr t xo yo) (.int .i64 a) (.int .i64 b)) s Q=Q (.bool (decide (b<a))) s:=As (Apa_ _ a b)
theorem K1 (a b:Int):W (Cl.get (aBin E .leq t xo yo) (.int .i64 a) (.int .i64 b)) s Q=Q (.bool (decide (a<=b))) s:=As (VY_ _ a b)
theorem B9 (a b:Int):W (Cl.get (aBin E .geq t xo yo) (.int .i64 a) (.int .i64 b)) s Q=Q (.bool (decide (b<=a))) s:=As (Aar_ _ a b)
theorem BJ (a b:Int):W (Cl.get (aBin E .eql t xo yo) (.int .i64 a) (.int .i64 b)) s Q=Q (.bool (decide (a=b))) s:=As (AbK_ _ a b)
theorem Cr (a b:Int):W (Cl.get (aBin E .neq t xo yo) (.int .i64 a) (.int .i64 b)) s Q=Q (.bool (!decide (a=b))) s:=As (Afi_ _ a b)
end
end
open Go.RowKit
theorem Rel.ofOld {w:World}{r:Inj}{mem:T Cell}(hk:r.known.sure w)(hd: ∀b b' d,r.blk b=some (b',d)->b'<w.heap.size)
  (ho: ∀loc c,T.get mem loc=some c-> ∃b v,c= .O (.old b v)/\ ∃b' d v',b<=loc/\r.blk b=some (b',d)/\w.cell? ⟨b',loc-b+d,none⟩=some v'/\VR r v v'):Rel w r mem w where
 below:= .refl _ _
 dom:=λb b' d e=>⟨Nat.le_refl _,hd b b' d e⟩
 cell:=λl b v e=>by obtain⟨_,_,e2,_⟩:=ho _ _ e;cases e2
 sep:=λl1 l2 b1 v1 b2 v2 b' d1 d2 e=>by obtain⟨_,_,e2,_⟩:=ho _ _ e;cases e2
 obj:=λl o e ht=>by obtain⟨_,_,e2,_⟩:=ho _ _ e;cases e2;cases ht
 sepO:=λl1 l2 o1 o2 b' d1 d2 e _ ht=>by obtain⟨_,_,e2,_⟩:=ho _ _ e;cases e2;cases ht
 tok:=λt sz e=>by obtain⟨_,_,e2,_⟩:=ho _ _ e;cases e2
 sepT:=λt1 t2 s1 s2 k1 k2 e=>by obtain⟨_,_,e2,_⟩:=ho _ _ e;cases e2
 known:=hk
 szs:=λl n e=>by obtain⟨_,_,e2,_⟩:=ho _ _ e;cases e2
 olds:={
  old:=λl b v e=>by obtain⟨_,_,e2,h⟩:=ho _ _ e;cases e2;exact h
  newC:=λl b v b' d e=>by obtain⟨_,_,e2,_⟩:=ho _ _ e;cases e2
  newO:=λl o b' d e ht=>by obtain⟨_,_,e2,_⟩:=ho _ _ e;cases e2;cases ht
  newS:=λl n b' d e=>by obtain⟨_,_,e2,_⟩:=ho _ _ e;cases e2}
theorem Ym_ {E:Env}(he:EnvOK E){fuel f:Nat}{args:List Value}{args':Array Value}{v:Value}{s0:St}{r:Inj}(ho:E.orc.get f=none)(hx:E.ext.get f=none)(h:W (Ac E (runF E fuel) f args) s0 λu _=>u=v)(hp:plain v=true){w:World}(ha:VRs r args args'.toList)(hr:Rel w r s0.mem w)(hb:Bnd s0)
  (hf: ∀b,s0.next<=b->r.blk b=none/\r.ext b=none):Calls E.P f args' w λe w'=>e= .returned v/\Below w.heap.size w w':=by
 intro cs
 obtain⟨_,s',h,rfl⟩:=h
 unfold Ac at h
 rw[ho,hx]at h
 obtain⟨s2,e1,rfl⟩:=GR (o:= .inl _) (show within cxN (M.bind (M.bind (B2 E f args .normal) (runF E fuel)) fstV) s0=rOf (.inl _) s' from h)
 obtain⟨af,s1,o,e2,e3,e4⟩:=KL (IG _ _ _) e1
 obtain⟨_,hF,rfl⟩:=LC (r:=r) (base:=([],cs)) (cx:=cxN) he e2 ha (cs:=cs) ⟨⟨rfl,rfl⟩,rfl, .nil⟩
 obtain⟨w',r',k1,k2,cs',k3,k4⟩:=(On he fuel).ok e3 hF hr hb (λb h1 _=>hf b h1)
 cases o with
 |inr c=>cases e4
 |inl p=>
  cases e4
  obtain⟨v',q1,q2,q3⟩:=k4
  obtain⟨fr',x1,x2,x3⟩:=q3 rfl rfl
  have hcs:cs'=cs:=by
   rcases k3 with k3|⟨_,_,_,_,_,k,_⟩
   ·exact k3.2
   ·cases k
  subst hcs
  exact⟨.returned v',w',fr',⟨by rw[q1.eq_of_plain hp],k1.rel.below⟩,x3,x1,x2⟩
theorem VRs.plains {r:Inj}: ∀{l:List Value},(∀v∈l,plain v=true)->VRs r l l
 |[],_=> .nil
 |v::l,h=> .cons (.of_plain (h v am)) (VRs.plains λu hu=>h u (by simp[hu]))
def layT (b:Nat):List Value->Nat->T Cell->T Cell
 |[],_,t=>t
 |v::l,i,t=>layT b l (i+1) (T.set t i (.O (.old b v)))
theorem It_ (b:Nat): ∀(l:List Value) (i:Nat) (t:T Cell) (j:Nat),T.get (layT b l i t) j=if i<=j/\j<i+l.length then(l[j-i]?).map (λv=> .O (.old b v))else T.get t j
 |[],i,t,j=>by
  rw[if_neg (by simp only[List.length_nil];omega)]
  rfl
 |v::l,i,t,j=>by
  show T.get (layT b l (i+1) (T.set t i (.O (.old b v)))) j=_
  rw[It_ b l (i+1),T.get_set]
  simp only[List.length_cons]
  by_cases h1:j=i
  ·subst h1
   rw[if_neg J,if_pos rfl,if_pos J,Nat.sub_self]
   rfl
  ·rw[if_neg h1]
   by_cases h2:i+1<=j/\j<i+1+l.length
   ·rw[if_pos h2,if_pos J,show j-i=(j-(i+1))+1 by omega]
    rfl
   ·rw[if_neg h2,if_neg J]
def tyS (E:Env)(t:Nat):Option (Nat×Bool):=match T.get E.ty t with|some i=>some (i.size,i.agg)|none=>none
def slN (E:Env)(t:Nat):Option Nat:=match T.get E.ty t with
 |some i=>(match i.u with| .slice e=>(match T.get E.ty e with|some ie=>some ie.size|none=>none)|_=>none)
 |none=>none
def fldN (E:Env)(t f:Nat):Option (Nat×Nat×Bool):=match T.get E.ty t with
 |some i=>(match i.u with| .struct fs=>(match fs.toList[f]? with|some fd=>(match T.get E.ty fd.type with|some fi=>some (fd.offset,fi.size,fi.agg)|none=>none)|none=>none)|_=>none)
 |none=>none
def JI (E:Env)(t:Nat):Option (List Value):=match T.get E.ty t with|some i=>some i.zero|none=>none
def intK (E:Env)(t:Nat):Option IntKind:=match T.get E.ty t with|some i=>(match i.u with| .int k=>some k|_=>none)|none=>none
def hasT (E:Env)(t:Nat):Bool:=(T.get E.ty t).isSome
section
variable {α β:Type}{s:St}{E:Env}{t:Nat}
theorem Qx {n:Nat}{g:Bool}(h:tyS E t=some (n,g)): ∃i,T.get E.ty t=some i/\i.size=n/\i.agg=g:=by
 unfold tyS at h
 split at h
 ·rename_i i e
  cases h
  exact⟨i,e,rfl,rfl⟩
 ·cases h
theorem GU {n:Nat}(h:slN E t=some n): ∃i e ie,T.get E.ty t=some i/\i.u= .slice e/\T.get E.ty e=some ie/\ie.size=n:=by
 unfold slN at h
 split at h
 ·rename_i i e
  split at h
  ·rename_i e2 q
   split at h
   ·rename_i ie q2
    cases h
    exact⟨i,e2,ie,e,q,q2,rfl⟩
   ·cases h
  ·cases h
 ·cases h
theorem Apv_ {f off sz:Nat}{g:Bool}(h:fldN E t f=some (off,sz,g)): ∃i fs fd fi,T.get E.ty t=some i/\i.u= .struct fs/\fs.toList[f]?=some fd/\T.get E.ty fd.type=some fi/\fd.offset=off/\fi.size=sz/\fi.agg=g:=by
 unfold fldN at h
 split at h
 ·rename_i i e
  split at h
  ·rename_i fs q
   split at h
   ·rename_i fd q2
    split at h
    ·rename_i fi q3
     cases h
     exact⟨i,fs,fd,fi,e,q,q2,q3,rfl,rfl,rfl⟩
    ·cases h
   ·cases h
  ·cases h
 ·cases h
theorem W.ti {i:TI}{Q:TI->St->Prop}(h:T.get E.ty t=some i)(q:Q i s):W (ti E t) s Q:=W.ofOpt h q
theorem aA {b o:Nat}{v:Value}{Q:Value->St->Prop}(ht:tyS E t=some (1,false))(h:At s b o v)(q:Q v (s.rdN (b+o))):W (Bd E t (.pointer (some ⟨b,o,none⟩))) s Q:=by
 obtain⟨i,h1,h2,h3⟩:=Qx ht
 refine W.bind (W.pure (W.bind (W.ti h1 ?_)))
 show W (aT i.agg _ _) s Q
 rw[h3]
 exact W.rdV h q
theorem W.loadA {b o n:Nat}{l:List Value}{Q:Value->St->Prop}(ht:tyS E t=some (n,true))(h:Row s b o l)(hl:l.length=n)
  (q: ∀s1,s1.mem=s.mem->s1.next=s.next->Ext (In b o n) Non s s1->Q (.agg l.toArray) s1):W (Bd E t (.pointer (some ⟨b,o,none⟩))) s Q:=by
 obtain⟨i,h1,h2,h3⟩:=Qx ht
 subst hl
 refine W.bind (W.pure (W.bind (W.ti h1 ?_)))
 show W (aT i.agg (M.bind (Am.rdL i.size ⟨b,o,none⟩) λl=>M.pure (Value.agg l.toArray)) _) s Q
 rw[h3,h2]
 exact W.bind (W.rdL h λs1 e1 e2 e3=>W.pure (q s1 e1 e2 e3))
theorem CK {v:Value}(h:oneCell v=true):cellsOf v=[v]:=by cases v<;>simp[oneCell]at h<;>rfl
theorem W.store {b o n:Nat}{g:Bool}{v:Value}{Q:Value->St->Prop}(ht:tyS E t=some (n,g))(hl:(cellsOf v).length=n)(h1:(cellsOf v).all oneCell=true)(h: ∀i,i<n-> ∃u,Own s b (o+i) u)
  (q: ∀s1,s1.next=s.next->Ext (In b o n) (In b o n) s s1->Ai s1 b o (cellsOf v)->Q undef s1):W (Az E t (.pointer (some ⟨b,o,none⟩)) v) s Q:=by
 obtain⟨i,g1,g2,g3⟩:=Qx ht
 subst hl
 refine W.bind (W.pure (W.bind (W.bind (W.ti g1 (W.chk ?_ (W.wrL h h1 λs1 e1 e2 e3=>W.pure (q s1 e1 e2 e3)))))))
 rw[g2]
 exact Nat.beq_refl _
theorem aI {b o:Nat}{g:Bool}{u v:Value}{Q:Value->St->Prop}(ht:tyS E t=some (1,g))(hv:oneCell v=true)(h:Own s b o u)
  (q: ∀s1,s1.next=s.next->Ext (In b o 1) (In b o 1) s s1->Own s1 b o v->Q undef s1):W (Az E t (.pointer (some ⟨b,o,none⟩)) v) s Q:=by
 refine W.store ht (by rw[CK hv];rfl) (by rw[CK hv];simp[hv]) (λi hi=>⟨u,by rw[show o+i=o by omega];exact h⟩) λs1 e1 e2 e3=>q s1 e1 e2 ?_
 have:=e3 0 v (by rw[CK hv];rfl)
 exact this
theorem W.alloc {z:List Value}{Q:Value->St->Prop}(ht:JI E t=some z)(q: ∀s1,s1.next=s.next+z.length+1->Ext Non Non s s1->Ai s1 s.next 0 z->Q (.pointer (some ⟨s.next,0,none⟩)) s1):W (CM E t) s Q:=by
 unfold JI at ht
 split at ht
 ·rename_i i e
  cases ht
  exact W.bind (W.ti e (W.bind (W.newL λs1 e1 e2 e3=>W.pure (q s1 e1 e2 e3))))
 ·cases ht
theorem W.box {v:Value}{Q:Value->St->Prop}(q: ∀s1,s1.next=s.next+(cellsOf v).length+1->Ext Non Non s s1->Ai s1 s.next 0 (cellsOf v)->Q (.pointer (some ⟨s.next,0,none⟩)) s1):W (kBox v) s Q:=
 W.bind (W.newL λs1 e1 e2 e3=>W.pure (q s1 e1 e2 e3))
theorem Ab {f off sz b o:Nat}{g:Bool}(h:fldN E t f=some (off,sz,g))(h0:0<sz)(Q:Value->St->Prop):W (kFld E t (.pointer (some ⟨b,o,none⟩)) f) s Q=Q (.pointer (some ⟨b,o+off,none⟩)) s:=by
 obtain⟨i,fs,fd,fi,h1,h2,h3,h4,h5,h6,h7⟩:=Apv_ h
 subst h5;subst h6
 refine As ?_
 unfold kFld
 rw[AO (show ti E t s= .some i s by unfold ti;rw[h1];rfl),AO (show asA (.pointer (some ⟨b,o,none⟩)) s= .some ⟨b,o,none⟩ s from rfl)]
 rw[AO (show DJ E i.u f s= .some (fd.offset,fi,fd.type) s by unfold DJ;rw[h2];simp only[h3];exact AO (show ti E fd.type s= .some fi s by unfold ti;rw[h4];rfl))]
 show M.chk (Nat.blt 0 fi.size) (ptrA (addA ⟨b,o,none⟩ fd.offset)) s=_
 rw[Bz h0]
 show ptrA ⟨b,o+fd.offset,none⟩ s=_
 unfold ptrA
 rw[CH]
 rfl
theorem AA {sz b o n c k:Nat}{kd:IntKind}(h:slN E t=some sz)(hk:k<n)(Q:Value->St->Prop):W (B8 E t (.slice (some ⟨b,o,none⟩) n c) (.int kd (k:Nat))) s Q=Q (.pointer (some ⟨b,o+k*sz,none⟩)) s:=by
 obtain⟨i,e,ie,h1,h2,h3,h4⟩:=GU h
 subst h4
 refine As ?_
 unfold B8
 rw[AO (show ti E t s= .some i s by unfold ti;rw[h1];rfl),AO (show asN (.int kd (k:Nat)) s= .some k s from rfl)]
 unfold idxN
 rw[h2]
 simp only
 rw[AO (show ti E e s= .some ie s by unfold ti;rw[h3];rfl)]
 rw[Bz hk]
 show ptrA ⟨b,o+k*ie.size,none⟩ s=_
 unfold ptrA
 rw[CH]
 rfl
theorem AD (a:Addr)(Q:Value->St->Prop):W (kNil (.pointer (some a))) s Q=Q (.pointer (some a)) s:=As rfl
theorem Bt {sz n c:Nat}{p:Option Addr}(h:slN E t=some sz)(Q:Value->St->Prop):W (AH E .len [t] [.slice p n c]) s Q=Q (.int .i64 (n:Nat)) s:=by
 obtain⟨i,e,ie,h1,h2,h3,h4⟩:=GU h
 refine As ?_
 show aLen E t (.slice p n c) s=_
 unfold aLen
 rw[AO (show ti E t s= .some i s by unfold ti;rw[h1];rfl)]
 rw[h2]
 show pN n s=_
 unfold pN
 rw[Ar]
 rfl
theorem ApC_ {d:Nat}{k k':IntKind}{n:Int}(h1:hasT E t=true)(h2:intK E d=some k')(Q:Value->St->Prop):W (Ce E t d (.int k n)) s Q=Q (.int k' (k'.wrap n)) s:=by
 refine As ?_
 show Fx E t d k n s=_
 unfold hasT at h1
 obtain⟨i,hi⟩:=Option.isSome_iff_exists.1 h1
 unfold intK at h2
 split at h2
 ·rename_i id hd
  split at h2
  ·rename_i k2 hu
   cases h2
   unfold Fx
   rw[AO (show ti E t s= .some i s by unfold ti;rw[hi];rfl),AO (show ti E d s= .some id s by unfold ti;rw[hd];rfl)]
   simp only[hu]
   show fI (KC k' n) (λn=>M.pure (Value.int k' n)) s=_
   rw[Cd,HZ_]
   rfl
  ·cases h2
 ·cases h2
theorem BL {k:Nat}{vs:Array Value}{v:Value}(h:vs.toList[k]?=some v)(Q:Value->St->Prop):W (kExt k (.tuple vs)) s Q=Q v s:=As (by show M.ofOpt (vs.toList[k]?) s=_;rw[h];rfl)
theorem Oe_ {call round:Ag}{f:Nat}{l:List Value}(Q:Value->St->Prop):W (AU call round (.func (.func f) #[] #[]) l) s Q=W (call f l) s Q:=by
 show W (call f ([]++(l++[]))) s Q=_
 rw[List.append_nil,List.nil_append]
theorem SS:type_of%(And.intro @J4 (And.intro @W_oS (And.intro @W_on (And.intro @AI (And.intro @W_mv (And.intro @Yg (And.intro @E8 (And.intro @T.get_set (And.intro @A0 (And.intro @A3 (And.intro @LL (And.intro @EN (And.intro @AW (And.intro @Oe_ (And.intro @Bk (And.intro @MX (And.intro @Ky (And.intro @Hk (And.intro @Hf (And.intro @Fy (And.intro @Xj (And.intro @EP (And.intro @Df (@AD)))))))))))))))))))))))):=⟨@J4, @W_oS, @W_on, @AI, @W_mv, @Yg, @E8, @T.get_set, @A0, @A3, @LL, @EN, @AW, @Oe_, @Bk, @MX, @Ky, @Hk, @Hf, @Fy, @Xj, @EP, @Df, @AD⟩
theorem W.orc {ih:AF->M (Value×FrameMode)}{f:Nat}{m:List Value->M Value}{args:List Value}{Q:Value->St->Prop}(ho:E.orc.get f=some m)(h:W (m args) s Q):W (Ac E ih f args) s Q:=by
 unfold Ac
 rw[ho]
 exact h
end
section
variable {α β:Type}{s:St}{E:Env}{t:Nat}
abbrev u8 (n:Nat):Value:= .int .u8 (n:Int)
abbrev u8l (l:List Nat):List Value:=l.map λn:Nat=>Value.int .u8 (n:Int)
theorem Br (l:List Nat):(u8l l).length=l.length:=am
def Bs (s:St)(v:Value)(l:List Nat):Prop:=
 (v= .slice none 0 0/\l=[])\/ ∃b o c,v= .slice (some ⟨b,o,none⟩) l.length c/\l.length<=c%capU/\Bu c 1=true/\Row s b o (u8l l)
def BsF (v:Value):Nat->Prop:=match v with
 | .slice (some ⟨b,o,_⟩) n _=>In b o n
 |_=>Non
theorem Bs.ext {F G:Nat->Prop}{s s':St}{v:Value}{l:List Nat}(h:Bs s v l)(e:Ext F G s s')(hG: ∀x,BsF v x-> ¬G x):Bs s' v l:=by
 rcases h with h|⟨b,o,c,rfl,h1,h2,h3⟩
 ·exact .inl h
 ·refine .inr ⟨b,o,c,rfl,h1,h2,h3.ext e λi hi=>hG _ ?_⟩
  rw[Br]at hi
  exact⟨J,J⟩
theorem Bs.ext0 {F:Nat->Prop}{s s':St}{v:Value}{l:List Nat}(h:Bs s v l)(e:Ext F Non s s'):Bs s' v l:=h.ext e λ_ _=>id
theorem Bs.same {s s':St}{v:Value}{l:List Nat}(h:Bs s v l)(hm:s'.mem=s.mem)(hn:s'.next=s.next):Bs s' v l:=by
 rcases h with h|⟨b,o,c,h0,h1,h2,h3⟩
 ·exact .inl h
 ·exact .inr ⟨b,o,c,h0,h1,h2,λi v e=>(h3 i v e).same hm hn⟩
theorem Bs.sl {v:Value}{l:List Nat}(h:Bs s v l): ∃p c,v= .slice p l.length c:=by
 rcases h with⟨rfl,rfl⟩|⟨b,o,c,rfl,_⟩
 ·exact⟨_,_,rfl⟩
 ·exact⟨_,_,rfl⟩
theorem Bs.len {v:Value}{l:List Nat}{sz:Nat}(h:Bs s v l)(ht:slN E t=some sz)(Q:Value->St->Prop):W (AH E .len [t] [v]) s Q=Q (.int .i64 (l.length:Nat)) s:=by
 obtain⟨p,c,rfl⟩:=h.sl
 exact Bt ht Q
theorem Row.take {b o n:Nat}{l:List Value}(h:Row s b o l):Row s b o (l.take n):=λi v e=>by
 rw[List.getElem?_take]at e
 split at e
 ·exact h i v e
 ·cases e
theorem Row.drop {b o n:Nat}{l:List Value}(h:Row s b o l):Row s b (o+n) (l.drop n):=λi v e=>by
 rw[List.getElem?_drop]at e
 have:=h _ v e
 rw[show o+n+i=o+(n+i) by omega]
 exact this
theorem Ai.take {b o n:Nat}{l:List Value}(h:Ai s b o l):Ai s b o (l.take n):=λi v e=>by
 rw[List.getElem?_take]at e
 split at e
 ·exact h i v e
 ·cases e
theorem Ai.drop {b o n:Nat}{l:List Value}(h:Ai s b o l):Ai s b (o+n) (l.drop n):=λi v e=>by
 rw[List.getElem?_drop]at e
 have:=h _ v e
 rw[show o+n+i=o+(n+i) by omega]
 exact this
def txt (l:List Nat):ByteArray:=⟨(l.map UInt8.ofNat).toArray⟩
theorem PO_: ∀(l:List Nat),G7 (u8l l)=some (l.map UInt8.ofNat)
 |[]=>rfl
 |n::l=>by
  show onO (some (UInt8.ofNat n)) (λb=>onO (G7 (u8l l)) λl=>some (b::l))=_
  rw[PO_ l]
  rfl
def D3 (E:Env)(t:Nat):Bool:=match T.get E.ty t with|some i=>(match i.u with| .string=>true|_=>false)|none=>false
def N2 (E:Env)(t:Nat):Bool:=match T.get E.ty t with
 |some i=>(match i.u with| .slice e=>(match T.get E.ty e with|some ie=>(match ie.u with| .int .u8=>true|_=>false)|none=>false)|_=>false)
 |none=>false
theorem W.str {d:Nat}{v:Value}{l:List Nat}{Q:Value->St->Prop}(h:Bs s v l)(hz:l≠[]\/ ∃b o c,v= .slice (some ⟨b,o,none⟩) l.length c)(h1:N2 E t=true)(h2:D3 E d=true)
  (q: ∀s1,s1.mem=s.mem->s1.next=s.next->Ext (BsF v) Non s s1->Q (.string (txt l)) s1):W (Ce E t d v) s Q:=by
 have h': ∃b o c,v= .slice (some ⟨b,o,none⟩) l.length c/\Row s b o (u8l l):=by
  rcases h with⟨rfl,rfl⟩|⟨b,o,c,rfl,_,_,h3⟩
  ·rcases hz with hz|⟨b,o,c,hz⟩
   ·exact absurd rfl hz
   ·cases hz
  ·exact⟨b,o,c,rfl,h3⟩
 obtain⟨b,o,c,rfl,h3⟩:=h'
 unfold N2 at h1
 split at h1
 ·rename_i i hi
  split at h1
  ·rename_i e hu
   split at h1
   ·rename_i ie he
    split at h1
    ·rename_i hk
     unfold D3 at h2
     split at h2
     ·rename_i id hd
      split at h2
      ·rename_i hs
       have conv: ∀s:St,Ce E t d (.slice (some ⟨b,o,none⟩) l.length c) s=strOf ⟨b,o,none⟩ l.length s:=λs=>by
        show Ed E t d ⟨b,o,none⟩ l.length c s=_
        unfold Ed
        rw[AO (show Am.ti E t s= .some i s by unfold Am.ti;rw[hi];rfl),AO (show Am.ti E d s= .some id s by unfold Am.ti;rw[hd];rfl)]
        simp only[hu,hs]
        show DH E t d (.slice (some ⟨b,o,none⟩) l.length c) s=_
        show Fp E t d ⟨b,o,none⟩ l.length s=_
        unfold Fp
        rw[AO (show Am.ti E t s= .some i s by unfold Am.ti;rw[hi];rfl),AO (show Am.ti E d s= .some id s by unfold Am.ti;rw[hd];rfl)]
        simp only[hu,hs]
        rw[AO (show Am.ti E e s= .some ie s by unfold Am.ti;rw[he];rfl)]
        simp only[hk]
       refine aK (conv s) ?_
       have hl:l.length=(u8l l).length:=(Br l).symm
       show W (M.bind (Am.rdL l.length ⟨b,o,none⟩) λx=>M.on (G7 x) λbs=>M.pure (.string ⟨bs.toArray⟩)) s Q
       rw[hl]
       refine W.bind (W.rdL h3 λs1 e1 e2 e3=>W.on (PO_ l) (W.pure (q s1 e1 e2 ?_)))
       rw[Br]at e3
       exact e3
      ·cases h2
     ·cases h2
    ·cases h1
   ·cases h1
  ·cases h1
 ·cases h1
theorem Lu {P:Program}{u:TypeDesc}(h:P.underlying t=some u):semP P (underlying t)=some u:=by
 unfold underlying program
 show semP P ((match P.underlying t with|some d=>pure d|none=>_):Sem TypeDesc)=_
 rw[h]
 rfl
end
def appT (E:Env)(t t2:Nat):Option (Nat×Nat×Bool×List Value):=match T.get E.ty t,T.get E.ty t2 with
 |some i,some i2=>(match i.u with| .slice e=>(match T.get E.ty e with|some ie=>some (ie.size,ie.bytes,Ds i2.u,ie.zero)|none=>none)|_=>none)
 |_,_=>none
def elT (E:Env)(t:Nat):Option (Nat×Nat×List Value):=match T.get E.ty t with
 |some i=>(match i.u with| .slice e=>(match T.get E.ty e with|some ie=>some (ie.size,ie.bytes,ie.zero)|none=>none)|_=>none)
 |none=>none
section
variable {α β:Type}{s:St}{E:Env}{t t2:Nat}
theorem IW {sz by':Nat}{g:Bool}{z:List Value}(h:appT E t t2=some (sz,by',g,z)): ∃i i2 e ie,T.get E.ty t=some i/\T.get E.ty t2=some i2/\i.u= .slice e/\T.get E.ty e=some ie/\ie.size=sz/\ie.bytes=by'/\Ds i2.u=g/\ie.zero=z:=by
 unfold appT at h
 split at h
 ·rename_i i i2 h1 h2
  split at h
  ·rename_i e hu
   split at h
   ·rename_i ie he
    cases h
    exact⟨i,i2,e,ie,h1,h2,hu,he,rfl,rfl,rfl,rfl⟩
   ·cases h
  ·cases h
 ·cases h
theorem LJ {sz by':Nat}{z:List Value}(h:elT E t=some (sz,by',z)): ∃i e ie,T.get E.ty t=some i/\i.u= .slice e/\T.get E.ty e=some ie/\ie.size=sz/\ie.bytes=by'/\ie.zero=z:=by
 unfold elT at h
 split at h
 ·rename_i i h1
  split at h
  ·rename_i e hu
   split at h
   ·rename_i ie he
    cases h
    exact⟨i,e,ie,h1,hu,he,rfl,rfl,rfl⟩
   ·cases h
  ·cases h
 ·cases h
def Src (s:St)(sz:Nat)(x:Value)(n:Nat)(l:List Value)(F:Nat->Prop):Prop:=
 (∃p c,x= .slice p n c)/\ ∃s1,srcL sz x n s= .some l s1/\s1.mem=s.mem/\s1.next=s.next/\Ext F Non s s1
theorem FQ {b o n c sz:Nat}{l:List Value}(h:Row s b o l)(hl:l.length=n*sz):Src s sz (.slice (some ⟨b,o,none⟩) n c) n l (In b o (n*sz)):=by
 refine⟨⟨_,_,rfl⟩, ?_⟩
 obtain⟨a,s1,e,rfl,h1,h2,h3⟩:=W.rdL (Q:=λa s1=>a=l/\s1.mem=s.mem/\s1.next=s.next/\Ext (λx=>b+o<=x/\x<b+o+l.length) Non s s1) h λs1 e1 e2 e3=>⟨rfl,e1,e2,e3⟩
 refine⟨s1, ?_,h1,h2, ?_⟩
 ·show rdL (n*sz) ⟨b,o,none⟩ s=_
  rw[<-hl]
  exact e
 ·rw[hl]at h3
  exact h3
theorem VY {sz:Nat}:Src s sz (.slice none 0 0) 0 [] Non:=⟨⟨_,_,rfl⟩,s,rfl,rfl,rfl,Ext.refl s⟩
def SrcG (s:St)(sz by':Nat)(g:Bool)(z:List Value)(x:Value)(n:Nat)(l:List Value)(F:Nat->Prop):Prop:=
 ∀ie:TI,ie.size=sz->ie.bytes=by'->ie.zero=z->(∀s':St,appN g ie.bytes x s'= .some n s')/\ ∃s1,appL g ie x n s= .some l s1/\s1.mem=s.mem/\s1.next=s.next/\Ext F Non s s1
theorem Src.g {sz by' n:Nat}{z l:List Value}{x:Value}{F:Nat->Prop}(h:Src s sz x n l F):SrcG s sz by' false z x n l F:=λie h1 _ _=>by
 obtain⟨⟨p,c,rfl⟩,s1,e,m1,n1,x1⟩:=h
 subst h1
 exact⟨λ_=>rfl,s1,e,m1,n1,x1⟩
theorem Wi_ {sz by' n:Nat}{z:List Value}(h:n*(by'+1)<=16777216):SrcG s sz by' true z (.int .i64 (n:Nat)) n (rep n z) Non:=λie _ h2 h3=>by
 subst h2;subst h3
 refine⟨λs'=> ?_,s,rfl,rfl,rfl,Ext.refl s⟩
 show M.chk (Nat.ble (n*(ie.bytes+1)) 16777216) (M.pure n) s'=_
 rw[Nat.ble_eq_true_of_le h]
 rfl
theorem W.appIn {sz by' len n b o c:Nat}{z l:List Value}{x:Value}{F:Nat->Prop}{Q:Value->St->Prop}{g:Bool}(ht:appT E t t2=some (sz,by',g,z))(hx:SrcG s sz by' g z x n l F)(hr:len+n<=c%capU)(hl:l.length=n*sz)(h1:l.all oneCell=true)
  (own: ∀i,i<n*sz-> ∃u,Own s b (o+len*sz+i) u)
  (q: ∀s2,s2.next=s.next->Ext (λx=>F x\/In b (o+len*sz) (n*sz) x) (In b (o+len*sz) (n*sz)) s s2->Ai s2 b (o+len*sz) l->Q (.slice (some ⟨b,o,none⟩) (len+n) c) s2):W (BV E t t2 (.slice (some ⟨b,o,none⟩) len c) x) s Q:=by
 obtain⟨i,i2,e,ie,g1,g2,g3,g4,g5,g6,g7,g8⟩:=IW ht
 obtain⟨hN,s1,e1,m1,n1,x1⟩:=hx ie g5 g6 g8
 subst g5
 refine W.bind (W.ti g1 (W.bind (W.ti g2 ?_)))
 rw[g3,g7]
 refine W.bind (W.ti g4 (W.bind (a7 (hN s) (W.bind ?_))))
 refine a7 e1 ?_
 show W (aT (Nat.ble (Nat.add len n) (Nat.mod c capU)) _ _) s1 Q
 rw[show Nat.ble (Nat.add len n) (Nat.mod c capU)=true from Nat.ble_eq_true_of_le hr]
 have own1: ∀i,i<l.length-> ∃u,Own s1 b (o+len*ie.size+i) u:=λi hi=>by
  obtain⟨u,hu⟩:=own i (by rw[<-hl];exact hi)
  exact⟨u,hu.same m1 n1⟩
 refine W.bind (m:=Am.wrL l (addA ⟨b,o,none⟩ (Nat.mul len ie.size))) (W.wrL own1 h1 λs2 n2 x2 r2=> ?_)
 show W (Am.fA (⟨b,o,none⟩:Addr) λa=>Am.fN (Nat.add len n) λl=>Am.fN c λc=>M.pure (.slice (some a) l c)) s2 Q
 refine W.fA (W.fN (W.fN (W.pure (q s2 (n2.trans n1) ?_ r2))))
 rw[hl]at x2
 obtain⟨d1,p1,p2⟩:=x1.rd
 obtain⟨d2,p3,p4⟩:=x2.rd
 obtain⟨d3,p5,p6⟩:=x1.wr
 obtain⟨d4,p7,p8⟩:=x2.wr
 refine⟨Nat.le_of_eq (n2.trans n1).symm,x2.lim.trans x1.lim,x2.cx.trans x1.cx,λy q1 q2=>by rw[x2.mem y (by rw[n1];exact q1) q2,m1],⟨d2++d1,by rw[p3,p1,List.append_assoc],λy hy=> ?_⟩,⟨d4++d3,by rw[p7,p5,List.append_assoc],λy hy=> ?_⟩⟩
 ·rcases List.mem_append.1 hy with hy|hy
  ·have:=p4 y hy
   rw[x1.lim]at this
   exact⟨this.1, .inr this.2⟩
  ·exact⟨(p2 y hy).1, .inl (p2 y hy).2⟩
 ·rcases List.mem_append.1 hy with hy|hy
  ·have:=p8 y hy
   rw[x1.lim]at this
   exact this
  ·exact(p6 y hy).2.elim
structure Fresh1 (s s':St)(sz n:Nat)(l:List Value)(v:Value)(b:Nat):Prop where
 val:v= .slice (some ⟨b,0,none⟩) n (capU*((b+n*sz)*1024+sz)+n)
 new:s.next<=b
 own:Ai s' b 0 l
 len:l.length=n*sz
 tok: ∃q,q%1024=sz/\T.get s'.mem (b+n*sz)=some (.O (.tok false q))
 lt:b+n*sz<s'.next
theorem W.appNilT (hbd:s.lim<=s.next){sz by' n:Nat}{z l:List Value}{x:Value}{F:Nat->Prop}{Q:Value->St->Prop}{g:Bool}(ht:appT E t t2=some (sz,by',g,z))(hx:SrcG s sz by' g z x n l F)(hn:0<n)(hs0:0<sz)(hs1:sz<1024)(hb:n*(by'+1)<=16777216)(hl:l.length=n*sz)(h1:l.all oneCell=true)
  (q: ∀s2 v b,Fresh1 s s2 sz n l v b->T.get s2.mem (b+n*sz)=some (.O (.tok false (flg sz 1 (Di z))))->Ext F Non s s2->Q v s2):W (BV E t t2 (.slice none 0 0) x) s Q:=by
 obtain⟨i,i2,e,ie,g1,g2,g3,g4,g5,g6,g7,g8⟩:=IW ht
 obtain⟨hN,s1,e1,m1,n1,x1⟩:=hx ie g5 g6 g8
 subst g5;subst g6
 refine W.bind (W.ti g1 (W.bind (W.ti g2 ?_)))
 rw[g3,g7]
 refine W.bind (W.ti g4 (W.bind (a7 (hN s) (W.bind ?_))))
 refine a7 e1 ?_
 show W (aT (Nat.ble (Nat.add 0 n) (Nat.mod 0 capU)) _ _) s1 Q
 have hz:Nat.ble (Nat.add 0 n) (Nat.mod 0 capU)=false:=by
  cases hq:Nat.ble (Nat.add 0 n) (Nat.mod 0 capU)with
  |false=>rfl
  |true=>
   have h2:=Nat.le_of_ble_eq_true hq
   have h3:Nat.mod 0 capU=0:=Nat.zero_mod _
   rw[h3]at h2
   have h4:Nat.add 0 n=n:=Nat.zero_add n
   rw[h4]at h2
   omega
 rw[hz]
 show W (grow ie.size ie.bytes (Di ie.zero) none 0 0 n l) s1 Q
 rw[g8]
 unfold grow
 refine W.chk ?_ (W.bind (W.pure (W.bind ?_)))
 ·rw[h1,hl,Nat.zero_add]
  simp only[Bool.and_true,Bool.and_eq_true,Bool.or_eq_true]
  refine⟨⟨⟨⟨Nat.ble_eq_true_of_le hb,Bz hs0⟩,Bz hs1⟩, .inr rfl⟩,Nat.beq_refl _⟩
 ·show W (Dc ie.size none (Nat.mod 0 capU) (Nat.div 0 capU)) s1 _
  have hd:Nat.div 0 capU=0:=Nat.zero_div _
  rw[hd]
  show W (M.pure 1) s1 _
  refine W.pure (W.bind (W.newL λs2 n2 x2 r2=>W.fN (W.fN (W.bind (W.wrC ?_ ?_)))))
  ·rw[n2,n1]
   simp only[Nat.add_eq,Nat.mul_eq,Nat.zero_mul,List.take_zero,List.nil_append,hl,Nat.zero_add]
   omega
  ·show W (Am.fA (⟨s1.next,0,none⟩:Addr) λa=>Am.fN (Nat.add 0 n) λl=>Am.fN _ λc=>M.pure (.slice (some a) l c)) _ Q
   have hlen:([].take (Nat.mul 0 ie.size)++l:List Value)=l:=am
   rw[hlen]at n2 r2
   have hadd:Nat.add 0 n=n:=Nat.zero_add n
   have htok: ∀c:Cell,T.get (T.set s2.mem (Nat.add s1.next (Nat.mul (Nat.add 0 n) ie.size)) c) (s1.next+n*ie.size)=some c:=λc=>by
    rw[hadd,T.get_set]
    exact if_pos rfl
   refine W.fA (W.fN (W.fN (W.pure (q _ _ s1.next ⟨?_,Nat.le_of_eq n1.symm, ?_,hl,⟨_,Io hs1,htok _⟩, ?_⟩ (htok _) ?_))))
   ·rw[hadd]
    rfl
   ·intro k v hk
    have hk':=(List.getElem?_eq_some_iff.1 hk).1
    have:=r2 k v hk
    refine⟨this.1, ?_⟩
    show T.get (T.set s2.mem _ _) _=_
    rw[T.get_set,if_neg]
    ·exact this.2
    ·rw[hadd]
     show s1.next+(0+k)≠s1.next+n*ie.size
     omega
   ·show s1.next+n*ie.size<s2.next
    rw[n2,hl]
    omega
   ·obtain⟨d1,p1,p2⟩:=x1.rd
    obtain⟨d2,p3,p4⟩:=x2.rd
    obtain⟨d3,p5,p6⟩:=x1.wr
    obtain⟨d4,p7,p8⟩:=x2.wr
    obtain⟨d5,p9,p10⟩:=Hc (Nat.add s1.next (Nat.mul (Nat.add 0 n) ie.size)) s2.lim s2.wr
    refine⟨?_,x2.lim.trans x1.lim,x2.cx.trans x1.cx,λy q1 q2=> ?_,⟨d2++d1, ?_, ?_⟩,⟨[], ?_,λ_ h=>by cases h⟩⟩
    ·show s.next<=s2.next
     rw[n2,n1];omega
    ·show T.get (T.set s2.mem _ _) y=_
     rw[T.get_set,if_neg,x2.mem y (by rw[n1];exact q1) id,m1]
     rw[hadd]
     show y≠s1.next+n*ie.size
     rw[n1];omega
    ·show s2.rd=_
     rw[p3,p1,List.append_assoc]
    ·intro y hy
     rcases List.mem_append.1 hy with hy|hy
     ·exact(p4 y hy).2.elim
     ·exact p2 y hy
    ·show notes _ s2.lim s2.wr=s.wr
     have e1:s2.wr=s.wr:=by
      have h5:d3=[]:=by
       cases d3 with
       |nil=>rfl
       |cons y l=>exact(p6 y am).2.elim
      have h7:d4=[]:=by
       cases d4 with
       |nil=>rfl
       |cons y l=>exact(p8 y am).2.elim
      rw[p7,p5,h5,h7];rfl
     unfold notes
     rw[Il,e1]
     show s2.lim<=s1.next+Nat.mul (Nat.add 0 n) ie.size
     rw[x2.lim,x1.lim,n1]
     omega
theorem W.appNil (hbd:s.lim<=s.next){sz by' n:Nat}{z l:List Value}{x:Value}{F:Nat->Prop}{Q:Value->St->Prop}{g:Bool}(ht:appT E t t2=some (sz,by',g,z))(hx:SrcG s sz by' g z x n l F)(hn:0<n)(hs0:0<sz)(hs1:sz<1024)(hb:n*(by'+1)<=16777216)(hl:l.length=n*sz)(h1:l.all oneCell=true)
 (q: ∀s2 v b,Fresh1 s s2 sz n l v b->Ext F Non s s2->Q v s2):W (BV E t t2 (.slice none 0 0) x) s Q:=W.appNilT hbd ht hx hn hs0 hs1 hb hl h1 λs2 v b f _ x=>q s2 v b f x
theorem W.appEmpT (hbd:s.lim<=s.next){sz by' n b0 o0:Nat}{z l:List Value}{x:Value}{F:Nat->Prop}{Q:Value->St->Prop}{g:Bool}(ht:appT E t t2=some (sz,by',g,z))(hx:SrcG s sz by' g z x n l F)(hn:0<n)(hs0:0<sz)(hs1:sz<1024)(hb:n*(by'+1)<=16777216)(hl:l.length=n*sz)(h1:l.all oneCell=true)
  (q: ∀s2 v b,Fresh1 s s2 sz n l v b->T.get s2.mem (b+n*sz)=some (.O (.tok false (flg sz 1 (Di z))))->Ext F Non s s2->Q v s2):W (BV E t t2 (.slice (some ⟨b0,o0,none⟩) 0 0) x) s Q:=by
 obtain⟨i,i2,e,ie,g1,g2,g3,g4,g5,g6,g7,g8⟩:=IW ht
 obtain⟨hN,s1,e1,m1,n1,x1⟩:=hx ie g5 g6 g8
 subst g5;subst g6
 refine W.bind (W.ti g1 (W.bind (W.ti g2 ?_)))
 rw[g3,g7]
 refine W.bind (W.ti g4 (W.bind (a7 (hN s) (W.bind ?_))))
 refine a7 e1 ?_
 show W (aT (Nat.ble (Nat.add 0 n) (Nat.mod 0 capU)) _ _) s1 Q
 have hz:Nat.ble (Nat.add 0 n) (Nat.mod 0 capU)=false:=by
  cases hq:Nat.ble (Nat.add 0 n) (Nat.mod 0 capU)with
  |false=>rfl
  |true=>
   have h2:=Nat.le_of_ble_eq_true hq
   have h3:Nat.mod 0 capU=0:=Nat.zero_mod _
   rw[h3]at h2
   have h4:Nat.add 0 n=n:=Nat.zero_add n
   rw[h4]at h2
   omega
 rw[hz]
 show W (grow ie.size ie.bytes (Di ie.zero) (some ⟨b0,o0,none⟩) 0 0 n l) s1 Q
 rw[g8]
 unfold grow
 have hold:oldL ie.size (some ⟨b0,o0,none⟩) (Bool.rec (motive:=λ_=>Nat) (Nat.mod 0 capU) 0 (Nat.beq (Nat.div 0 capU) 0)) s1= .some [] s1:=by
  have hd:Nat.div 0 capU=0:=Nat.zero_div _
  rw[hd]
  show Am.rdL (0*ie.size) ⟨b0,o0,none⟩ s1=_
  rw[Nat.zero_mul]
  rfl
 refine W.chk ?_ (W.bind (a7 hold (W.bind ?_)))
 ·rw[h1,hl,Nat.zero_add]
  simp only[Bool.and_true,Bool.and_eq_true,Bool.or_eq_true]
  refine⟨⟨⟨⟨Nat.ble_eq_true_of_le hb,Bz hs0⟩,Bz hs1⟩, .inr rfl⟩,Nat.beq_refl _⟩
 ·show W (Dc ie.size (some ⟨b0,o0,none⟩) (Nat.mod 0 capU) (Nat.div 0 capU)) s1 _
  have hd:Nat.div 0 capU=0:=Nat.zero_div _
  rw[hd]
  show W (M.pure 1) s1 _
  refine W.pure (W.bind (W.newL λs2 n2 x2 r2=>W.fN (W.fN (W.bind (W.wrC ?_ ?_)))))
  ·rw[n2,n1]
   simp only[Nat.add_eq,Nat.mul_eq,Nat.zero_mul,List.take_zero,List.nil_append,hl,Nat.zero_add]
   omega
  ·show W (Am.fA (⟨s1.next,0,none⟩:Addr) λa=>Am.fN (Nat.add 0 n) λl=>Am.fN _ λc=>M.pure (.slice (some a) l c)) _ Q
   have hlen:([].take (Nat.mul 0 ie.size)++l:List Value)=l:=am
   rw[hlen]at n2 r2
   have hadd:Nat.add 0 n=n:=Nat.zero_add n
   have htok: ∀c:Cell,T.get (T.set s2.mem (Nat.add s1.next (Nat.mul (Nat.add 0 n) ie.size)) c) (s1.next+n*ie.size)=some c:=λc=>by
    rw[hadd,T.get_set]
    exact if_pos rfl
   refine W.fA (W.fN (W.fN (W.pure (q _ _ s1.next ⟨?_,Nat.le_of_eq n1.symm, ?_,hl,⟨_,Io hs1,htok _⟩, ?_⟩ (htok _) ?_))))
   ·rw[hadd]
    rfl
   ·intro k v hk
    have hk':=(List.getElem?_eq_some_iff.1 hk).1
    have:=r2 k v hk
    refine⟨this.1, ?_⟩
    show T.get (T.set s2.mem _ _) _=_
    rw[T.get_set,if_neg]
    ·exact this.2
    ·rw[hadd]
     show s1.next+(0+k)≠s1.next+n*ie.size
     omega
   ·show s1.next+n*ie.size<s2.next
    rw[n2,hl]
    omega
   ·obtain⟨d1,p1,p2⟩:=x1.rd
    obtain⟨d2,p3,p4⟩:=x2.rd
    obtain⟨d3,p5,p6⟩:=x1.wr
    obtain⟨d4,p7,p8⟩:=x2.wr
    obtain⟨d5,p9,p10⟩:=Hc (Nat.add s1.next (Nat.mul (Nat.add 0 n) ie.size)) s2.lim s2.wr
    refine⟨?_,x2.lim.trans x1.lim,x2.cx.trans x1.cx,λy q1 q2=> ?_,⟨d2++d1, ?_, ?_⟩,⟨[], ?_,λ_ h=>by cases h⟩⟩
    ·show s.next<=s2.next
     rw[n2,n1];omega
    ·show T.get (T.set s2.mem _ _) y=_
     rw[T.get_set,if_neg,x2.mem y (by rw[n1];exact q1) id,m1]
     rw[hadd]
     show y≠s1.next+n*ie.size
     rw[n1];omega
    ·show s2.rd=_
     rw[p3,p1,List.append_assoc]
    ·intro y hy
     rcases List.mem_append.1 hy with hy|hy
     ·exact(p4 y hy).2.elim
     ·exact p2 y hy
    ·show notes _ s2.lim s2.wr=s.wr
     have e1:s2.wr=s.wr:=by
      have h5:d3=[]:=by
       cases d3 with
       |nil=>rfl
       |cons y l=>exact(p6 y am).2.elim
      have h7:d4=[]:=by
       cases d4 with
       |nil=>rfl
       |cons y l=>exact(p8 y am).2.elim
      rw[p7,p5,h5,h7];rfl
     unfold notes
     rw[Il,e1]
     show s2.lim<=s1.next+Nat.mul (Nat.add 0 n) ie.size
     rw[x2.lim,x1.lim,n1]
     omega
theorem W.appEmp (hbd:s.lim<=s.next){sz by' n b0 o0:Nat}{z l:List Value}{x:Value}{F:Nat->Prop}{Q:Value->St->Prop}{g:Bool}(ht:appT E t t2=some (sz,by',g,z))(hx:SrcG s sz by' g z x n l F)(hn:0<n)(hs0:0<sz)(hs1:sz<1024)(hb:n*(by'+1)<=16777216)(hl:l.length=n*sz)(h1:l.all oneCell=true)
 (q: ∀s2 v b,Fresh1 s s2 sz n l v b->Ext F Non s s2->Q v s2):W (BV E t t2 (.slice (some ⟨b0,o0,none⟩) 0 0) x) s Q:=W.appEmpT hbd ht hx hn hs0 hs1 hb hl h1 λs2 v b f _ x=>q s2 v b f x
end
def bndV (o:Option Value)(d:Nat):Option Nat:=match o with
 |none=>some d
 |some (.int _ (.ofNat n))=>some n
 |_=>none
section
variable {α β:Type}{s:St}{E:Env}{t t2:Nat}
theorem Ht {o:Option Value}{top d n:Nat}(h:bndV o d=some n)(ht:n<=top):bnd o top d s= .some n s:=by
 unfold bndV at h
 split at h
 ·cases h;rfl
 ·cases h
  show M.chk (Nat.ble n top) (M.pure n) s=_
  rw[Nat.ble_eq_true_of_le ht]
  rfl
 ·cases h
theorem CW {sz len c b o l h:Nat}{lo hi:Option Value}(ht:slN E t=some sz)(hlo:bndV lo 0=some l)(hhi:bndV hi len=some h)(hl:l<=h)(hc:h<=c%capU)(hs:Bu c sz=true)(Q:Value->St->Prop):
  W (AZ E t (.slice (some ⟨b,o,none⟩) len c) lo hi) s Q=Q (.slice (some ⟨b,if l<c%capU then o+l*sz else o,none⟩) (h-l) (c-l)) s:=by
 obtain⟨i,e,ie,h1,h2,h3,h4⟩:=GU ht
 subst h4
 refine As ?_
 unfold AZ
 rw[AO (show ti E t s= .some i s by unfold ti;rw[h1];rfl)]
 simp only[h2]
 rw[AO (show ti E e s= .some ie s by unfold ti;rw[h3];rfl)]
 unfold slSl
 show M.bind (bnd hi (c%capU) len) _ s=_
 rw[AO (Ht hhi hc),AO (Ht hlo hl),hs]
 show pSl _ _ _ s=_
 unfold pSl
 rw[CH,Ar,Ar]
 show R.some _ s=_
 by_cases hq:l<c%capU
 ·rw[if_pos hq,show Nat.blt l (Nat.mod c capU)=true from Bz hq]
  rfl
 ·rw[if_neg hq,show Nat.blt l (Nat.mod c capU)=false from Il (Nat.le_of_not_lt hq)]
  rfl
theorem Aav_ {c l sz:Nat}(h:l<=c%capU)(hs:Bu c sz=true):Bu (c-l) sz=true:=by
 unfold Bu at *
 show Bool.rec (motive:=λ_=>Bool) (Nat.beq (Nat.mod ((c-l)/capU) 1024) sz) true (Nat.beq ((c-l)/capU) 0)=true
 rw[(Lh h).1]
 exact hs
theorem Eg {c sz:Nat}(h:c<capU):Bu c sz=true:=by
 unfold Bu
 show Bool.rec (motive:=λ_=>Bool) (Nat.beq (Nat.mod (c/capU) 1024) sz) true (Nat.beq (c/capU) 0)=true
 rw[Nat.div_eq_of_lt h]
 rfl
theorem Bs.sub' {b o c i j:Nat}{l:List Nat}(hij:i<=j)(hj:j<=l.length)(h1:l.length<=c%capU)(h2:Bu c 1=true)(h3:Row s b o (u8l l)):
  ∃o',(.slice (some ⟨b,if i<c%capU then o+i*1 else o,none⟩) (j-i) (c-i):Value)= .slice (some ⟨b,o',none⟩) ((l.take j).drop i).length (c-i)/\((l.take j).drop i).length<=(c-i)%capU/\Bu (c-i) 1=true/\Row s b o' (u8l ((l.take j).drop i))/\(o'=o+i\/((l.take j).drop i).length=0):=by
 have hlen:((l.take j).drop i).length=j-i:=by rw[List.length_drop,List.length_take];omega
 refine⟨_,by rw[hlen], ?_,Aav_ J h2, ?_, ?_⟩
 ·rw[hlen,(Lh J).2]
  omega
 ·by_cases hq:i<c%capU
  ·rw[if_pos hq,Nat.mul_one]
   have:=(h3.take (n:=j)).drop (n:=i)
   rw[<-List.map_take,<-List.map_drop]at this
   exact this
  ·have h0:(l.take j).drop i=[]:=List.eq_nil_of_length_eq_zero (by rw[hlen];omega)
   rw[h0]
   intro k v e
   simp at e
 ·by_cases hq:i<c%capU
  ·left;rw[if_pos hq,Nat.mul_one]
  ·right;rw[hlen];omega
theorem aQ (hbd:s.lim<=s.next){sz by' len:Nat}{z r:List Value}{ps:List (Nat×Value)}{Q:Value->St->Prop}(ht:elT E t=some (sz,by',z))(h1:len*sz<=16777216)(hr:CY (λk=>some (k*sz,sz)) ps (rep len z)=some r)(h2:len<capU)
  (q: ∀s2,s2.next=s.next+r.length+1->Ext Non Non s s2->Ai s2 s.next 0 r->Q (.slice (some ⟨s.next,0,none⟩) len len) s2):W (BU E t len ps) s Q:=by
 obtain⟨i,e,ie,g1,g2,g3,g4,g5,g6⟩:=LJ ht
 subst g4;subst g6
 refine W.bind (W.ti g1 ?_)
 rw[g2]
 refine W.bind (W.ti g3 (W.chk ?_ (W.bind (W.ofOpt hr (W.bind (W.newL λs2 n2 x2 r2=>W.bind (W.wrC ?_ (W.pure (q _ n2 ?_ ?_)))))))))
 ·rw[Bool.and_eq_true]
  exact⟨Nat.ble_eq_true_of_le h1,Bz h2⟩
 ·show s.next+r.length<s2.next
  omega
 ·obtain⟨d2,p3,p4⟩:=x2.rd
  obtain⟨d4,p7,p8⟩:=x2.wr
  refine⟨x2.nxt,x2.lim,x2.cx,λy q1 q2=> ?_,⟨d2,p3,p4⟩,⟨d4, ?_,p8⟩⟩
  ·show T.get (T.set s2.mem _ _) y=_
   rw[T.get_set,if_neg,x2.mem y q1 q2]
   show y≠s.next+r.length
   omega
  ·show notes _ s2.lim s2.wr=_
   unfold notes
   rw[Il]
   ·exact p7
   ·show s2.lim<=s.next+r.length
    rw[x2.lim];omega
 ·intro k v hk
  have hk':=(List.getElem?_eq_some_iff.1 hk).1
  have:=r2 k v hk
  refine⟨this.1, ?_⟩
  show T.get (T.set s2.mem _ _) _=_
  rw[T.get_set,if_neg]
  ·exact this.2
  ·show s.next+(0+k)≠s.next+r.length
   omega
theorem W.mkSl {sz by' l c:Nat}{k1 k2:IntKind}{z:List Value}{Q:Value->St->Prop}(ht:elT E t=some (sz,by',z))(h1:l<=c)(h2:c*(by'+1)<=16777216)
  (q: ∀s2,s2.next=s.next+(rep c z).length+1->Ext Non Non s s2->Ai s2 s.next 0 (rep c z)->Q (.slice (some ⟨s.next,0,none⟩) l c) s2):W (Ez E t (.int k1 (l:Nat)) (.int k2 (c:Nat))) s Q:=by
 obtain⟨i,e,ie,g1,g2,g3,g4,g5,g6⟩:=LJ ht
 subst g5;subst g6
 refine W.bind (W.ti g1 (W.bind (W.pure (W.bind (W.pure ?_)))))
 unfold Am.mkSl
 rw[g2]
 refine W.bind (W.ti g3 (W.chk ?_ (W.bind (W.newL λs2 n2 x2 r2=>W.pure (q _ n2 x2 r2)))))
 rw[Bool.and_eq_true]
 exact⟨Nat.ble_eq_true_of_le h1,Nat.ble_eq_true_of_le h2⟩
theorem W.copy {sz by' b o n c m k:Nat}{z l:List Value}{p:Option Addr}{c2:Nat}{F:Nat->Prop}{Q:Value->St->Prop}(ht:elT E t=some (sz,by',z))(hk:k=Nat.min n m)
  (hx: ∃s1,srcL sz (.slice p m c2) k s= .some l s1/\s1.mem=s.mem/\s1.next=s.next/\Ext F Non s s1) (hl:l.length=k*sz) (h1:l.all oneCell=true) (own: ∀i,i<k*sz-> ∃u,Own s b (o+i) u)
  (q: ∀s2,s2.next=s.next->Ext (λx=>F x\/In b o (k*sz) x) (In b o (k*sz)) s s2->Ai s2 b o l->Q (.int .i64 (k:Nat)) s2):W (AH E .copy [t,t2] [.slice (some ⟨b,o,none⟩) n c, .slice p m c2]) s Q:=by
 obtain⟨i,e,ie,g1,g2,g3,g4,g5,g6⟩:=LJ ht
 obtain⟨s1,e1,m1,n1,x1⟩:=hx
 subst g4
 show W (Fu E t (some ⟨b,o,none⟩) n (.slice p m c2)) s Q
 refine W.bind (W.ti g1 ?_)
 rw[g2]
 refine W.bind (W.ti g3 (W.bind (W.pure ?_)))
 refine W.fN ?_
 rw[<-hk]
 refine W.bind (a7 e1 ?_)
 have own1: ∀i,i<l.length-> ∃u,Own s1 b (o+i) u:=λi hi=>by
  obtain⟨u,hu⟩:=own i (by rw[<-hl];exact hi)
  exact⟨u,hu.same m1 n1⟩
 refine W.bind (m:=Am.wrL l ⟨b,o,none⟩) (W.wrL own1 h1 λs2 n2 x2 r2=> ?_)
 show W (Am.fN k λn=>M.pure (.int .i64 (.ofNat n))) s2 Q
 refine W.fN (W.pure (q s2 (n2.trans n1) ?_ r2))
 rw[hl]at x2
 obtain⟨d1,p1,p2⟩:=x1.rd
 obtain⟨d2,p3,p4⟩:=x2.rd
 obtain⟨d3,p5,p6⟩:=x1.wr
 obtain⟨d4,p7,p8⟩:=x2.wr
 refine⟨Nat.le_of_eq (n2.trans n1).symm,x2.lim.trans x1.lim,x2.cx.trans x1.cx,λy q1 q2=>by rw[x2.mem y (by rw[n1];exact q1) q2,m1],⟨d2++d1,by rw[p3,p1,List.append_assoc],λy hy=> ?_⟩,⟨d4++d3,by rw[p7,p5,List.append_assoc],λy hy=> ?_⟩⟩
 ·rcases List.mem_append.1 hy with hy|hy
  ·have:=p4 y hy
   rw[x1.lim]at this
   exact⟨this.1, .inr this.2⟩
  ·exact⟨(p2 y hy).1, .inl (p2 y hy).2⟩
 ·rcases List.mem_append.1 hy with hy|hy
  ·have:=p8 y hy
   rw[x1.lim]at this
   exact this
  ·exact(p6 y hy).2.elim
theorem HT {sz:Nat}{lo hi:Option Value}(ht:slN E t=some sz)(hlo:bndV lo 0=some 0)(hhi:bndV hi 0=some 0)(Q:Value->St->Prop):W (AZ E t (.slice none 0 0) lo hi) s Q=Q (.slice none 0 0) s:=by
 obtain⟨i,e,ie,h1,h2,h3,h4⟩:=GU ht
 refine As ?_
 unfold AZ
 rw[AO (show ti E t s= .some i s by unfold ti;rw[h1];rfl)]
 simp only[h2]
 rw[AO (show ti E e s= .some ie s by unfold ti;rw[h3];rfl),AO (Ht hhi (Nat.le_refl 0)),AO (Ht hlo (Nat.le_refl 0))]
 rfl
theorem EZ {q N:Nat}(h:N<capU):(capU*q+N)%capU=N:=(enc (q:=q) h).2
theorem D9 {m sz N:Nat}(h:N<capU)(h1:sz<1024):Bu (capU*(m*1024+sz)+N) sz=true:=by
 unfold Bu
 show Bool.rec (motive:=λ_=>Bool) (Nat.beq (Nat.mod ((capU*(m*1024+sz)+N)/capU) 1024) sz) true (Nat.beq ((capU*(m*1024+sz)+N)/capU) 0)=true
 rw[(enc h).1]
 have:Nat.mod (m*1024+sz) 1024=sz:=by show(m*1024+sz)%1024=sz;omega
 rw[this,Nat.beq_refl]
 cases Nat.beq (m*1024+sz) 0<;>rfl
theorem QN {v x:Value}(Q:Value->St->Prop):W (AH E .append [t,t2] [v,x]) s Q=W (BV E t t2 v x) s Q:=propext Iff.rfl
theorem Ext.step {F F' G':Nat->Prop}{s s1 s2:St}(h:Ext F Non s s1)(k:Ext F' G' s1 s2)(hb:s.lim<=s.next)(hF: ∀l,l<s.lim->F' l->F l)(hG: ∀l,G' l->s.next<=l):Ext F Non s s2:=
 h.trans k hb hF λl hl hg=>absurd (hG l hg) (Nat.not_le_of_lt hl)
theorem Ai.append {b o:Nat}{l l':List Value}(h:Ai s b o l)(k:Ai s b (o+l.length) l'):Ai s b o (l++l'):=λi v e=>by
 by_cases hi:i<l.length
 ·rw[List.getElem?_append_left hi]at e
  exact h i v e
 ·rw[List.getElem?_append_right J]at e
  have:=k _ v e
  rw[show o+l.length+(i-l.length)=o+i by omega]at this
  exact this
def FY (s:St)(b o n:Nat):Prop:= ∀j,j<n-> ∃u,Own s b (o+j) u
theorem Ai.owned {b o:Nat}{l:List Value}(h:Ai s b o l):FY s b o l.length:=λj hj=>⟨l[j],h j _ (List.getElem?_eq_getElem hj)⟩
theorem FY.ext {F:Nat->Prop}{b o n a:Nat}{l:List Value}{s2:St}(h:FY s b o n)(e:Ext F (In b a l.length) s s2)(k:Ai s2 b a l):FY s2 b o n:=λj hj=>by
 by_cases hq:In b a l.length (b+(o+j))
 ·obtain⟨h1,h2⟩:=hq
  have hi:o+j-a<l.length:=J
  refine⟨l[o+j-a], ?_⟩
  have:=k (o+j-a) (l[o+j-a]) (List.getElem?_eq_getElem hi)
  rw[show a+(o+j-a)=o+j by omega]at this
  exact this
 ·obtain⟨u,hu⟩:=h j hj
  exact⟨u,hu.ext e hq⟩
theorem Bs.src {v:Value}{l:List Nat}(h:Bs s v l):Src s 1 v l.length (u8l l) (BsF v):=by
 rcases h with⟨rfl,rfl⟩|⟨b,o,c,rfl,_,_,h3⟩
 ·exact VY
 ·have:=FQ (s:=s) (sz:=1) (n:=l.length) (c:=c) h3 (by rw[Br,Nat.mul_one])
  rw[Nat.mul_one]at this
  exact this
theorem FF (l:List Nat):(u8l l).all oneCell=true:=by
 rw[List.all_eq_true]
 intro x hx
 obtain⟨n,_,rfl⟩:=List.mem_map.1 hx
 rfl
theorem wrap_u8 (n:Nat):IntKind.u8.wrap (n:Int)=((n%256:Nat):Int):=by
 have e:IntKind.u8.wrap (n:Int)=(n:Int)%256:=by unfold IntKind.wrap;simp[IntKind.bits,IntKind.signed]
 rw[e]
 omega
theorem Aa {γ:Type}(a:α)(f:α->M γ):oS (some a) f=f a:=rfl
theorem Cb {γ:Type}(a:α)(f:α->M γ):M.on (some a) f=f a:=rfl
theorem AqW_ {m:M α}{v:α}(h: ∀(s:St) (Q:α->St->Prop),W m s Q=Q v s)(s:St):m s= .some v s:=by
 have:W m s λa s'=>a=v/\s'=s:=by rw[h];exact⟨rfl,rfl⟩
 obtain⟨a,s',e,rfl,rfl⟩:=this
 exact e
theorem W_dq {γ:Type}{m:M α}{v:α}{f:α×OpLog->M γ}{mem:T Cell}{next:Nat}{Q:γ->St->Prop}(h: ∀(s:St) (Q:α->St->Prop),W m s Q=Q v s):W (M.bind (apartO m) f) (dSt mem next) Q=W (f (v,⟨next,next,[],[]⟩)) (dSt mem next) Q:=by
 rw[J4]
 refine As ?_
 show Am.apartO m ⟨mem,next,0,[],[], .no⟩=_
 unfold Am.apartO
 have e:=AqW_ h ⟨mem,next,next,[],[], .no⟩
 simp only[e]
 rfl
theorem Aj {γ:Type}(v:α)(f:α×OpLog->M γ)(mem:T Cell)(next:Nat)(Q:γ->St->Prop):W (M.bind (apartO (M.pure v)) f) (dSt mem next) Q=W (f (v,⟨next,next,[],[]⟩)) (dSt mem next) Q:=W_dq λ_ _=>AI _ _
theorem aD {γ:Type}{b o:Nat}{v:Value}{f:Value×OpLog->M γ}{mem:T Cell}{next:Nat}{Q:γ->St->Prop}(ht:tyS E t=some (1,false))(h:At (dSt mem next) b o v)
  (k: ∀rd:List Nat,(∀x∈rd,x=b+o)->W (f (v,⟨next,next,rd,[]⟩)) (dSt mem next) Q):W (M.bind (apartO (Bd E t (.pointer (some ⟨b,o,none⟩)))) f) (dSt mem next) Q:=by
 refine aO (aA ht (h.same rfl rfl) ⟨λx=>x=b+o,Ext.rdN _ _ λ_=>rfl,λrd hr=>k rd λx hx=>(hr x hx).2⟩)
theorem BZ {n0:Nat}{l:List OpLog}{bef:List Nat}(hl:l.length<=bef.length)(h: ∀m∈l,m.wr=[]/\m.lo=m.hi):BN n0 l bef=true:=
 EA_ hl (λk m b e1 _=>⟨(h m (List.mem_of_getElem? e1)).1,λi a _ e3=> .inr λx _ _ hx=>by have:=(h a (List.mem_of_getElem? e3)).2;omega⟩) λm hm=>(h m hm).1
theorem neqU (k:IntKind)(hk:DA k=false)(m n:Nat)(xo yo:Operand):Cl.get (aBin E .neq t xo yo) (.int k (m:Nat)) (.int k (n:Nat)) s= .some (.bool (!decide (m=n))) s:=by
 show int2 _ (int3 (cmpK λm n=> !Nat.beq m n) (AJ E .neq t xo yo)) (.int k (.ofNat m)) (.int k (.ofNat n)) s=_
 unfold int2
 simp only[Ch,hk]
 show Option.rec (motive:=λ_=>R Value) _ (λv=> .some v s) (cmpK (λm n=> !Nat.beq m n) k k m n)=_
 have:cmpK (λm n=> !Nat.beq m n) k k m n=some (.bool (!decide (m=n))):=by
  unfold cmpK B0
  rw[Nat.beq_refl]
  show mkB (!Nat.beq m n)=_
  by_cases h:m=n
  ·rw[h,Nat.beq_refl];simp;rfl
  ·have:Nat.beq m n=false:=by
    cases e:Nat.beq m n with
    |false=>rfl
    |true=>exact absurd (Nat.eq_of_beq_eq_true e) h
   rw[this];simp[h];rfl
 rw[this]
theorem A5 (b:Bool)(P:Program)(Q:Value->St->Prop):W (kUn P .not (.bool b)) s Q=Q (.bool (!b)) s:=As (by show rB (!b) s=_;exact FX _ _)
def ptrT (E:Env)(t:Nat):Bool:=match T.get E.ty t with|some i=>(match i.u with| .pointer _=>true|_=>false)|none=>false
theorem Ud_ {a:Addr}{xo yo:Operand}(h:ptrT E t=true):Cl.get (aBin E .eql t xo yo) (.pointer (some a)) (.pointer none) s= .some (.bool false) s:=by
 unfold ptrT at h
 split at h
 ·rename_i i hi
  split at h
  ·rename_i e hu
   show Fz E .eql t (.pointer (some a)) (.pointer none) s=_
   unfold Fz
   rw[AO (show ti E t s= .some i s by unfold ti;rw[hi];rfl),hu]
   rfl
  ·cases h
 ·cases h
theorem C5 {a:Addr}{xo yo:Operand}(h:ptrT E t=true)(Q:Value->St->Prop):W (Cl.get (aBin E .eql t xo yo) (.pointer (some a)) (.pointer none)) s Q=Q (.bool false) s:=As (Ud_ h)
theorem ZO (m n:Nat)(hn:1<=n)(xo yo:Operand):Cl.get (aBin E .rem t xo yo) (.int .i64 (m:Nat)) (.int .i64 (n:Nat)) s= .some (.int .i64 (m%n:Nat)) s:=by
 show int3 remK (AJ E .rem t xo yo) (.int .i64 (.ofNat m)) (.int .i64 (.ofNat n)) s=_
 show Option.rec (motive:=λ_=>R Value) _ (λv=> .some v s) (remK .i64 .i64 m n)=_
 have:remK .i64 .i64 m n=some (.int .i64 (m%n:Nat)):=by
  unfold remK B0
  rw[Nat.beq_refl,Nat.ble_eq_true_of_le hn]
  show mkI .i64 (Nat.mod m n)=_
  unfold mkI
  rw[Ar]
  rfl
 rw[this]
theorem AK_ {m n:Nat}{xo yo:Operand}(hn:1<=n)(Q:Value->St->Prop):W (Cl.get (aBin E .rem t xo yo) (.int .i64 (m:Nat)) (.int .i64 (n:Nat))) s Q=Q (.int .i64 (m%n:Nat)) s:=As (ZO m n hn xo yo)
theorem W.dloadA {γ:Type}{b o n:Nat}{l:List Value}{f:Value×OpLog->M γ}{mem:T Cell}{next:Nat}{Q:γ->St->Prop}(ht:tyS E t=some (n,true))(h:Row (dSt mem next) b o l)(hl:l.length=n)
  (k: ∀(mem1:T Cell) (rd:List Nat),mem1=mem->(∀x∈rd,In b o n x)->W (f (.agg l.toArray,⟨next,next,rd,[]⟩)) (dSt mem1 next) Q):W (M.bind (apartO (Bd E t (.pointer (some ⟨b,o,none⟩)))) f) (dSt mem next) Q:=by
 refine aO (W.loadA ht (λi v e=>(h i v e).same rfl rfl) hl λs1 m1 n1 x1=>⟨In b o n,x1,λrd hr=> ?_⟩)
 rw[show s1.next=next from n1]
 exact k s1.mem rd m1 λx hx=>(hr x hx).2
theorem BD {n:Nat}(h:n<=1073741824):n<capU:=by unfold capU;omega
theorem L7 {sz:Nat}(h:slN E t=some sz)(Q:Value->St->Prop):W (AH E .cap [t] [.slice none 0 0]) s Q=Q (.int .i64 ((0:Nat):Int)) s:=by
 obtain⟨i,e,ie,h1,h2,h3,h4⟩:=GU h
 refine As ?_
 show aCap E t (.slice none 0 0) s=_
 unfold aCap
 rw[AO (show ti E t s= .some i s by unfold ti;rw[h1];rfl)]
 simp only[h2]
 rw[Bz LA]
 rfl
end
open Go.RowKit Go.ChangeShapes Go.WideShapes
structure OldSt (w:World)(m:T Cell)(nx:Nat)(r:Inj):Prop where
 ho: ∀loc c,T.get m loc=some c->loc<nx/\ ∃b v,c= .O (.old b v)/\ ∃b' d v',b<=loc/\r.blk b=some (b',d)/\w.cell? ⟨b',loc-b+d,none⟩=some v'/\VR r v v'
 hd: ∀b b' d,r.blk b=some (b',d)->b<nx/\b'<w.heap.size
 hx: ∀b,r.ext b=none
 hk:r.known= .no
structure Grow (m:T Cell)(nx:Nat)(r:Inj)(m':T Cell)(nx':Nat)(r':Inj):Prop where
 le:r.le r'
 nle:nx<=nx'
 mem: ∀l,l<nx->T.get m' l=T.get m l
theorem Grow.refl (m:T Cell)(nx:Nat)(r:Inj):Grow m nx r m nx r:=⟨Inj.le_refl r,Nat.le_refl _,λ_ _=>rfl⟩
theorem Grow.trans {m m' m'':T Cell}{nx nx' nx'':Nat}{r r' r'':Inj}(h:Grow m nx r m' nx' r')(k:Grow m' nx' r' m'' nx'' r''):Grow m nx r m'' nx'' r'':=
 ⟨Inj.le_trans h.le k.le,Nat.le_trans h.nle k.nle,λl hl=>(k.mem l (Nat.lt_of_lt_of_le hl h.nle)).trans (h.mem l hl)⟩
def stO (m:T Cell)(nx:Nat):St:=⟨m,nx,0,[],[], .no⟩
theorem Grow.row {m m':T Cell}{nx nx':Nat}{r r':Inj}(g:Grow m nx r m' nx' r'){b o:Nat}{l:List Value}(h:Row (stO m nx) b o l):Row (stO m' nx') b o l:=λi v e=>by
 have hl:b+(o+i)<nx:=(h i v e).1
 refine⟨Nat.lt_of_lt_of_le hl g.nle, ?_⟩
 show T.get m' (b+(o+i))=_\/T.get m' (b+(o+i))=_
 rw[g.mem _ hl]
 exact(h i v e).2
def Ax (P:Program)(N:Nat)(s:St):Nat->TypeId->List Value->Prop
 |0,_,_=>False
 |f+1,t,us=>match P.underlying t with
  |some .bool=> ∃b,us=[.bool b]
  |some (.int k)=> ∃n,us=[.int k n]/\(Lit.int k n).wf=true
  |some .string=> ∃x:ByteArray,us=[.string x]/\x.size<=maxLen/\x.size<=N
  |some (.slice e)=>us=[.slice none 0 0]\/us=[.slice (some ⟨0,0,none⟩) 0 (capU*P.cellsOf e)]\/ ∃b n c,us=[.slice (some ⟨b,0,none⟩) n c]/\0<n/\n<=c/\c<=maxLen/\n<=N/\ ∀i,i<n-> ∃es,es.length=P.cellsOf e/\Row s b (i*P.cellsOf e) es/\Ax P N s f e es
  |some (.struct fs)=>us.length=P.cellsOf t/\ ∀x∈fs.toList,Ax P N s f x.type ((us.drop x.offset).take (P.cellsOf x.type))
  |some (.array n e)=>us.length=P.cellsOf t/\ ∀i,i<n->Ax P N s f e ((us.drop (i*P.cellsOf e)).take (P.cellsOf e))
  |_=>False
theorem Ax.mono {P:Program}{N:Nat}{s s':St}(h: ∀b o l,Row s b o l->Row s' b o l): ∀(f:Nat) (t:TypeId) (us:List Value),Ax P N s f t us->Ax P N s' f t us
 |0,_,_,k=>k
 |f+1,t,us,k=>by
  unfold Ax at k ⊢
  cases hu:P.underlying t with
  |none=>rw[hu]at k;exact k
  |some u=>
   rw[hu]at k
   cases u<;>try exact k
   ·rename_i e
    rcases k with k|k|⟨b,n,c,k1,k2,k3,k4,k6,k5⟩
    ·exact .inl k
    ·exact .inr (.inl k)
    ·refine .inr (.inr ⟨b,n,c,k1,k2,k3,k4,k6,λi hi=> ?_⟩)
     obtain⟨es,e1,e2,e3⟩:=k5 i hi
     exact⟨es,e1,h _ _ _ e2,Ax.mono h f _ _ e3⟩
   ·exact⟨k.1,λx hx=>Ax.mono h f _ _ (k.2 x hx)⟩
   ·exact⟨k.1,λi hi=>Ax.mono h f _ _ (k.2 i hi)⟩
def EH (P:Program):List Field->Nat->Nat->Bool
 |[],o,z=>Nat.beq o z
 |x::l,o,z=>Nat.beq x.offset o&&EH P l (o+P.cellsOf x.type) z
def Do (P:Program):Nat->TypeId->Bool
 |0,_=>false
 |f+1,t=>match P.underlying t with
  |some .bool|some (.int _)|some .string=>true
  |some (.slice e)=>Nat.blt 0 (P.cellsOf e)&&Do P f e
  |some (.struct fs)=>EH P fs.toList 0 (P.cellsOf t)&&fs.toList.all λx=>Do P f x.type
  |some (.array n e)=>Nat.beq (n*P.cellsOf e) (P.cellsOf t)&&Do P f e
  |_=>false
def Lay (w:World)(cs:List Value)(H:St->List Value->Prop):Prop:= ∀m nx r,OldSt w m nx r-> ∃m' nx' r' us,OldSt w m' nx' r'/\Grow m nx r m' nx' r'/\VRs r' us cs/\H (stO m' nx') us
theorem Lay.plain {w:World}{cs:List Value}{H:St->List Value->Prop}(h: ∀v∈cs,plain v=true)(k: ∀s,H s cs):Lay w cs H:=λm nx r ho=>⟨m,nx,r,cs,ho, .refl _ _ _,VRs.plains h,k _⟩
theorem NQ {w:World}{cs:List Value}{k:Nat}{H:St->List Value->Prop}(mono: ∀(s s':St) us,(∀b o l,Row s b o l->Row s' b o l)->H s us->H s' us): ∀n,n*k<=cs.length->(∀i,i<n->Lay w ((cs.drop (i*k)).take k) H)->Lay w (cs.take (n*k)) λs us=> ∀i,i<n->H s ((us.drop (i*k)).take k)
 |0,_,_=>λm nx r ho=>⟨m,nx,r,[],ho, .refl _ _ _,by rw[Nat.zero_mul];exact VRs.nil,λi hi=>absurd hi (Nat.not_lt_zero i)⟩
 |n+1,hl,h=>λm nx r ho=>by
  have hnk:(n+1)*k=n*k+k:=Nat.succ_mul n k
  obtain⟨m1,nx1,r1,us1,ho1,g1,v1,h1⟩:=NQ mono n J (λi hi=>h i J) m nx r ho
  obtain⟨m2,nx2,r2,us2,ho2,g2,v2,h2⟩:=h n J m1 nx1 r1 ho1
  have l1:us1.length=n*k:=by rw[v1.1,List.length_take];omega
  have l2:us2.length=k:=by rw[v2.1,List.length_take,List.length_drop];omega
  refine⟨m2,nx2,r2,us1++us2,ho2,g1.trans g2, ?_,λi hi=> ?_⟩
  ·have e:cs.take ((n+1)*k)=cs.take (n*k)++(cs.drop (n*k)).take k:=by
    rw[hnk,List.take_add]
   rw[e]
   exact(v1.mono g2.le).append v2
  ·rcases Nat.lt_or_ge i n with hin|hin
   ·have hik:i*k+k<=n*k:=by
     have:=Nat.mul_le_mul_right k (show i+1<=n by omega)
     rw[Nat.succ_mul]at this
     exact this
    have e:((us1++us2).drop (i*k)).take k=(us1.drop (i*k)).take k:=by
     rw[List.drop_append_of_le_length J,List.take_append_of_le_length (by rw[List.length_drop];omega)]
    rw[e]
    exact mono _ _ _ (λb o l q=>g2.row q) (h1 i hin)
   ·have:i=n:=J
    subst this
    have e:((us1++us2).drop (i*k)).take k=us2:=by
     rw[List.drop_left' l1,List.take_of_length_le J]
    rw[e]
    exact h2
theorem Ia_ {P:Program}: ∀{l:List Field} {o z:Nat},EH P l o z=true->o<=z
 |[],o,z,h=>Nat.le_of_eq (Nat.eq_of_beq_eq_true h)
 |x::l,o,z,h=>by
  have h':(Nat.beq x.offset o&&EH P l (o+P.cellsOf x.type) z)=true:=h
  rw[Bool.and_eq_true]at h'
  have:=Ia_ h'.2
  omega
theorem Pr_ {P:Program}: ∀{l:List Field} {o z:Nat},EH P l o z=true-> ∀x∈l,o<=x.offset
 |[],_,_,_,x,hx=>by cases hx
 |y::l,o,z,h,x,hx=>by
  have h':(Nat.beq y.offset o&&EH P l (o+P.cellsOf y.type) z)=true:=h
  rw[Bool.and_eq_true]at h'
  rcases List.mem_cons.1 hx with rfl|hx
  ·exact Nat.le_of_eq (Nat.eq_of_beq_eq_true h'.1).symm
  ·have:=Pr_ h'.2 x hx
   omega
theorem SY {P:Program}{N:Nat}{w:World}{cs:List Value}{F:Nat}: ∀(l:List Field) (o:Nat),EH P l o cs.length=true->(∀x∈l,Lay w ((cs.drop x.offset).take (P.cellsOf x.type)) λs us=>Ax P N s F x.type us)->
  Lay w (cs.drop o) λs us=> ∀x∈l,Ax P N s F x.type ((us.drop (x.offset-o)).take (P.cellsOf x.type))
 |[],o,ht,_=>λm nx r ho=>by
  have:o=cs.length:=Nat.eq_of_beq_eq_true ht
  exact⟨m,nx,r,[],ho, .refl _ _ _,by rw[this,List.drop_length];exact VRs.nil,λx hx=>by cases hx⟩
 |x::l,o,ht,h=>λm nx r ho=>by
  have ht':(Nat.beq x.offset o&&EH P l (o+P.cellsOf x.type) cs.length)=true:=ht
  rw[Bool.and_eq_true]at ht'
  have ho':x.offset=o:=Nat.eq_of_beq_eq_true ht'.1
  have hz:=Ia_ ht'.2
  have hge:=Pr_ ht'.2
  obtain⟨m1,nx1,r1,us1,ho1,g1,v1,h1⟩:=h x am m nx r ho
  obtain⟨m2,nx2,r2,us2,ho2,g2,v2,h2⟩:=SY l (o+P.cellsOf x.type) ht'.2 (λy hy=>h y (by simp[hy])) m1 nx1 r1 ho1
  rw[ho']at v1
  have l1:us1.length=P.cellsOf x.type:=by rw[v1.1,List.length_take,List.length_drop];omega
  refine⟨m2,nx2,r2,us1++us2,ho2,g1.trans g2, ?_,λy hy=> ?_⟩
  ·have e:cs.drop o=(cs.drop o).take (P.cellsOf x.type)++cs.drop (o+P.cellsOf x.type):=by
    rw[<-List.drop_drop,List.take_append_drop]
   rw[e]
   exact(v1.mono g2.le).append v2
  ·rcases List.mem_cons.1 hy with rfl|hy
   ·have e:((us1++us2).drop (y.offset-o)).take (P.cellsOf y.type)=us1:=by
     rw[ho',Nat.sub_self,List.drop_zero,List.take_left' l1]
    rw[e]
    exact Ax.mono (λb o l q=>g2.row q) _ _ _ h1
   ·have hoy:=hge y hy
    have e:(us1++us2).drop (y.offset-o)=us2.drop (y.offset-(o+P.cellsOf x.type)):=by
     rw[List.drop_append,List.drop_of_length_le J,List.nil_append,l1]
     congr 1
     omega
    rw[e]
    exact h2 y hy
theorem Fh_ {α β:Type}{f:α->Option β}: ∀{xs:List α} {l:List β},xs.mapM f=some l->l.length=xs.length/\ ∀(i:Nat) (x:α),xs[i]?=some x->f x=l[i]?
 |[],l,h=>by
  have:l=[]:=by simpa using h.symm
  subst this
  exact⟨rfl,λi x e=>by simp at e⟩
 |x::xs,l,h=>by
  rw[List.mapM_cons]at h
  cases hf:f x with
  |none=>rw[hf]at h;cases h
  |some y=>
   rw[hf]at h
   cases hx:xs.mapM f with
   |none=>rw[hx]at h;cases h
   |some ys=>
    rw[hx]at h
    cases h
    obtain⟨h1,h2⟩:=Fh_ hx
    refine⟨by simp[h1],λi z e=> ?_⟩
    cases i with
    |zero=>
     have:x=z:=by simpa using e
     subst this
     exact hf
    |succ i=>exact h2 i z (by simpa using e)
theorem OH {w:World}{base k:Nat}{a:Addr}{l:List Value}(h:w.cells? base a k=some l):l.length=k/\ ∀j,j<k->w.cell? (a.add j)=l[j]?:=by
 unfold World.cells? at h
 split at h
 ·obtain⟨h1,h2⟩:=Fh_ h
  rw[List.length_range]at h1
  exact⟨h1,λj hj=>h2 j j (by simp[hj])⟩
 ·cases h
theorem ApS_ {w:World}{a:Addr}{v:Value}(h:w.cell? a=some v):a.spot=none/\a.block<w.heap.size:=by
 unfold World.cell? at h
 cases hq:w.heap[a.block]? with
 |none=>simp only[hq]at h;cases h
 |some c=>
  refine⟨?_,(Array.getElem?_eq_some_iff.1 hq).1⟩
  cases hsp:a.spot with
  |none=>rfl
  |some x=>cases c<;>simp[hq,hsp]at h
theorem PB (b o n:Nat):(⟨b,o,none⟩:Addr).add n=⟨b,o+n,none⟩:=by
 unfold Addr.add
 split
 ·rename_i h;rw[h];rfl
 ·rfl
theorem Qe_ {a:Addr}{n:Nat}(hs:a.spot=none):a.add n=⟨a.block,a.off+n,none⟩:=by
 obtain⟨b,o,s⟩:=a
 cases hs
 exact PB b o n
mutual
def lensOk {H:Type}(N:Nat):DataW H->Prop
 | .lit (.string l)=>l.length<=N
 | .slice es _=>es.length<=N/\F4 N es
 | .agg ps=>F4 N ps
 |_=>True
def F4 {H:Type}(N:Nat):List (DataW H)->Prop
 |[]=>True
 |d::r=>lensOk N d/\F4 N r
end
theorem H5 {H:Type}{N:Nat}: ∀{l:List (DataW H)},F4 N l-> ∀d∈l,lensOk N d
 |[],_,d,hd=>by cases hd
 |x::l,h,d,hd=>by
  rcases List.mem_cons.1 hd with rfl|hd
  ·exact h.1
  ·exact H5 h.2 d hd
theorem KW {H:Type}{enc:TypeId×Value->H}{P:Program}{N:Nat}{w:World}{b0:Nat}{sp:Nat->Bool}{held:Bool}: ∀(F f:Nat) (t:TypeId) (cs:List Value) (y:DataW H×List MemPlace),Do P F t=true->(maxLen<=N\/lensOk N y.1)->DataW.trod enc P w b0 sp held f t cs=some y->Lay w cs λs us=>Ax P N s F t us
 |0,_,_,_,_,hf,_,_=>by cases hf
 |F+1,f,t,cs,y,hf,hN,h=>by
  unfold Do at hf
  cases hu:P.underlying t with
  |none=>rw[hu]at hf;cases hf
  |some u=>
   rw[hu]at hf
   cases u<;>try (cases hf;done)
   case bool=>
    obtain⟨b,rfl,_⟩:=DataW.trod_bool hu h
    refine Lay.plain (λv hv=>by rw[List.mem_singleton.1 hv];rfl) λs=> ?_
    unfold Ax
    rw[hu]
    exact⟨b,rfl⟩
   case int k=>
    obtain⟨n,rfl,_,hw⟩:=DataW.trod_int hu h
    refine Lay.plain (λv hv=>by rw[List.mem_singleton.1 hv];rfl) λs=> ?_
    unfold Ax
    rw[hu]
    exact⟨n,rfl,hw⟩
   case string=>
    obtain⟨x,rfl,rfl,hs⟩:=DataW.trod_string hu h
    refine Lay.plain (λv hv=>by rw[List.mem_singleton.1 hv];rfl) λs=> ?_
    unfold Ax
    rw[hu]
    exact⟨x,rfl,hs,by
     rcases hN with hN|hN
     ·omega
     ·have:x.data.toList.length<=N:=hN
      simpa using this⟩
   case struct fs=>
    rw[Bool.and_eq_true]at hf
    obtain⟨xs,n,_,rfl,hl,_,hx⟩:=DataW.trod_struct hu h
    have hall: ∀x∈fs.toList,Lay w ((cs.drop x.offset).take (P.cellsOf x.type)) λs us=>Ax P N s F x.type us:=λx hxm=>by
     obtain⟨i,hi⟩:=List.getElem?_of_mem hxm
     have hi':fs[i]?=some x:=by rw[<-Array.getElem?_toList];exact hi
     have hd:=hx i x hi'
     have hfl:Do P F x.type=true:=List.all_eq_true.1 hf.2 x hxm
     cases hz:DataW.trod enc P w b0 sp held n x.type ((cs.drop x.offset).take (P.cellsOf x.type))with
     |none=>
      rw[hz]at hd
      have h1:=(Array.getElem?_eq_some_iff.1 hi').1
      have h2:=List.getElem?_eq_none_iff.1 hd.symm
      omega
     |some z=>
      rw[hz]at hd
      exact KW F n _ _ z hfl (hN.imp id λq=>H5 q _ (List.mem_map.2 ⟨z,List.mem_of_getElem? hd.symm,rfl⟩)) hz
    intro m nx r ho
    obtain⟨m',nx',r',us,k1,k2,k3,k4⟩:=SY (F:=F) fs.toList 0 (by rw[hl];exact hf.1) hall m nx r ho
    rw[List.drop_zero]at k3
    refine⟨m',nx',r',us,k1,k2,k3, ?_⟩
    unfold Ax
    rw[hu]
    exact⟨by rw[k3.1,hl],λx hx=>by have:=k4 x hx;rwa [Nat.sub_zero]at this⟩
   case array n e=>
    rw[Bool.and_eq_true]at hf
    have hsz:n*P.cellsOf e=P.cellsOf t:=Nat.eq_of_beq_eq_true hf.1
    obtain⟨xs,m1,_,rfl,hl,hxl,hx⟩:=DataW.trod_array hu h
    intro m nx r ho
    obtain⟨m',nx',r',us,k1,k2,k3,k4⟩:=NQ (w:=w) (cs:=cs) (k:=P.cellsOf e) (H:=λs us=>Ax P N s F e us) (λs s' us hr hh=>Ax.mono hr _ _ _ hh) n (by rw[hsz,hl];exact Nat.le_refl _) (λi hi=>by
     have hd:=hx i hi
     cases hz:DataW.trod enc P w b0 sp held m1 e ((cs.drop (i*P.cellsOf e)).take (P.cellsOf e))with
     |none=>
      rw[hz]at hd
      have h2:=List.getElem?_eq_none_iff.1 hd.symm
      omega
     |some z=>
      rw[hz]at hd
      exact KW F m1 _ _ z hf.2 (hN.imp id λq=>H5 q _ (List.mem_map.2 ⟨z,List.mem_of_getElem? hd.symm,rfl⟩)) hz) m nx r ho
    rw[hsz,<-hl,List.take_length]at k3
    refine⟨m',nx',r',us,k1,k2,k3, ?_⟩
    unfold Ax
    rw[hu]
    exact⟨by rw[k3.1,hl],k4⟩
   case slice e=>
    rw[Bool.and_eq_true]at hf
    have hk:0<P.cellsOf e:=Bg hf.1
    rcases DataW.trod_slice hu h with⟨rfl,_⟩|⟨a,len,cap,elems,rest,n,_,rfl,rfl,_,hlc,hcm,hel,hx,_,_⟩
    ·refine λm nx r ho=>⟨m,nx,r,[.slice none 0 0],ho, .refl _ _ _, .cons .slNil .nil, ?_⟩
     unfold Ax
     rw[hu]
     exact .inl rfl
    ·by_cases h0:len=0
     ·subst h0
      refine λm nx r ho=>⟨m,nx,r,[.slice (some ⟨0,0,none⟩) 0 (capU*P.cellsOf e)],ho, .refl _ _ _, .cons (.slEnd (by rw[Nat.mul_div_cancel_left _ (by unfold capU;decide)];omega) (Nat.mul_mod_right _ _)) .nil, ?_⟩
      unfold Ax
      rw[hu]
      exact .inr (.inl rfl)
     ·have hlN:len<=N:=by
       rcases hN with hN|hN
       ·omega
       ·have:=hN.1
        rw[List.length_map,hel]at this
        exact this
      have cells: ∀i,i<len-> ∃l z,w.cells? b0 (a.add (i*P.cellsOf e)) (P.cellsOf e)=some l/\DataW.trod enc P w b0 sp held n e l=some z/\z∈elems:=λi hi=>by
       have:=hx i hi
       rw[List.getElem?_eq_getElem J,Option.bind_eq_some_iff]at this
       obtain⟨l,h1,h2⟩:=this
       exact⟨l,_,h1,h2,List.getElem_mem _⟩
      have hspot:a.spot=none/\a.block<w.heap.size:=by
       obtain⟨l,z,h1,_⟩:=cells 0 J
       obtain⟨q1,q2⟩:=OH h1
       have:=q2 0 hk
       rw[List.getElem?_eq_getElem J]at this
       rw[Nat.zero_mul]at this
       exact ApS_ this
      have each: ∀j,∃v:Value,j<len*P.cellsOf e->w.cell? ⟨a.block,a.off+j,none⟩=some v:=λj=>by
       by_cases hj:j<len*P.cellsOf e
       ·have hi:j/P.cellsOf e<len:=by rw[Nat.div_lt_iff_lt_mul hk];exact hj
        obtain⟨l,z,h1,_⟩:=cells _ hi
        obtain⟨q1,q2⟩:=OH h1
        have hm:j%P.cellsOf e<P.cellsOf e:=Nat.mod_lt _ hk
        have:=q2 _ hm
        rw[List.getElem?_eq_getElem J,Qe_ hspot.1,PB]at this
        refine⟨l[j%P.cellsOf e]'J,λ_=> ?_⟩
        rw[<-this]
        have hdm:=Nat.div_add_mod j (P.cellsOf e)
        rw[Nat.mul_comm]at hdm
        congr 2
        omega
       ·exact⟨undef,λh=>absurd h hj⟩
      obtain⟨g,hg⟩:=Classical.axiomOfChoice each
      obtain⟨cs,hcs⟩: ∃cs:List Value,cs=(List.range (len*P.cellsOf e)).map g:=⟨_,rfl⟩
      have hcl:cs.length=len*P.cellsOf e:=by rw[hcs];simp
      have hcg: ∀j v,cs[j]?=some v->w.cell? ⟨a.block,a.off+j,none⟩=some v:=λj v e=>by
       rw[hcs,List.getElem?_map,Option.map_eq_some_iff]at e
       obtain⟨j',e1,e2⟩:=e
       have hj:=(List.getElem?_eq_some_iff.1 e1).1
       rw[List.length_range]at hj
       rw[List.getElem?_range hj]at e1
       cases e1
       rw[<-e2]
       exact hg _ hj
      intro m nx r ho
      obtain⟨m',nx',r',us,k1,k2,k3,k4⟩:=NQ (w:=w) (cs:=cs) (k:=P.cellsOf e) (H:=λs us=>Ax P N s F e us) (λs s' us hr hh=>Ax.mono hr _ _ _ hh) len J (λi hi=>by
       obtain⟨l,z,h1,h2,h3⟩:=cells i hi
       obtain⟨q1,q2⟩:=OH h1
       have el:(cs.drop (i*P.cellsOf e)).take (P.cellsOf e)=l:=by
        apply List.ext_getElem?
        intro j
        by_cases hj:j<P.cellsOf e
        ·have hjj:i*P.cellsOf e+j<cs.length:=by
          have:=Nat.mul_le_mul_right (P.cellsOf e) (show i+1<=len by omega)
          rw[Nat.succ_mul]at this
          omega
         rw[List.getElem?_take,if_pos hj,List.getElem?_drop,List.getElem?_eq_getElem hjj,<-q2 j hj,Qe_ hspot.1,PB]
         have:=hcg _ _ (List.getElem?_eq_getElem hjj)
         rw[<-Nat.add_assoc]at this
         exact this.symm
        ·rw[List.getElem?_take,if_neg hj,List.getElem?_eq_none J]
       rw[el]
       exact KW F n _ _ z hf.2 (hN.imp id λq=>H5 q.2 _ (List.mem_map.2 ⟨z,h3,rfl⟩)) h2) m nx r ho
      rw[<-hcl,List.take_length]at k3
      have hul:us.length=len*P.cellsOf e:=by rw[k3.1,hcl]
      have hpos:0<us.length:=by rw[hul];exact Nat.mul_pos J hk
      obtain⟨r2,hr2⟩: ∃r2:Inj,r2=⟨λb=>if b=nx' then some (a.block,a.off)else r'.blk b,r'.ext,r'.known⟩:=⟨_,rfl⟩
      have hb2: ∀b,r2.blk b=if b=nx' then some (a.block,a.off)else r'.blk b:=λb=>by rw[hr2]
      have hle:r'.le r2:=⟨λb x e=>by
       rw[hb2,if_neg]
       ·exact e
       ·intro hb
        have:=(k1.hd b x.1 x.2 e).1
        omega,λt x e=>by rw[hr2];exact e,by rw[hr2]⟩
      have hget: ∀j,T.get (layT nx' us nx' m') j=if nx'<=j/\j<nx'+us.length then(us[j-nx']?).map (λv=> .O (.old nx' v))else T.get m' j:=λj=>It_ _ _ _ _ _
      have hgrow:Grow m' nx' r' (layT nx' us nx' m') (nx'+us.length+1) r2:=⟨hle,J,λl hl=>by rw[hget,if_neg J]⟩
      refine⟨layT nx' us nx' m',nx'+us.length+1,r2,[.slice (some ⟨nx',0,none⟩) len cap],⟨λloc c e=> ?_,λb b' d e=> ?_,λb=>by rw[hr2];exact k1.hx b,by rw[hr2];exact k1.hk⟩,k2.trans hgrow, ?_, ?_⟩
      ·rw[hget]at e
       split at e
       ·rename_i hin
        rw[Option.map_eq_some_iff]at e
        obtain⟨v,e1,rfl⟩:=e
        obtain⟨v',e2,e3⟩:=k3.get e1
        refine⟨J,nx',v,rfl,a.block,a.off,v',hin.1,by rw[hb2,if_pos rfl], ?_,e3.mono hle⟩
        have:=hcg _ _ e2
        rwa [Nat.add_comm a.off]at this
       ·obtain⟨h1,b,v,rfl,b',d,v',h2,h3,h4,h5⟩:=k1.ho loc c e
        exact⟨J,b,v,rfl,b',d,v',h2,hle.1 _ _ h3,h4,h5.mono hle⟩
      ·rw[hb2]at e
       split at e
       ·rename_i hb
        cases e
        exact⟨J,hspot.2⟩
       ·have:=k1.hd b b' d e
        exact⟨J,this.2⟩
      ·refine .cons ?_ .nil
       have hcu:cap<capU:=by
        have:cap<=9223372036854775807:=hcm
        unfold capU
        omega
       have:=VR.sl (r:=r2) (b:=nx') (o:=0) (b':=a.block) (d:=a.off) (l:=len) (c:=cap) (c':=cap) (by rw[hb2,if_pos rfl]) (.inl ⟨Nat.div_eq_of_lt hcu,rfl⟩) (by rw[Nat.mod_eq_of_lt hcu];exact hlc)
       rw[Nat.zero_add]at this
       obtain⟨b,o,s⟩:=a
       have hs:s=none:=hspot.1
       subst hs
       exact this
      ·unfold Ax
       rw[hu]
       refine .inr (.inr ⟨nx',len,cap,rfl,J,hlc,hcm,hlN,λi hi=>⟨(us.drop (i*P.cellsOf e)).take (P.cellsOf e), ?_,λj v ej=> ?_,Ax.mono (λb o l q=>hgrow.row q) _ _ _ (k4 i hi)⟩⟩)
       ·have:=Nat.mul_le_mul_right (P.cellsOf e) (show i+1<=len by omega)
        rw[Nat.succ_mul]at this
        rw[List.length_take,List.length_drop]
        omega
       ·have hj:=(List.getElem?_eq_some_iff.1 ej).1
        rw[List.length_take]at hj
        rw[List.getElem?_take,if_pos J,List.getElem?_drop]at ej
        have hjl:=(List.getElem?_eq_some_iff.1 ej).1
        refine⟨?_, .inr ?_⟩
        ·show nx'+(i*P.cellsOf e+j)<nx'+us.length+1
         omega
        ·show T.get (layT nx' us nx' m') (nx'+(i*P.cellsOf e+j))=_
         rw[hget,if_pos J,Nat.add_sub_cancel_left,ej]
         rfl
def lD {γ:Type}(E:Env)(t:Nat)(x:Option Value)(k:Value->M γ):M γ:=M.bind (oS x λa=>Bd E t a) k
def LD {γ:Type}(E:Env)(t:Nat)(x:Option Value)(k:Value×OpLog->M γ):M γ:=M.bind (apartO (oS x λa=>Bd E t a)) k
def fD {γ:Type}(E:Env)(t i:Nat)(x:Option Value)(k:Value->M γ):M γ:=M.bind (oS x λa=>kFld E t a i) k
def FD {γ:Type}(E:Env)(t i:Nat)(x:Option Value)(k:Value×OpLog->M γ):M γ:=M.bind (apartO (oS x λa=>kFld E t a i)) k
def eX {γ:Type}(i:Nat)(x:Option Value)(k:Value->M γ):M γ:=M.bind (oS x λa=>kExt i a) k
def EX {γ:Type}(i:Nat)(x:Option Value)(k:Value×OpLog->M γ):M γ:=M.bind (apartO (oS x λa=>kExt i a)) k
def vB {γ:Type}(E:Env)(t i:Nat)(x:Option Value)(k:Value->M γ):M γ:=M.bind (oS x λa=>Ce E t i a) k
def VB {γ:Type}(E:Env)(t i:Nat)(x:Option Value)(k:Value×OpLog->M γ):M γ:=M.bind (apartO (oS x λa=>Ce E t i a)) k
def iD {γ:Type}(E:Env)(t:Nat)(x y:Option Value)(k:Value->M γ):M γ:=M.bind (oS x λa=>oS y λb=>B8 E t a b) k
def ID {γ:Type}(E:Env)(t:Nat)(x y:Option Value)(k:Value×OpLog->M γ):M γ:=M.bind (apartO (oS x λa=>oS y λb=>B8 E t a b)) k
def bI {γ:Type}(E:Env)(o:BinOp)(t:Nat)(p q:Operand)(x y:Option Value)(k:Value->M γ):M γ:=M.bind (oS x λa=>oS y λb=>Cl.get (aBin E o t p q) a b) k
def BI {γ:Type}(E:Env)(o:BinOp)(t:Nat)(p q:Operand)(x y:Option Value)(k:Value×OpLog->M γ):M γ:=M.bind (apartO (oS x λa=>oS y λb=>Cl.get (aBin E o t p q) a b)) k
def lN {γ:Type}(E:Env)(b:Builtin)(ts:List Nat)(l:List (Option Value))(k:Value->M γ):M γ:=M.bind (oS (seqO l) λl=>AH E b ts l) k
def LN {γ:Type}(E:Env)(b:Builtin)(ts:List Nat)(l:List (Option Value))(k:Value×OpLog->M γ):M γ:=M.bind (apartO (oS (seqO l) λl=>AH E b ts l)) k
def cN {γ:Type}(call round:Ag)(n:Nat)(l:List (Option Value))(k:Value->M γ):M γ:=M.bind (M.on (some (.func (.func n) #[] #[])) λf=>M.on (seqO l) λl=>AU call round f l) k
def CN {γ:Type}(call round:Ag)(n:Nat)(l:List (Option Value))(k:Value×OpLog->M γ):M γ:=M.bind (apartO (M.on (some (.func (.func n) #[] #[])) λf=>M.on (seqO l) λl=>AU call round f l)) k
def PD {γ:Type}(x:Option Value)(k:Value×OpLog->M γ):M γ:=M.bind (apartO (oS x λa=>M.pure a)) k
def sK {γ:Type}(v:Value)(b:Bool)(m:M Value)(k:Value->M γ):M γ:=M.bind (M.chk (isK v) (aT (isB v b) m (M.pure undef))) k
def SK {γ:Type}(v:Value)(b:Bool)(m:M Value)(k:Value×OpLog->M γ):M γ:=M.bind (apartO (M.chk (isK v) (aT (isB v b) m (M.pure undef)))) k
def gS:List (Value×OpLog)->List Value
 |[]=>[]
 |p::l=>p.1::gS l
def gR:List (Value×OpLog)->List OpLog
 |[]=>[]
 |p::l=>p.2::gR l
def fJ (l:List (Value×OpLog))(tm:T Value):M ((Rho×T Value)×List OpLog):=M.pure ((gS l,tm),gR l)
theorem aj:(∀{γ:Type} (E:Env) (t:Nat) (x:Option Value) (k:Value->M γ),lD E t x k=M.bind (oS x λa=>Bd E t a) k)/\(∀{γ:Type} (E:Env) (t:Nat) (x:Option Value) (k:Value×OpLog->M γ),LD E t x k=M.bind (apartO (oS x λa=>Bd E t a)) k)/\(∀{γ:Type} (E:Env) (t i:Nat) (x:Option Value) (k:Value->M γ),fD E t i x k=M.bind (oS x λa=>kFld E t a i) k)/\(∀{γ:Type} (E:Env) (t i:Nat) (x:Option Value) (k:Value×OpLog->M γ),FD E t i x k=M.bind (apartO (oS x λa=>kFld E t a i)) k)/\(∀{γ:Type} (i:Nat) (x:Option Value) (k:Value->M γ),eX i x k=M.bind (oS x λa=>kExt i a) k)/\(∀{γ:Type} (i:Nat) (x:Option Value) (k:Value×OpLog->M γ),EX i x k=M.bind (apartO (oS x λa=>kExt i a)) k)/\(∀{γ:Type} (E:Env) (t i:Nat) (x:Option Value) (k:Value->M γ),vB E t i x k=M.bind (oS x λa=>Ce E t i a) k)/\(∀{γ:Type} (E:Env) (t i:Nat) (x:Option Value) (k:Value×OpLog->M γ),VB E t i x k=M.bind (apartO (oS x λa=>Ce E t i a)) k)/\(∀{γ:Type} (E:Env) (t:Nat) (x y:Option Value) (k:Value->M γ),iD E t x y k=M.bind (oS x λa=>oS y λb=>B8 E t a b) k)/\(∀{γ:Type} (E:Env) (t:Nat) (x y:Option Value) (k:Value×OpLog->M γ),ID E t x y k=M.bind (apartO (oS x λa=>oS y λb=>B8 E t a b)) k)/\(∀{γ:Type} (E:Env) (o:BinOp) (t:Nat) (p q:Operand) (x y:Option Value) (k:Value->M γ),bI E o t p q x y k=M.bind (oS x λa=>oS y λb=>Cl.get (aBin E o t p q) a b) k)/\(∀{γ:Type} (E:Env) (o:BinOp) (t:Nat) (p q:Operand) (x y:Option Value) (k:Value×OpLog->M γ),BI E o t p q x y k=M.bind (apartO (oS x λa=>oS y λb=>Cl.get (aBin E o t p q) a b)) k)/\(∀{γ:Type} (E:Env) (b:Builtin) (ts:List Nat) (l:List (Option Value)) (k:Value->M γ),lN E b ts l k=M.bind (oS (seqO l) λl=>AH E b ts l) k)/\(∀{γ:Type} (E:Env) (b:Builtin) (ts:List Nat) (l:List (Option Value)) (k:Value×OpLog->M γ),LN E b ts l k=M.bind (apartO (oS (seqO l) λl=>AH E b ts l)) k)/\(∀{γ:Type} (call round:Ag) (n:Nat) (l:List (Option Value)) (k:Value->M γ),cN call round n l k=M.bind (M.on (some (.func (.func n) #[] #[])) λf=>M.on (seqO l) λl=>AU call round f l) k)/\(∀{γ:Type} (call round:Ag) (n:Nat) (l:List (Option Value)) (k:Value×OpLog->M γ),CN call round n l k=M.bind (apartO (M.on (some (.func (.func n) #[] #[])) λf=>M.on (seqO l) λl=>AU call round f l)) k)/\(∀{γ:Type} (x:Option Value) (k:Value×OpLog->M γ),PD x k=M.bind (apartO (oS x λa=>M.pure a)) k)/\(∀{γ:Type} (v:Value) (b:Bool) (m:M Value) (k:Value->M γ),sK v b m k=M.bind (M.chk (isK v) (aT (isB v b) m (M.pure undef))) k)/\(∀{γ:Type} (v:Value) (b:Bool) (m:M Value) (k:Value×OpLog->M γ),SK v b m k=M.bind (apartO (M.chk (isK v) (aT (isB v b) m (M.pure undef)))) k)/\gS []=[]/\(∀(p:Value×OpLog) (l:List (Value×OpLog)),gS (p::l)=p.1::gS l)/\gR []=[]/\(∀(p:Value×OpLog) (l:List (Value×OpLog)),gR (p::l)=p.2::gR l)/\(∀(l:List (Value×OpLog)) (tm:T Value),fJ l tm=M.pure ((gS l,tm),gR l)):=⟨by intros;rfl,by intros;rfl,by intros;rfl,by intros;rfl,by intros;rfl,by intros;rfl,by intros;rfl,by intros;rfl,by intros;rfl,by intros;rfl,by intros;rfl,by intros;rfl,by intros;rfl,by intros;rfl,by intros;rfl,by intros;rfl,by intros;rfl,by intros;rfl,by intros;rfl,by intros;rfl,by intros;rfl,by intros;rfl,by intros;rfl,by intros;rfl⟩
noncomputable def sF (i:Nat)(v:Value)(t:T Value):M (T Value):=setF i v t λt=>M.pure t
noncomputable def sV (i:Nat)(v:Value)(t:T Value):M (T Value):=mv (some v) λv=>setF i v t λt=>M.pure t
noncomputable def mG {γ:Type}(t:T Value)(i:Nat)(k:Value->M γ):M γ:=mv (T.get t i) k
noncomputable def ai {γ:Type}(t:T Value)(i:Nat)(k:Value×OpLog->M γ):M γ:=PD (T.get t i) k
noncomputable def ac {γ:Type}(E:Env)(o:BinOp)(a:Nat)(n:Int)(x:Option Value)(k:Value->M γ):M γ:=bI E o 3 (.tmp a) (.const (.int .i64 n)) x (some (.int .i64 n)) k
noncomputable def ab {γ:Type}(E:Env)(o:BinOp)(t a:Nat)(v:Value)(x:Option Value)(k:Value->M γ):M γ:=bI E o t (.tmp a) (.const v) x (some v) k
noncomputable def bM {γ:Type}(E:Env)(o:BinOp)(t:Nat)(v:Value)(a:Nat)(x:Option Value)(k:Value->M γ):M γ:=bI E o t (.const v) (.tmp a) (some v) x k
noncomputable def bT {γ:Type}(E:Env)(o:BinOp)(t a b:Nat)(x y:Value)(k:Value->M γ):M γ:=bI E o t (.tmp a) (.tmp b) (some x) (some y) k
noncomputable def lL {γ:Type}(E:Env)(t:Nat)(x:Value)(k:Value->M γ):M γ:=lN E .len [t] [some x] k
noncomputable def ae {γ:Type}(x y z:Value)(k:Value->M γ):M γ:=M.bind (M.on (some x) λa=>M.on (some y) λb=>M.on (some z) λc=>Au a b c) k
noncomputable def ag {γ:Type}(E:Env)(t:Nat)(x y:Option Value)(k:Value->M γ):M γ:=M.bind (oS x λa=>oS y λb=>Az E t a b) k
noncomputable def kN {γ:Type}(x:Value)(k:Value->M γ):M γ:=M.bind (oS (some x) λa=>kNil a) k
noncomputable def pG (t:T Value)(i:Nat):M Value:=oS (T.get t i) λa=>M.pure a
theorem ak:(∀(i:Nat)(v:Value)(t:T Value),sF i v t=setF i v t λt=>M.pure t)/\(∀(i:Nat)(v:Value)(t:T Value),sV i v t=mv (some v) λv=>setF i v t λt=>M.pure t)/\(∀{γ:Type}(t:T Value)(i:Nat)(k:Value->M γ),mG t i k=mv (T.get t i) k)/\(∀{γ:Type}(t:T Value)(i:Nat)(k:Value×OpLog->M γ),ai t i k=PD (T.get t i) k)/\(∀{γ:Type}(E:Env)(o:BinOp)(a:Nat)(n:Int)(x:Option Value)(k:Value->M γ),ac E o a n x k=bI E o 3 (.tmp a) (.const (.int .i64 n)) x (some (.int .i64 n)) k)/\(∀{γ:Type}(E:Env)(o:BinOp)(t a:Nat)(v:Value)(x:Option Value)(k:Value->M γ),ab E o t a v x k=bI E o t (.tmp a) (.const v) x (some v) k)/\(∀{γ:Type}(E:Env)(o:BinOp)(t:Nat)(v:Value)(a:Nat)(x:Option Value)(k:Value->M γ),bM E o t v a x k=bI E o t (.const v) (.tmp a) (some v) x k)/\(∀{γ:Type}(E:Env)(o:BinOp)(t a b:Nat)(x y:Value)(k:Value->M γ),bT E o t a b x y k=bI E o t (.tmp a) (.tmp b) (some x) (some y) k)/\(∀{γ:Type}(E:Env)(t:Nat)(x:Value)(k:Value->M γ),lL E t x k=lN E .len [t] [some x] k)/\(∀{γ:Type}(x y z:Value)(k:Value->M γ),ae x y z k=M.bind (M.on (some x) λa=>M.on (some y) λb=>M.on (some z) λc=>Au a b c) k)/\(∀{γ:Type}(E:Env)(t:Nat)(x y:Option Value)(k:Value->M γ),ag E t x y k=M.bind (oS x λa=>oS y λb=>Az E t a b) k)/\(∀{γ:Type}(x:Value)(k:Value->M γ),kN x k=M.bind (oS (some x) λa=>kNil a) k)/\(∀(t:T Value)(i:Nat),pG t i=oS (T.get t i) λa=>M.pure a):=⟨by intros;rfl,by intros;rfl,by intros;rfl,by intros;rfl,by intros;rfl,by intros;rfl,by intros;rfl,by intros;rfl,by intros;rfl,by intros;rfl,by intros;rfl,by intros;rfl,by intros;rfl⟩
theorem RR:type_of%(And.intro @aj @ak):=⟨@aj,@ak⟩
abbrev Rg:=Env->Ag->Ag->T Value->M (T Value)
abbrev RdW:=Env->Ag->Ag->T Value->M ((Rho×T Value)×List OpLog)
abbrev G0 (E:Env)(f nt g:Nat)(b:Code):Prop:= ∀{n:Nat} {s:St} {Q:Value->St->Prop},(∀tm,W (runF E n ⟨f,nt,g,tm,[.code b], .run, .normal,none⟩) (s.cxN cxN) λp s1=>Q p.1 (s1.cxN s.cx))->W (Ac E (runF E n) f []) s Q
abbrev G1 (E:Env)(f nt g:Nat)(b:Code):Prop:= ∀{a0:Value} {n:Nat} {s:St} {Q:Value->St->Prop},(∀tm,T.get tm 0=some a0->W (runF E n ⟨f,nt,g,tm,[.code b], .run, .normal,none⟩) (s.cxN cxN) λp s1=>Q p.1 (s1.cxN s.cx))->W (Ac E (runF E n) f [a0]) s Q
abbrev G2 (E:Env)(f nt g:Nat)(b:Code):Prop:= ∀{a0 a1:Value} {n:Nat} {s:St} {Q:Value->St->Prop},(∀tm,T.get tm 0=some a0->T.get tm 1=some a1->W (runF E n ⟨f,nt,g,tm,[.code b], .run, .normal,none⟩) (s.cxN cxN) λp s1=>Q p.1 (s1.cxN s.cx))->W (Ac E (runF E n) f [a0,a1]) s Q
abbrev G3 (E:Env)(f nt g:Nat)(b:Code):Prop:= ∀{a0 a1 a2:Value} {n:Nat} {s:St} {Q:Value->St->Prop},(∀tm,T.get tm 0=some a0->T.get tm 1=some a1->T.get tm 2=some a2->W (runF E n ⟨f,nt,g,tm,[.code b], .run, .normal,none⟩) (s.cxN cxN) λp s1=>Q p.1 (s1.cxN s.cx))->W (Ac E (runF E n) f [a0,a1,a2]) s Q
abbrev G4 (E:Env)(f nt g:Nat)(b:Code):Prop:= ∀{a0 a1 a2 a3:Value} {n:Nat} {s:St} {Q:Value->St->Prop},(∀tm,T.get tm 0=some a0->T.get tm 1=some a1->T.get tm 2=some a2->T.get tm 3=some a3->W (runF E n ⟨f,nt,g,tm,[.code b], .run, .normal,none⟩) (s.cxN cxN) λp s1=>Q p.1 (s1.cxN s.cx))->W (Ac E (runF E n) f [a0,a1,a2,a3]) s Q
theorem eiW {i:Nat}(h:i<9223372036854775807):wrap64 ((i:Nat)+1:Int)=((i+1:Nat):Int):=by
 rw[Bh J J];simp
def nx (P:List Item):List Item:=skim 64 P.tail
def bt (P:List Item):List Item:=skim 64 (brT P)
def bf (P:List Item):List Item:=skim 64 (brF P)
