import Derived.Test.YtofanlcjeohcjaaIBz06
import Derived.KernelRfl
import Derived.CallsIn
noncomputable section
namespace Go.Proofs.Ytofanlcjeohcjaa
theorem X{p:Prop}(h:p:=by kernel_rfl):p:=h
end Go.Proofs.Ytofanlcjeohcjaa
namespace Go.Proofs.Ytofanlcjeohcjaa.Am
open Go.RowKit
section
variable {P:Program}{w0 w:World}{r:Inj}
theorem AsM_ {f : Nat} {fn : Func} (hf : P.funcs[f]? = some fn) (h1 : (fn.name == "runtime.NumGoroutine") = false) (h2 : fn.body.isNone = false) (args : Array Value) (w : World) : (callFunc f args).run P w = .ok (.enter f args) w := by
 have h1' : ¬fn.name = "runtime.NumGoroutine" := by simpa using h1
 have h2': ¬fn.body=none:=λe=>by rw[e]at h2;cases h2
 unfold callFunc
 simp[run_program,Sem.run_bind,hf,h1',h2']
def Owed (P:Program)(f:Nat)(w0 w:World)(r:Inj)(args':List Value)(s:St)(v:Value)(s':St):Prop:=
 ∃Q,Calls P f args'.toArray w Q/\ ∀e w',Q e w'-> ∃v' r',e= .returned v'/\VR r' v v'/\Goes w0 r s s' r' w'/\s'.lim=s.lim/\s'.cx=s.cx
theorem Uj {f : Nat} {fn : Func} {m : List Value → M Value} (hf : P.funcs[f]? = some fn) (h1 : (fn.name == "runtime.NumGoroutine") = false) (h2 : fn.body.isNone = false) (hl : ∀ args, Loc (m args)) (hn : ∀ args, NoPan (m args))
  (h: ∀{w0 w:World} {r:Inj} {args args':List Value} {s s':St} {v:Value},m args s= .some v s'->Rel w0 r s.mem w->AU r s.next s'.next->VRs r args args'->Owed P f w0 w r args' s v s'):OrcOK P f m where
 loc:=hl
 ok:=by
  intro w0 w r args args' s out s' e hr hb hfr ha
  cases out with
  |inr c=>exact((hn args).no _ _ _ e).elim
  |inl v=>
   refine⟨λw=>AsM_ hf h1 h2 _ w,λc cs=> ?_⟩
   obtain⟨Q,hc,hq⟩:=h (show m args s= .some v s' from e) hr hfr ha
   obtain⟨e,w',fr,hQ,hs,_,hl⟩:=hc (c::cs)
   obtain⟨v',r',rfl,hv,hg,k1,k2⟩:=hq e w' hQ
   exact⟨w',r',hg,k1,k2,v',hv,hs.trans (.one (step_leave_returned hl))⟩
end
section
variable {α β:Type}{s:St}
def W (m:M α)(s:St)(Q:α->St->Prop):Prop:= ∃a s',m s= .some a s'/\Q a s'
theorem W.mono {m:M α}{Q R:α->St->Prop}(h:W m s Q)(k: ∀a s',Q a s'->R a s'):W m s R:=let ⟨a,s',e,q⟩:=h;⟨a,s',e,k a s' q⟩
theorem W.of {m:M α}{Q:α->St->Prop}{a:α}{s':St}(e:m s= .some a s')(q:Q a s'):W m s Q:=⟨a,s',e,q⟩
theorem W.pure {a:α}{Q:α->St->Prop}(q:Q a s):W (M.pure a) s Q:=⟨a,s,rfl,q⟩
theorem AM {m:M α}{f:α->M β}{a:α}{s1:St}(e:m s= .some a s1):M.bind m f s=f a s1:=by
 unfold M.bind
 rw[e]
theorem W.bind {m:M α}{f:α->M β}{Q:β->St->Prop}(h:W m s λa s1=>W (f a) s1 Q):W (M.bind m f) s Q:=by
 obtain⟨a,s1,e,b,s2,e2,q⟩:=h
 refine⟨b,s2, ?_,q⟩
 unfold M.bind
 rw[e]
 exact e2
theorem W.chk {b:Bool}{m:M α}{Q:α->St->Prop}(hb:b=true)(h:W m s Q):W (M.chk b m) s Q:=by subst hb;exact h
theorem W.on {x:Option α}{a:α}{f:α->M β}{Q:β->St->Prop}(e:x=some a)(h:W (f a) s Q):W (M.on x f) s Q:=by subst e;exact h
theorem W.ofOpt {x:Option α}{a:α}{Q:α->St->Prop}(e:x=some a)(q:Q a s):W (M.ofOpt x) s Q:=by subst e;exact W.pure q
theorem W.cast {m n:M α}{Q:α->St->Prop}(e:m s=n s)(h:W n s Q):W m s Q:=let ⟨a,s',e',q⟩:=h;⟨a,s',e.trans e',q⟩
theorem W.np {m:M α}{Q:α->St->Prop}(h:W m s Q):W (noP m) s Q:=by
 obtain⟨a,s1,e,q⟩:=h
 exact⟨a,s1,by unfold noP;rw[e],q⟩
theorem BT {a b:Nat}(h:a<b):Nat.blt a b=true:=by simpa using h
theorem Gn {a b:Nat}(h:b<=a):Nat.blt a b=false:=by
 cases e:Nat.blt a b with
 |false=>rfl
 |true=>exact absurd (BF e) (Nat.not_lt_of_le h)
def St.rdN (s:St)(l:Nat):St:=⟨s.mem,s.next,s.lim,notes l s.lim s.rd,s.wr,s.cx⟩
def St.wrN (s:St)(l:Nat)(c:Cell):St:=⟨T.set s.mem l c,s.next,s.lim,s.rd,notes l s.lim s.wr,s.cx⟩
def St.cxN (s:St)(c:Ctx):St:=⟨s.mem,s.next,s.lim,s.rd,s.wr,c⟩
theorem Hj (l lim:Nat)(r:List Nat): ∃d,notes l lim r=d++r/\ ∀x∈d,x<lim/\x=l:=by
 rcases Nat.lt_or_ge l lim with h|h
 ·exact⟨[l],by unfold notes;rw[BT h];rfl,λx hx=>by
  have:x=l:=by simpa using hx
  exact⟨J,this⟩⟩
 ·exact⟨[],by unfold notes;rw[Gn h];rfl,λx hx=>by cases hx⟩
structure Ext (F G:Nat->Prop)(s s':St):Prop where
 nxt:s.next<=s'.next
 lim:s'.lim=s.lim
 cx:s'.cx=s.cx
 mem: ∀l,l<s.next-> ¬G l->T.get s'.mem l=T.get s.mem l
 rd: ∃d,s'.rd=d++s.rd/\ ∀l∈d,l<s.lim/\F l
 wr: ∃d,s'.wr=d++s.wr/\ ∀l∈d,l<s.lim/\G l
abbrev Non:Nat->Prop:=λ_=>False
theorem Ext.refl {F G:Nat->Prop}(s:St):Ext F G s s:=⟨Nat.le_refl _,rfl,rfl,λ_ _ _=>rfl,⟨[],rfl,λ_ h=>by cases h⟩,⟨[],rfl,λ_ h=>by cases h⟩⟩
theorem Ext.trans {F G F' G':Nat->Prop}{s s1 s2:St}(h:Ext F G s s1)(k:Ext F' G' s1 s2)(hb:s.lim<=s.next)(hF: ∀l,l<s.lim->F' l->F l)(hG: ∀l,l<s.next->G' l->G l):Ext F G s s2:=by
 refine⟨Nat.le_trans h.nxt k.nxt,k.lim.trans h.lim,k.cx.trans h.cx,λl hl hg=> ?_, ?_, ?_⟩
 ·rw[k.mem l (Nat.lt_of_lt_of_le hl h.nxt) λx=>hg (hG l hl x)]
  exact h.mem l hl hg
 ·obtain⟨d1,e1,q1⟩:=h.rd
  obtain⟨d2,e2,q2⟩:=k.rd
  refine⟨d2++d1,by rw[e2,e1,List.append_assoc],λl hl=> ?_⟩
  rcases List.mem_append.1 hl with hl|hl
  ·have:=q2 l hl
   rw[h.lim]at this
   exact⟨this.1,hF l this.1 this.2⟩
  ·exact q1 l hl
 ·obtain⟨d1,e1,q1⟩:=h.wr
  obtain⟨d2,e2,q2⟩:=k.wr
  refine⟨d2++d1,by rw[e2,e1,List.append_assoc],λl hl=> ?_⟩
  rcases List.mem_append.1 hl with hl|hl
  ·have:=q2 l hl
   rw[h.lim]at this
   exact⟨this.1,hG l (Nat.lt_of_lt_of_le this.1 hb) this.2⟩
  ·exact q1 l hl
theorem Ext.weak {F G F' G':Nat->Prop}{s s1:St}(k:Ext F' G' s s1)(hb:s.lim<=s.next)(hF: ∀l,l<s.lim->F' l->F l)(hG: ∀l,l<s.next->G' l->G l):Ext F G s s1:=(Ext.refl s).trans k hb hF hG
theorem Ext.rdN {F G:Nat->Prop}(s:St)(l:Nat)(hF:l<s.lim->F l):Ext F G s (s.rdN l):=by
 obtain⟨d,e,q⟩:=Hj l s.lim s.rd
 exact⟨Nat.le_refl _,rfl,rfl,λ_ _ _=>rfl,⟨d,e,λx hx=>⟨(q x hx).1,by have:=q x hx;rw[this.2];exact hF (by rw[<-this.2];exact this.1)⟩⟩,⟨[],rfl,λ_ h=>by cases h⟩⟩
theorem Ext.wrN {F G:Nat->Prop}(s:St)(l:Nat)(c:Cell)(hG:G l):Ext F G s (s.wrN l c):=by
 obtain⟨d,e,q⟩:=Hj l s.lim s.wr
 refine⟨Nat.le_refl _,rfl,rfl,λx _ hx=> ?_,⟨[],rfl,λ_ h=>by cases h⟩,⟨d,e,λx hx=>⟨(q x hx).1,by rw[(q x hx).2];exact hG⟩⟩⟩
 show T.get (T.set s.mem l c) x=_
 rw[T.get_set,if_neg]
 intro h
 exact hx (by rw[h];exact hG)
theorem Ext.bnd {F G:Nat->Prop}{s s':St}(h:Ext F G s s')(hb:s.lim<=s.next):s'.lim<=s'.next:=by rw[h.lim];exact Nat.le_trans hb h.nxt
def At (s:St)(b o:Nat)(v:Value):Prop:=b+o<s.next/\(T.get s.mem (b+o)=some (.C b v)\/T.get s.mem (b+o)=some (.O (.old b v)))
def Own (s:St)(b o:Nat)(v:Value):Prop:=b+o<s.next/\T.get s.mem (b+o)=some (.C b v)
theorem Own.at' {b o:Nat}{v:Value}(h:Own s b o v):At s b o v:=⟨h.1, .inl h.2⟩
theorem At.ext {F G:Nat->Prop}{s s':St}{b o:Nat}{v:Value}(h:At s b o v)(e:Ext F G s s')(hG: ¬G (b+o)):At s' b o v:=
 ⟨Nat.lt_of_lt_of_le h.1 e.nxt,by rw[e.mem _ h.1 hG];exact h.2⟩
theorem Own.ext {F G:Nat->Prop}{s s':St}{b o:Nat}{v:Value}(h:Own s b o v)(e:Ext F G s s')(hG: ¬G (b+o)):Own s' b o v:=
 ⟨Nat.lt_of_lt_of_le h.1 e.nxt,by rw[e.mem _ h.1 hG];exact h.2⟩
theorem At.same {s s':St}{b o:Nat}{v:Value}(h:At s b o v)(hm:s'.mem=s.mem)(hn:s'.next=s.next):At s' b o v:=by
 unfold At at *
 rw[hm,hn]
 exact h
theorem Own.same {s s':St}{b o:Nat}{v:Value}(h:Own s b o v)(hm:s'.mem=s.mem)(hn:s'.next=s.next):Own s' b o v:=by
 unfold Own at *
 rw[hm,hn]
 exact h
def Row (s:St)(b o:Nat)(l:List Value):Prop:= ∀i v,l[i]?=some v->At s b (o+i) v
def Aa (s:St)(b o:Nat)(l:List Value):Prop:= ∀i v,l[i]?=some v->Own s b (o+i) v
theorem Aa.row {b o:Nat}{l:List Value}(h:Aa s b o l):Row s b o l:=λi v e=>(h i v e).at'
theorem Row.ext {F G:Nat->Prop}{s s':St}{b o:Nat}{l:List Value}(h:Row s b o l)(e:Ext F G s s')(hG: ∀i,i<l.length-> ¬G (b+(o+i))):Row s' b o l:=λi v q=>(h i v q).ext e (hG i (List.getElem?_eq_some_iff.1 q).1)
theorem Aa.ext {F G:Nat->Prop}{s s':St}{b o:Nat}{l:List Value}(h:Aa s b o l)(e:Ext F G s s')(hG: ∀i,i<l.length-> ¬G (b+(o+i))):Aa s' b o l:=λi v q=>(h i v q).ext e (hG i (List.getElem?_eq_some_iff.1 q).1)
theorem Row.ext0 {F:Nat->Prop}{s s':St}{b o:Nat}{l:List Value}(h:Row s b o l)(e:Ext F Non s s'):Row s' b o l:=h.ext e λ_ _=>id
theorem Aa.ext0 {F:Nat->Prop}{s s':St}{b o:Nat}{l:List Value}(h:Aa s b o l)(e:Ext F Non s s'):Aa s' b o l:=h.ext e λ_ _=>id
theorem At.ext0 {F:Nat->Prop}{s s':St}{b o:Nat}{v:Value}(h:At s b o v)(e:Ext F Non s s'):At s' b o v:=h.ext e id
theorem Own.ext0 {F:Nat->Prop}{s s':St}{b o:Nat}{v:Value}(h:Own s b o v)(e:Ext F Non s s'):Own s' b o v:=h.ext e id
theorem Row.tail {b o:Nat}{v:Value}{l:List Value}(h:Row s b o (v::l)):Row s b (o+1) l:=λi x e=>by
 have:=h (i+1) x (by simpa using e)
 rw[show o+1+i=o+(i+1) by omega]
 exact this
theorem W.rdC {l:Nat}{c:Cell}{Q:Cell->St->Prop}(h:T.get s.mem l=some c)(hl:l<s.next)(q:Q c (s.rdN l)):W (rdC l) s Q:=by
 obtain⟨mem,next,lim,rd,wr,cx⟩:=s
 refine⟨c,_, ?_,q⟩
 unfold Am.rdC
 simp only at h hl ⊢
 rw[BT hl,h]
 rfl
theorem W.wrC {l:Nat}{c:Cell}{Q:Unit->St->Prop}(hl:l<s.next)(q:Q () (s.wrN l c)):W (wrC l c) s Q:=by
 obtain⟨mem,next,lim,rd,wr,cx⟩:=s
 refine⟨(),_, ?_,q⟩
 unfold Am.wrC
 simp only at hl ⊢
 obtain⟨v,a,b,e⟩:=aS mem l c
 rw[BT hl]
 show T.rec (motive:=λ_=>R Unit) .none (λa b d _ _=>R.some () (St.mk (.N a b d) next lim rd (notes l lim wr) cx)) (T.set mem l c)=R.some () (St.mk (T.set mem l c) next lim rd (notes l lim wr) cx)
 rw[e]
theorem N3 (a:Nat):Nat.beq a a=true:=Nat.beq_refl a
theorem W.rdV {b o:Nat}{v:Value}{Q:Value->St->Prop}(h:At s b o v)(q:Q v (s.rdN (b+o))):W (rdV ⟨b,o,none⟩) s Q:=by
 refine W.bind ?_
 rcases h with⟨h1,h2|h2⟩
 ·refine W.rdC h2 h1 (W.ofOpt (a:=v) ?_ q)
  show Bool.rec (motive:=λ_=>Option Value) none (some v) (Nat.beq b b)=_
  rw[N3]
 ·refine W.rdC h2 h1 (W.ofOpt (a:=v) ?_ q)
  show Bool.rec (motive:=λ_=>Option Value) none (some v) (Nat.beq b b)=_
  rw[N3]
theorem W.wrV {b o:Nat}{u v:Value}{Q:Unit->St->Prop}(h:Own s b o u)(hv:oneCell v=true)(q:Q () ((s.rdN (b+o)).wrN (b+o) (.C b v))):W (wrV ⟨b,o,none⟩ v) s Q:=by
 refine W.bind (W.rdC h.2 h.1 (W.chk ?_ (W.wrC h.1 q)))
 show(Nat.beq b b&&oneCell v)=true
 rw[N3,hv]
 rfl
theorem W.fA {γ:Type}{a:Addr}{K:Addr->M γ}{Q:γ->St->Prop}(h:W (K a) s Q):W (fA a K) s Q:=by rw[C1];exact h
theorem W.fN {γ:Type}{n:Nat}{K:Nat->M γ}{Q:γ->St->Prop}(h:W (K n) s Q):W (fN n K) s Q:=by rw[AB];exact h
theorem W.rdL: ∀{l:List Value} {s:St} {b o:Nat} {Q:List Value->St->Prop},Row s b o l->
  (∀s1,s1.mem=s.mem->s1.next=s.next->Ext (λx=>b+o<=x/\x<b+o+l.length) Non s s1->Q l s1)->W (rdL l.length ⟨b,o,none⟩) s Q
 |[],s,b,o,Q,_,q=>W.pure (q s rfl rfl (Ext.refl s))
 |v::l,s,b,o,Q,h,q=>by
  have hv:=h 0 v rfl
  show W (Am.fA (⟨b,o,none⟩:Addr) λa=>M.bind (Am.rdV a) λv=>M.bind (Am.rdL l.length ⟨a.block,Nat.succ a.off,a.spot⟩) λl=>M.pure (v::l)) s Q
  refine W.fA (W.bind (W.rdV hv (W.bind (W.rdL (l:=l) (s:=s.rdN (b+(o+0))) (b:=b) (o:=o+1) (λi x e=>(h.tail i x e).same rfl rfl) λs1 h1 h2 h3=>W.pure (q s1 h1 h2 ?_)))))
  have e0:Ext (λx=>b+o<=x/\x<b+o+(v::l).length) Non s (s.rdN (b+(o+0))):=Ext.rdN s _ λ_=>am
  obtain⟨d1,p1,p2⟩:=e0.rd
  obtain⟨d2,p3,p4⟩:=h3.rd
  obtain⟨d3,p5,p6⟩:=h3.wr
  refine⟨Nat.le_of_eq h2.symm,h3.lim,h3.cx,λx _ _=>by rw[h1];rfl,⟨d2++d1,by rw[p3,p1,List.append_assoc],λx hx=> ?_⟩,⟨d3,p5,p6⟩⟩
  rcases List.mem_append.1 hx with hx|hx
  ·have:=p4 x hx
   simp only[List.length_cons]
   exact⟨this.1,J,J⟩
  ·exact p2 x hx
end
section
variable {α β:Type}{s:St}
abbrev In (b o n:Nat):Nat->Prop:=λx=>b+o<=x/\x<b+o+n
theorem wrLs: ∀{l:List Value} {s:St} {b o:Nat},(∀i,i<l.length-> ∃u,Own s b (o+i) u)->l.all oneCell=true->
  ∃s1,wrL l ⟨b,o,none⟩ s= .some () s1/\s1.next=s.next/\Ext (In b o l.length) (In b o l.length) s s1/\Aa s1 b o l
 |[],s,b,o,_,_=>⟨s,rfl,rfl,Ext.refl s,λi v e=>by simp at e⟩
 |v::l,s,b,o,h,h1=>by
  rw[List.all_cons,Bool.and_eq_true]at h1
  obtain⟨u,hu⟩:=h 0 am
  obtain⟨a,s1,e1,rfl⟩: ∃a s1,wrV ⟨b,o,none⟩ v s= .some a s1/\s1=(s.rdN (b+o)).wrN (b+o) (.C b v):=W.wrV hu h1.1 rfl
  have x1:Ext (In b o (l.length+1)) (In b o (l.length+1)) s ((s.rdN (b+o)).wrN (b+o) (.C b v)):=by
   have a1:Ext (In b o (l.length+1)) (In b o (l.length+1)) s (s.rdN (b+o)):=Ext.rdN s _ λ_=>⟨Nat.le_refl _,J⟩
   have a2:Ext (In b o (l.length+1)) (In b o (l.length+1)) (s.rdN (b+o)) ((s.rdN (b+o)).wrN (b+o) (.C b v)):=Ext.wrN _ _ _ ⟨Nat.le_refl _,J⟩
   obtain⟨d1,p1,p2⟩:=a1.rd
   obtain⟨d2,p3,p4⟩:=a2.wr
   exact⟨Nat.le_refl _,rfl,rfl,λx q1 q2=>a2.mem x q1 q2,⟨d1,p1,p2⟩,⟨d2,p3,p4⟩⟩
  have own: ∀i w,i≠0->Own s b (o+i) w->Own ((s.rdN (b+o)).wrN (b+o) (.C b v)) b (o+i) w:=λi w hi hw=>⟨hw.1,by
   show T.get (T.set s.mem (b+o) (.C b v)) (b+(o+i))=_
   rw[T.get_set,if_neg J]
   exact hw.2⟩
  obtain⟨s2,e2,n2,x2,r2⟩:=wrLs (l:=l) (s:=(s.rdN (b+o)).wrN (b+o) (.C b v)) (b:=b) (o:=o+1) (λi hi=>by
   obtain⟨w,hw⟩:=h (i+1) (by simpa using hi)
   rw[show o+1+i=o+(i+1) by omega]
   exact⟨w,own _ _ J hw⟩) h1.2
  have e3:wrL (v::l) ⟨b,o,none⟩ s= .some () s2:=by
   show Am.fA (⟨b,o,none⟩:Addr) (λa=>M.bind (wrV a v) λ_=>wrL l ⟨a.block,Nat.succ a.off,a.spot⟩) s=_
   rw[C1]
   unfold M.bind
   rw[e1]
   exact e2
  refine⟨s2,e3,n2, ?_,λi w e=> ?_⟩
  ·obtain⟨d1,p1,p2⟩:=x1.rd
   obtain⟨d2,p3,p4⟩:=x2.rd
   obtain⟨d3,p5,p6⟩:=x1.wr
   obtain⟨d4,p7,p8⟩:=x2.wr
   have sub: ∀x,In b (o+1) l.length x->In b o (l.length+1) x:=λx hx=>⟨by have:=hx.1;omega,by have:=hx.2;omega⟩
   refine⟨Nat.le_of_eq n2.symm,x2.lim,x2.cx,λx q1 q2=>(x2.mem x q1 λy=>q2 (sub x y)).trans (x1.mem x q1 q2),⟨d2++d1,by rw[p3,p1,List.append_assoc],λx hx=> ?_⟩,⟨d4++d3,by rw[p7,p5,List.append_assoc],λx hx=> ?_⟩⟩
   ·rcases List.mem_append.1 hx with hx|hx
    ·exact⟨(p4 x hx).1,sub x (p4 x hx).2⟩
    ·exact p2 x hx
   ·rcases List.mem_append.1 hx with hx|hx
    ·exact⟨(p8 x hx).1,sub x (p8 x hx).2⟩
    ·exact p6 x hx
  ·cases i with
   |zero=>
    have:v=w:=by simpa using e
    subst this
    have o1:Own ((s.rdN (b+o)).wrN (b+o) (.C b v)) b o v:=⟨hu.1,by
     show T.get (T.set s.mem (b+o) (.C b v)) (b+o)=_
     rw[T.get_set,if_pos rfl]⟩
    exact o1.ext x2 λy=>by have:=y.1;omega
   |succ i=>
    rw[show o+(i+1)=o+1+i by omega]
    exact r2 i w (by simpa using e)
theorem W.wrL {l:List Value}{b o:Nat}{Q:Unit->St->Prop}(h: ∀i,i<l.length-> ∃u,Own s b (o+i) u)(h1:l.all oneCell=true)
  (q: ∀s1,s1.next=s.next->Ext (In b o l.length) (In b o l.length) s s1->Aa s1 b o l->Q () s1):W (wrL l ⟨b,o,none⟩) s Q:=by
 obtain⟨s1,e,h2,h3,h4⟩:=wrLs h h1
 exact⟨(),s1,e,q s1 h2 h3 h4⟩
theorem M7: ∀(vs:List Value) (b loc:Nat) (t:T Cell) (l:Nat),T.get (layL b vs loc t) l=if loc<=l/\l<loc+vs.length then(vs[l-loc]?).map (Cell.C b)else T.get t l
 |[],b,loc,t,l=>by
  rw[if_neg am]
  rfl
 |v::vs,b,loc,t,l=>by
  have e:layL b (v::vs) loc t=layL b vs (loc+1) (T.set t loc (.C b v)):=by
   show Am.fN loc (λloc=>layL b vs (Nat.succ loc) (T.set t loc (.C b v)))=_
   rw[AB]
  rw[e,M7 vs b (loc+1),T.get_set]
  simp only[List.length_cons]
  by_cases h1:l=loc
  ·subst h1
   rw[if_neg J,if_pos rfl,if_pos J,Nat.sub_self]
   rfl
  ·by_cases h2:loc+1<=l/\l<loc+1+vs.length
   ·rw[if_pos h2,if_pos J,show l-loc=(l-(loc+1))+1 by omega]
    rfl
   ·rw[if_neg h2,if_neg h1,if_neg J]
theorem Abn_ (vs:List Value)(s:St): ∃s1,newL vs s= .some s.next s1/\s1.next=s.next+vs.length+1/\Ext Non Non s s1/\Aa s1 s.next 0 vs:=by
 obtain⟨mem,next,lim,rd,wr,cx⟩:=s
 refine⟨⟨layL next vs next mem,next+vs.length+1,lim,rd,wr,cx⟩, ?_,rfl,⟨by simp only;omega,rfl,rfl,λl hl _=> ?_,⟨[],rfl,λ_ h=>by cases h⟩,⟨[],rfl,λ_ h=>by cases h⟩⟩,λi v e=> ?_⟩
 ·show Am.fN next (λb=>Am.fN (Nat.succ (Nat.add b vs.length)) λn=>R.some b (St.mk (layL b vs b mem) n lim rd wr cx))=_
  rw[AB,AB]
  rfl
 ·simp only at hl ⊢
  rw[M7,if_neg J]
 ·have hi:=(List.getElem?_eq_some_iff.1 e).1
  refine⟨by simp only;omega, ?_⟩
  simp only
  rw[M7,if_pos J,show next+(0+i)-next=i by omega,e]
  rfl
theorem W.newL {vs:List Value}{Q:Nat->St->Prop}(q: ∀s1,s1.next=s.next+vs.length+1->Ext Non Non s s1->Aa s1 s.next 0 vs->Q s.next s1):W (newL vs) s Q:=by
 obtain⟨s1,e,h1,h2,h3⟩:=Abn_ vs s
 exact⟨_,s1,e,q s1 h1 h2 h3⟩
theorem W.run {E:Env}{n:Nat}{af:AF}{Q:Value×FrameMode->St->Prop}(h:W (D4 E (Ac E (runF E n)) (AS (runF E n)) (Co E (runF E n)) af) s λp s1=>W (Ff (runF E n) p) s1 Q):W (runF E (n+1) af) s Q:=
 W.bind (m:=D4 E (Ac E (runF E n)) (AS (runF E n)) (Co E (runF E n)) af) (f:=Ff (runF E n)) h
theorem W.code {E:Env}{n f nt g:Nat}{tm:T Value}{todo k:List Item}{c:Code}{ki:CallKind}{ro:Option Nat}{Q:Value×FrameMode->St->Prop}(ht:skim 64 todo= .code c::k)
  (h:W (codeF E (Ac E (runF E n)) (AS (runF E n)) ⟨f,nt,g,tm, .code c::k, .run,ki,ro⟩ k c) s λp s1=>W (Ff (runF E n) p) s1 Q):W (runF E (n+1) ⟨f,nt,g,tm,todo, .run,ki,ro⟩) s Q:=by
 refine W.run ?_
 show W (noP (Fd E (Ac E (runF E n)) (AS (runF E n)) ⟨f,nt,g,tm,skim 64 todo, .run,ki,ro⟩ (skim 64 todo))) s _
 rw[ht]
 exact W.np h
def Tm (tm:T Value)(l:List (Nat×Value)):Prop:= ∀p∈l,T.get tm p.1=some p.2
theorem UR {E:Env}{tm:T Value}: ∀{rs:List Nat} {vs:List Value} {s:St},rs.map (T.get tm)=vs.map some->resL E tm (rs.map .tmp) s= .some vs s
 |[],[],_,_=>rfl
 |[],_::_,_,h=>by simp at h
 |_::_,[],_,h=>by simp at h
 |r::rs,v::vs,s,h=>by
  simp only[List.map_cons,List.cons.injEq]at h
  show M.bind (resV E tm (.tmp r)) (λv=>M.bind (resL E tm (rs.map .tmp)) λl=>M.pure (v::l)) s=_
  have e1:resV E tm (.tmp r) s= .some v s:=by
   show M.ofOpt (tm.get r) s=_
   rw[h.1]
   rfl
  rw[AM e1,AM (UR h.2)]
  rfl
theorem W.ret {E:Env}{n f nt g:Nat}{tm:T Value}{todo:List Item}{ki:CallKind}{fn:Func}{rs:List Nat}{vs:List Value}{up:Option FrameMode}{Q:Value×FrameMode->St->Prop}(ht:(∃k,skim 64 todo= .code .ret::k)\/skim 64 todo=[])
  (hf:E.fn.get f=some fn) (hr:fn.results.toList=rs.map .tmp) (hv:rs.map (T.get tm)=vs.map some) (hc:s.cx= .cx up (some [])) (q:Q (tupV vs,up.getD .run) s):W (runF E (n+2) ⟨f,nt,g,tm,todo, .run,ki,none⟩) s Q:=by
 have h1:W (runF E (n+1) ⟨f,nt,g,tm,skim 64 todo, .returning,ki,none⟩) s Q:=by
  refine W.run ?_
  show W (Dw E (Co E (runF E n)) ⟨f,nt,g,tm,skim 64 todo, .returning,ki,none⟩) s _
  refine W.bind (W.of (a:=s.cx) (s':=s) (by obtain⟨mem,next,lim,rd,wr,cx⟩:=s;rfl) ?_)
  rw[hc]
  show W (outF E ⟨f,nt,g,tm,skim 64 todo, .returning,ki,none⟩ up) s _
  refine W.on hf (W.bind (W.of (a:=tupV vs) (s':=s) ?_ (W.pure (W.pure q))))
  show M.bind (resL E tm fn.results.toList) (λl=>M.pure (tupV l)) s=_
  rw[hr,AM (UR hv)]
  rfl
 rcases ht with⟨k,ht⟩|ht
 ·refine W.code ht ?_
  rw[ht]at h1
  exact W.pure h1
 ·refine W.run ?_
  show W (noP (Fd E (Ac E (runF E (n+1))) (AS (runF E (n+1))) ⟨f,nt,g,tm,skim 64 todo, .run,ki,none⟩ (skim 64 todo))) s _
  rw[ht]at h1 ⊢
  exact W.np (W.pure h1)
theorem W.within {c:Ctx}{m:M α}{Q:α->St->Prop}(h:W m (s.cxN c) λa s1=>Q a (s1.cxN s.cx)):W (within c m) s Q:=by
 obtain⟨a,s1,e,q⟩:=h
 obtain⟨mem,next,lim,rd,wr,cx⟩:=s
 obtain⟨mem1,next1,lim1,rd1,wr1,cx1⟩:=s1
 refine⟨a,_, ?_,q⟩
 have e':m ⟨mem,next,lim,rd,wr,c⟩= .some a ⟨mem1,next1,lim1,rd1,wr1,cx1⟩:=e
 unfold Am.within
 simp only[e']
 rfl
theorem W.call {E:Env}{ih:AF->M (Value×FrameMode)}{f nt g:Nat}{fn:Func}{body:Code}{args:List Value}{Q:Value->St->Prop}(ho:E.orc.get f=none)(hx:E.ext.get f=none)(hf:E.fn.get f=some fn)(hb:fn.body=some body)
  (hn:fn.ntmps=nt) (hg:Ao fn=g) (ha:args.length<=nt) (h:W (ih ⟨f,nt,g,BM g args 0 .E,[.code body], .run, .normal,none⟩) (s.cxN cxN) λp s1=>Q p.1 (s1.cxN s.cx)):W (Ac E ih f args) s Q:=by
 unfold Ac
 rw[ho,hx]
 refine W.within (W.bind (W.bind ?_))
 have e:B8 E f args .normal (s.cxN cxN)= .some ⟨f,nt,g,BM g args 0 .E,[.code body], .run, .normal,none⟩ (s.cxN cxN):=by
  unfold B8
  rw[hf]
  show M.on fn.body (λc=>M.chk (Nat.ble args.length fn.ntmps) (Am.fN fn.ntmps λn=>Am.fN (Ao fn) λg=>M.pure (⟨f,n,g,BM g args 0 .E,[.code c], .run, .normal,none⟩:AF))) _=_
  rw[hb]
  show M.chk (Nat.ble args.length fn.ntmps) (Am.fN fn.ntmps λn=>Am.fN (Ao fn) λg=>M.pure (⟨f,n,g,BM g args 0 .E,[.code body], .run, .normal,none⟩:AF)) _=_
  rw[show Nat.ble args.length fn.ntmps=true from Nat.ble_eq_true_of_le (by rw[hn];exact ha),AB,AB,hn,hg]
  rfl
 exact W.of e (h.mono λp s1 q=>W.pure q)
theorem aK {E:Env}{s:St}{ih:AF->M (Value×FrameMode)}{f nt g:Nat}{fn:Func}{body:Code}{args:List Value}{Q:Value->St->Prop}(hf:E.fn.get f=some fn)(h:W (ih ⟨f,nt,g,BM g args 0 .E,[.code body], .run, .normal,none⟩) (s.cxN cxN) λp s1=>Q p.1 (s1.cxN s.cx))(ho:E.orc.get f=none:=by kernel_rfl)(hx:E.ext.get f=none:=by kernel_rfl)(hb:fn.body=some body:=by kernel_rfl)(hn:fn.ntmps=nt:=by rfl)(hg:Ao fn=g:=by rfl)(ha:args.length<=nt:=by simp):W (Ac E ih f args) s Q:=W.call ho hx hf hb hn hg ha h
end
section
variable {α β:Type}{s:St}
theorem AN {n:Int}(h1: -9223372036854775808<=n)(h2:n<=9223372036854775807):wrap64 n=n:=by
 rw[Hp]
 have e:IntKind.i64.wrap n=if n%18446744073709551616≥9223372036854775808 then n%18446744073709551616-18446744073709551616 else n%18446744073709551616:=by
  unfold IntKind.wrap
  simp[IntKind.bits,IntKind.signed]
 rw[e]
 by_cases h:n%18446744073709551616≥9223372036854775808
 ·rw[if_pos h];omega
 ·rw[if_neg h];omega
theorem QP_ (n:Int)(s:St):rI n s= .some (.int .i64 (wrap64 n)) s:=by unfold rI;rw[EB]
theorem FI (b:Bool)(s:St):rB b s= .some (.bool b) s:=by cases b<;>rfl
theorem Fw (f:Int->Int->St->R Value)(slow:Value->Value->M Value)(a b:Int):int2 f slow (.int .i64 a) (.int .i64 b) s=f a b s:=rfl
theorem Axo_ (slow:Value->Value->M Value)(a b:Int):int2 (λa b s=>rI (addI a b) s) slow (.int .i64 a) (.int .i64 b) s= .some (.int .i64 (wrap64 (a+b))) s:=by rw[Fw,QP_,To]
theorem Aiu_ (slow:Value->Value->M Value)(a b:Int):int2 (λa b s=>rI (subI a b) s) slow (.int .i64 a) (.int .i64 b) s= .some (.int .i64 (wrap64 (a-b))) s:=by rw[Fw,QP_,SA]
theorem AaG_ (slow:Value->Value->M Value)(a b:Int):int2 (λa b s=>rB (ltI a b) s) slow (.int .i64 a) (.int .i64 b) s= .some (.bool (decide (a<b))) s:=by rw[Fw,FI,IA]
theorem Asv_ (slow:Value->Value->M Value)(a b:Int):int2 (λa b s=>rB (ltI b a) s) slow (.int .i64 a) (.int .i64 b) s= .some (.bool (decide (b<a))) s:=by rw[Fw,FI,IA]
theorem AuZ_ (slow:Value->Value->M Value)(a b:Int):int2 (λa b s=>rB (!ltI b a) s) slow (.int .i64 a) (.int .i64 b) s= .some (.bool (decide (a<=b))) s:=by
 rw[Fw,FI,IA]
 congr 2
 by_cases h:b<a
 ·simp[h]
 ·simp[h];omega
theorem AtH_ (slow:Value->Value->M Value)(a b:Int):int2 (λa b s=>rB (!ltI a b) s) slow (.int .i64 a) (.int .i64 b) s= .some (.bool (decide (b<=a))) s:=by
 rw[Fw,FI,IA]
 congr 2
 by_cases h:a<b
 ·simp[h]
 ·simp[h];omega
theorem Aux_ (slow:Value->Value->M Value)(a b:Int):int2 (λa b s=>rB (eqI a b) s) slow (.int .i64 a) (.int .i64 b) s= .some (.bool (decide (a=b))) s:=by rw[Fw,FI,O6]
theorem XE_ (slow:Value->Value->M Value)(a b:Int):int2 (λa b s=>rB (!eqI a b) s) slow (.int .i64 a) (.int .i64 b) s= .some (.bool (!decide (a=b))) s:=by rw[Fw,FI,O6]
def setF {γ:Type}(d:Nat)(v:Value)(tm:T Value)(K:T Value->M γ):M γ:=λs=>T.rec (motive:=λ_=>R γ) .none (λa b c _ _=>K (.N a b c) s) (T.set tm d v)
def setT {γ:Type}(d:Nat)(v:Value)(tm:T Value)(K:T Value->M γ):M γ:=T.rec (motive:=λ_=>M γ) aC (λa b c _ _=>K (.N a b c)) (T.set tm d v)
def Ik (m:M ((Rho×T Value)×List OpLog))(bef:List Nat):M (Rho×T Value):=λs=>St.rec (motive:=λ_=>R (Rho×T Value)) (λmem next lim rd wr cx=>
 R.rec (motive:=λ_=>R (Rho×T Value)) .none (λp s=>Prod.rec (motive:=λ_=>R (Rho×T Value)) (λq l=>St.rec (motive:=λ_=>R (Rho×T Value)) (λmem' next' _ _ _ _=>
  Bool.rec (motive:=λ_=>R (Rho×T Value)) .none (.some q (St.mk mem' next' lim (rdsL lim l rd) (wrsL lim l wr) cx)) (Bz next l.reverse bef)) s) p) (λ_ _=> .none)
  (m (St.mk mem next (nat_lit 0) [] [] .no))) s
def dSt (mem:T Cell)(next:Nat):St:=⟨mem,next,0,[],[], .no⟩
def oSt (mem:T Cell)(next:Nat):St:=⟨mem,next,next,[],[], .no⟩
theorem W.draw {m:M ((Rho×T Value)×List OpLog)}{bef:List Nat}{Q:Rho×T Value->St->Prop}
  (h:W m (dSt s.mem s.next) λp s1=>Bz s.next p.2.reverse bef=true/\Q p.1 ⟨s1.mem,s1.next,s.lim,rdsL s.lim p.2 s.rd,wrsL s.lim p.2 s.wr,s.cx⟩):W (Ik m bef) s Q:=by
 obtain⟨⟨q,l⟩,s1,e,ha,hq⟩:=h
 obtain⟨mem,next,lim,rd,wr,cx⟩:=s
 obtain⟨mem1,next1,lim1,rd1,wr1,cx1⟩:=s1
 refine⟨q,_, ?_,hq⟩
 have e':m ⟨mem,next,0,[],[], .no⟩= .some (q,l) ⟨mem1,next1,lim1,rd1,wr1,cx1⟩:=e
 have ha':Bz next l.reverse bef=true:=ha
 unfold Ik
 simp only[e',ha']
theorem aU {m:M α}{f:α×OpLog->M β}{mem:T Cell}{next:Nat}{Q:β->St->Prop}
  (h:W m (oSt mem next) λv s1=> ∃F,Ext F Non (oSt mem next) s1/\ ∀rd,(∀x∈rd,x<next/\F x)->W (f (v,⟨next,s1.next,rd,[]⟩)) (dSt s1.mem s1.next) Q):W (M.bind (apartO m) f) (dSt mem next) Q:=by
 obtain⟨a,s1,e,F,x,q⟩:=h
 obtain⟨mem1,next1,lim1,rd1,wr1,cx1⟩:=s1
 have hcx:cx1= .no:=x.cx
 obtain⟨d1,p1,p2⟩:=x.rd
 obtain⟨d2,p3,p4⟩:=x.wr
 have e1:rd1=d1:=by simpa [oSt]using p1
 have e2:wr1=[]:=by
  have:wr1=d2:=by simpa [oSt]using p3
  rw[this]
  cases d2 with
  |nil=>rfl
  |cons y l=>exact(p4 y am).2.elim
 subst hcx
 subst e2
 refine W.bind (W.of (a:=(a,⟨next,next1,rd1,[]⟩)) (s':=dSt mem1 next1) ?_ (q rd1 λy hy=>p2 y (by rw[<-e1];exact hy)))
 have e':m ⟨mem,next,next,[],[], .no⟩= .some a ⟨mem1,next1,lim1,rd1,[], .no⟩:=e
 show Am.apartO m ⟨mem,next,0,[],[], .no⟩=_
 unfold Am.apartO
 simp only[e']
 rfl
theorem Ov (n0:Nat)(l acc:List Nat): ∀x,x∈Bx n0 l acc->(x∈l/\n0<=x)\/x∈acc:=by
 induction l with
 |nil=>exact λx h=> .inr h
 |cons a l ih=>
  intro x h
  have h':x∈Bool.rec (motive:=λ_=>List Nat) (Bx n0 l acc) (a::Bx n0 l acc) (Nat.ble n0 a):=h
  cases e:Nat.ble n0 a with
  |false=>
   rw[e]at h'
   rcases ih x h' with⟨h1,h2⟩|h1
   ·exact .inl ⟨by simp[h1],h2⟩
   ·exact .inr h1
  |true=>
   rw[e]at h'
   rcases List.mem_cons.1 h' with rfl|h'
   ·exact .inl ⟨am,Nat.le_of_ble_eq_true e⟩
   ·rcases ih x h' with⟨h1,h2⟩|h1
    ·exact .inl ⟨by simp[h1],h2⟩
    ·exact .inr h1
theorem Ll_ (lo hi:Nat)(l:List Nat)(h: ∀x∈l,¬(lo<=x/\x<hi)):DW lo hi l=false:=by
 induction l with
 |nil=>rfl
 |cons a l ih=>
  have i:=ih λx hx=>h x (by simp[hx])
  show Bool.rec (motive:=λ_=>Bool) (DW lo hi l) (Bool.rec (motive:=λ_=>Bool) (DW lo hi l) true (Nat.blt a hi)) (Nat.ble lo a)=false
  cases e1:Nat.ble lo a with
  |false=>exact i
  |true=>
   cases e2:Nat.blt a hi with
   |false=>exact i
   |true=>exact absurd ⟨Nat.le_of_ble_eq_true e1,BF e2⟩ (h a am)
theorem Vv (bj:Nat)(news:List Nat): ∀(acc:List OpLog) (i:Nat),(∀k a,acc[k]?=some a->bj.testBit (i+k)=true\/ ∀x∈news,¬(a.lo<=x/\x<a.hi))->Ew bj news acc i=true
 |[],_,_=>rfl
 |a::acc,i,h=>by
  show((bj.testBit i|| !DW a.lo a.hi news)&&Ew bj news acc (Nat.succ i))=true
  rw[Bool.and_eq_true]
  constructor
  ·rcases h 0 a rfl with h|h
   ·rw[Nat.add_zero]at h;rw[h];rfl
   ·rw[Ll_ _ _ _ h];simp
  ·refine Vv bj news acc (i+1) λk b hk=> ?_
   have:=h (k+1) b (by simpa using hk)
   rwa [show i+(k+1)=i+1+k by omega]at this
theorem Iz_ (n0:Nat)(all:List OpLog): ∀(l:List OpLog) (bef:List Nat) (j:Nat),l.length<=bef.length->(∀(k:Nat) (m:OpLog) (b:Nat),l[k]?=some m->bef[k]?=some b->m.wr=[]/\ ∀(i:Nat) (a:OpLog),i<j+k->all[i]?=some a->b.testBit i=true\/ ∀x∈m.rd,n0<=x-> ¬(a.lo<=x/\x<a.hi))->FY n0 all l bef j=true
 |[],_,_,_,_=>rfl
 |_::_,[],_,h,_=>by simp at h
 |m::l,b::bef,j,hl,h=>by
  show(Gv b (Bx n0 m.rd (Bx n0 m.wr [])) (all.take j)&&FY n0 all l bef (Nat.succ j))=true
  rw[Bool.and_eq_true]
  obtain⟨h1,h2⟩:=h 0 m b rfl rfl
  constructor
  ·have hn: ∀x,x∈Bx n0 m.rd (Bx n0 m.wr [])->x∈m.rd/\n0<=x:=λx hx=>by
    rw[h1]at hx
    rcases Ov _ _ _ x hx with h|h
    ·exact h
    ·cases h
   have hj:Ew b (Bx n0 m.rd (Bx n0 m.wr [])) (all.take j) 0=true:=by
    refine Vv _ _ _ _ λk a hk=> ?_
    rw[List.getElem?_take]at hk
    split at hk
    ·rename_i hkj
     rw[Nat.zero_add]
     rcases h2 k a J hk with q|q
     ·exact .inl q
     ·exact .inr λx hx=>q x (hn x hx).1 (hn x hx).2
    ·cases hk
   unfold Gv
   generalize Bx n0 m.rd (Bx n0 m.wr [])=z at hj
   cases z with
   |nil=>rfl
   |cons x z=>exact hj
  ·refine Iz_ n0 all l bef (j+1) (by simpa using hl) λk m b e1 e2=> ?_
   obtain⟨h3,h4⟩:=h (k+1) m b (by simpa using e1) (by simpa using e2)
   exact⟨h3,λi a hi=>h4 i a J⟩
theorem DH_ {n0:Nat}{l:List OpLog}{bef:List Nat}(hl:l.length<=bef.length)(h: ∀(k:Nat) (m:OpLog) (b:Nat),l[k]?=some m->bef[k]?=some b->m.wr=[]/\ ∀(i:Nat) (a:OpLog),i<k->l[i]?=some a->b.testBit i=true\/ ∀x∈m.rd,n0<=x-> ¬(a.lo<=x/\x<a.hi))(hw: ∀m∈l,m.wr=[]):Bz n0 l bef=true:=by
 unfold Bz
 rw[Bool.and_eq_true]
 refine⟨Iz_ n0 l l bef 0 hl λk m b e1 e2=> ?_, ?_⟩
 ·obtain⟨h1,h2⟩:=h k m b e1 e2
  exact⟨h1,λi a hi=>h2 i a J⟩
 ·rw[Bool.or_eq_true]
  left
  unfold Ol_
  rw[List.all_eq_true]
  intro m hm
  rw[hw m hm]
  rfl
theorem UD_ (lim:Nat)(l base:List Nat): ∃d,addL lim l base=d++base/\ ∀x∈d,x<lim/\x∈l:=by
 induction l with
 |nil=>exact⟨[],rfl,λ_ h=>by cases h⟩
 |cons a l ih=>
  obtain⟨d,e,q⟩:=ih
  obtain⟨d2,e2,q2⟩:=Hj a lim (addL lim l base)
  refine⟨d2++d, ?_,λx hx=> ?_⟩
  ·show notes a lim (addL lim l base)=_
   rw[e2,e,List.append_assoc]
  ·rcases List.mem_append.1 hx with hx|hx
   ·exact⟨(q2 x hx).1,by simp[(q2 x hx).2]⟩
   ·exact⟨(q x hx).1,by simp[(q x hx).2]⟩
theorem Do_ (lim:Nat)(l:List OpLog)(base:List Nat): ∃d,rdsL lim l base=d++base/\ ∀x∈d,x<lim/\ ∃m∈l,x∈m.rd:=by
 induction l with
 |nil=>exact⟨[],rfl,λ_ h=>by cases h⟩
 |cons m l ih=>
  obtain⟨d,e,q⟩:=ih
  obtain⟨d2,e2,q2⟩:=UD_ lim m.rd (rdsL lim l base)
  refine⟨d2++d, ?_,λx hx=> ?_⟩
  ·show addL lim m.rd (rdsL lim l base)=_
   rw[e2,e,List.append_assoc]
  ·rcases List.mem_append.1 hx with hx|hx
   ·exact⟨(q2 x hx).1,m,am,(q2 x hx).2⟩
   ·obtain⟨h1,m',h2,h3⟩:=q x hx
    exact⟨h1,m',by simp[h2],h3⟩
theorem Xa_ (lim:Nat)(l:List OpLog)(base:List Nat)(h: ∀m∈l,m.wr=[]):wrsL lim l base=base:=by
 induction l with
 |nil=>rfl
 |cons m l ih=>
  show addL lim m.wr (wrsL lim l base)=base
  rw[h m am,ih λx hx=>h x (by simp[hx])]
  rfl
theorem Ext.draw {F:Nat->Prop}{mem':T Cell}{next':Nat}{l:List OpLog}(h1:s.next<=next')(h2: ∀x,x<s.next->T.get mem' x=T.get s.mem x)(hw: ∀m∈l,m.wr=[])(hr: ∀m∈l,∀x∈m.rd,x<s.lim->F x):
  Ext F Non s ⟨mem',next',s.lim,rdsL s.lim l s.rd,wrsL s.lim l s.wr,s.cx⟩:=by
 obtain⟨d,e,q⟩:=Do_ s.lim l s.rd
 exact⟨h1,rfl,rfl,λx hx _=>h2 x hx,⟨d,e,λx hx=>by obtain⟨a,m,b,c⟩:=q x hx;exact⟨a,hr m b x c a⟩⟩,⟨[],Xa_ _ _ _ hw,λ_ h=>by cases h⟩⟩
end
section
variable {α β:Type}{s:St}
def oS (x:Option α)(f:α->M β):M β:=λs=>Option.rec (motive:=λ_=>R β) .none (λa=>f a s) x
def seqO (l:List (Option Value)):Option (List Value):=List.rec (motive:=λ_=>Option (List Value)) (some []) (λx _ ih=>onO x λv=>onO ih λl=>some (v::l)) l
def seqP (l:List (Nat×Option Value)):Option (List (Nat×Value)):=List.rec (motive:=λ_=>Option (List (Nat×Value))) (some []) (λx _ ih=>onO x.2 λv=>onO ih λl=>some ((x.1,v)::l)) l
def Cl.get {γ:Type}(c:Cl γ):γ:=Cl.rec (motive:=λ_=>γ) (λf=>f) c
def hdC (l:List Item):Code:=match l with| .code c::_=>c|_=> .skip
def dsC (c:Code):List Nat:=match c with| .region _ ops _=>dstL ops.toList|_=>[]
def brT (l:List Item):List Item:=match l with| .code (.cond _ a _)::k=> .code a::k|_=>[]
def brF (l:List Item):List Item:=match l with| .code (.cond _ _ b)::k=> .code b::k|_=>[]
def Aj (l:List Item):Option Nat:=match l with| .code (.cond (.tmp t) _ _)::_=>some t|_=>none
theorem W.reg {E:Env}{n f nt g:Nat}{tm:T Value}{T P:List Item}{ki:CallKind}{ro:Option Nat}{nice:Env->Ai->Ai->Am.T Value->M (Am.T Value)}{Q:Value×FrameMode->St->Prop}(ht:skim 64 T=P)(hP:P= .code (hdC P)::P.tail)
  (he: ∀(E:Env) (call round:Ai) (td k:List Item) (ki:CallKind) (ro:Option Nat) (tm:Am.T Value) (s:St),codeF E call round ⟨f,nt,g,tm,td, .run,ki,ro⟩ k (hdC P) s=regF call round ⟨f,nt,g,tm,td, .run,ki,ro⟩ (dsC (hdC P)) (λcall round _ tm=>nice E call round tm) k s)
  (hn:0<n) (h:W (nice E (Ac E (runF E (n-1))) (AS (runF E (n-1))) tm) s λtm s1=>W (runF E (n-1) ⟨f,nt,g,tm,P.tail, .run,ki,ro⟩) s1 Q):W (runF E n ⟨f,nt,g,tm,T, .run,ki,ro⟩) s Q:=by
 obtain⟨m,rfl⟩: ∃m,n=m+1:=⟨n-1,J⟩
 rw[hP]at ht
 refine W.code ht (W.cast (he E _ _ _ _ _ _ _ _) ?_)
 rw[Nat.add_sub_cancel]at h
 obtain⟨tm',s1,e,hq⟩:=h
 refine⟨.go ⟨f,nt,g,tm',P.tail, .run,ki,ro⟩,s1, ?_,hq⟩
 unfold regF
 simp only[e]
 rfl
theorem W.cond {E:Env}{n f nt g t:Nat}{tm:T Value}{T P:List Item}{ki:CallKind}{ro:Option Nat}{v:Bool}{Q:Value×FrameMode->St->Prop}(ht:skim 64 T=P)(hx:Aj P=some t)(hv:Am.T.get tm t=some (.bool v))(hn:0<n)
  (h1:v=true->W (runF E (n-1) ⟨f,nt,g,tm,brT P, .run,ki,ro⟩) s Q) (h2:v=false->W (runF E (n-1) ⟨f,nt,g,tm,brF P, .run,ki,ro⟩) s Q):W (runF E n ⟨f,nt,g,tm,T, .run,ki,ro⟩) s Q:=by
 obtain⟨m,rfl⟩: ∃m,n=m+1:=⟨n-1,J⟩
 rw[Nat.add_sub_cancel]at h1 h2
 unfold Aj at hx
 split at hx
 ·rename_i t' a b k
  cases hx
  refine W.code ht ?_
  show W (M.on (Am.T.get tm t) (GT ⟨f,nt,g,tm, .code (.cond (.tmp t) a b)::k, .run,ki,ro⟩ a b k)) s _
  refine W.on hv ?_
  cases v with
  |true=>exact W.pure (h1 rfl)
  |false=>exact W.pure (h2 rfl)
 ·cases hx
theorem aH {E:Env}{n f nt g:Nat}{s:St}{tm:T Value}{T P:List Item}{ki:CallKind}{ro:Option Nat}{Q:Value×FrameMode->St->Prop}{t:Nat}(hx:Aj P=some t)(h:W (runF E (n-1) ⟨f,nt,g,tm,brT P, .run,ki,ro⟩) s Q)(ht:skim 64 T=P:=by rfl)(hv:Am.T.get tm t=some (.bool true):=by simp[Am.T.get_set]<;>omega)(hn:0<n:=by omega):W (runF E n ⟨f,nt,g,tm,T, .run,ki,ro⟩) s Q:=W.cond ht hx hv hn (λ_=>h) λh=>by cases h
theorem aE {E:Env}{n f nt g:Nat}{s:St}{tm:T Value}{T P:List Item}{ki:CallKind}{ro:Option Nat}{Q:Value×FrameMode->St->Prop}{t:Nat}(hx:Aj P=some t)(h:W (runF E (n-1) ⟨f,nt,g,tm,brF P, .run,ki,ro⟩) s Q)(ht:skim 64 T=P:=by rfl)(hv:Am.T.get tm t=some (.bool false):=by simp[Am.T.get_set]<;>omega)(hn:0<n:=by omega):W (runF E n ⟨f,nt,g,tm,T, .run,ki,ro⟩) s Q:=W.cond ht hx hv hn (λh=>by cases h) λ_=>h
structure RegEq (f nt g:Nat)(P:List Item)(nice:Env->Ai->Ai->T Value->M (T Value)):Prop where
 hd:P= .code (hdC P)::P.tail:=by kernel_rfl
 eq: ∀(E:Env) (call round:Ai) (td k:List Item) (ki:CallKind) (ro:Option Nat) (tm:T Value) (s:St),codeF E call round ⟨f,nt,g,tm,td, .run,ki,ro⟩ k (hdC P) s=regF call round ⟨f,nt,g,tm,td, .run,ki,ro⟩ (dsC (hdC P)) (λcall round _ tm=>nice E call round tm) k s:=by intros;kernel_rfl
theorem RegEq.w {E:Env}{n f nt g:Nat}{tm:T Value}{T P:List Item}{ki:CallKind}{ro:Option Nat}{nice:Env->Ai->Ai->Am.T Value->M (Am.T Value)}{Q:Value×FrameMode->St->Prop}(q:RegEq f nt g P nice)(ht:skim 64 T=P)(hn:0<n)
 (h:W (nice E (Ac E (runF E (n-1))) (AS (runF E (n-1))) tm) s λtm s1=>W (runF E (n-1) ⟨f,nt,g,tm,P.tail, .run,ki,ro⟩) s1 Q):W (runF E n ⟨f,nt,g,tm,T, .run,ki,ro⟩) s Q:=W.reg ht q.hd q.eq hn h
theorem RegEq.u {E:Env}{n f nt g:Nat}{s:St}{tm:T Value}{T P:List Item}{ki:CallKind}{ro:Option Nat}{Q:Value×FrameMode->St->Prop}{nice:Env->Ai->Ai->Am.T Value->M (Am.T Value)}(q:RegEq f nt g P nice)(h:W (nice E (Ac E (runF E (n-1))) (AS (runF E (n-1))) tm) s λtm s1=>W (runF E (n-1) ⟨f,nt,g,tm,P.tail, .run,ki,ro⟩) s1 Q)(ht:skim 64 T=P:=by rfl)(hn:0<n:=by omega):W (runF E n ⟨f,nt,g,tm,T, .run,ki,ro⟩) s Q:=q.w ht hn h
def befC (c:Code):List Nat:=match c with| .region _ ops _=>(Region.before ops).toList|_=>[]
def A5 (E:Env)(g n:Nat)(c:Code):List COp:=match c with
 | .region _ ops _=>(match B1 E g n ops.toList ops.toList []with|some l=>Fo l (C8 l.length (Region.before ops).toList)|none=>[])
 |_=>[]
theorem W.regD {E:Env}{n f nt g:Nat}{tm:T Value}{T P:List Item}{ki:CallKind}{ro:Option Nat}{nice:Env->Ai->Ai->Am.T Value->M ((Rho×Am.T Value)×List OpLog)}{Q:Value×FrameMode->St->Prop}(ht:skim 64 T=P)(hP:P= .code (hdC P)::P.tail)
  (he: ∀(E:Env) (call round:Ai) (td k:List Item) (ki:CallKind) (ro:Option Nat) (tm:Am.T Value) (s:St),codeF E call round ⟨f,nt,g,tm,td, .run,ki,ro⟩ k (hdC P) s=M.bind (Ik (nice E call round tm) (befC (hdC P))) (endE call round ⟨f,nt,g,tm,td, .run,ki,ro⟩ (A5 E g nt (hdC P)) (dsC (hdC P)) k) s)
  (hn:0<n) {bef:List Nat} (hb:befC (hdC P)=bef) (h:W (nice E (Ac E (runF E (n-1))) (AS (runF E (n-1))) tm) (dSt s.mem s.next) λp s1=>Bz s.next p.2.reverse bef=true/\
   W (AK (Ac E (runF E (n-1))) (AS (runF E (n-1))) (A5 E g nt (hdC P)) p.1.1 p.1.2) ⟨s1.mem,s1.next,s.lim,rdsL s.lim p.2 s.rd,wrsL s.lim p.2 s.wr,s.cx⟩ λtm s1=>W (runF E (n-1) ⟨f,nt,g,tm,P.tail, .run,ki,ro⟩) s1 Q):W (runF E n ⟨f,nt,g,tm,T, .run,ki,ro⟩) s Q:=by
 obtain⟨m,rfl⟩: ∃m,n=m+1:=⟨n-1,J⟩
 rw[hP]at ht
 rw[Nat.add_sub_cancel]at h
 refine W.code ht (W.cast (he E _ _ _ _ _ _ _ _) (W.bind (W.draw ?_)))
 rw[hb]
 refine h.mono λp s1 q=>⟨q.1, ?_⟩
 obtain⟨tm',s2,e,hq⟩:=q.2
 refine⟨.go ⟨f,nt,g,tm',P.tail, .run,ki,ro⟩,s2, ?_,hq⟩
 unfold endE
 simp only[e]
 rfl
theorem W.dop0 {m:M α}{f:α×OpLog->M β}{mem:T Cell}{next:Nat}{Q:β->St->Prop}(h:W m (oSt mem next) λv s1=>s1=oSt mem next/\W (f (v,⟨next,next,[],[]⟩)) (dSt mem next) Q):W (M.bind (apartO m) f) (dSt mem next) Q:=by
 refine aU (h.mono λv s1 q=>⟨Non, ?_,λrd hr=> ?_⟩)
 ·rw[q.1];exact Ext.refl _
 ·have:rd=[]:=by
   cases rd with
   |nil=>rfl
   |cons x l=>exact(hr x am).2.elim
  rw[this,q.1]
  exact q.2
structure DrawEq (f nt g:Nat)(P:List Item)(bef:List Nat)(nice:Env->Ai->Ai->T Value->M ((Rho×T Value)×List OpLog)):Prop where
 hd:P= .code (hdC P)::P.tail:=by kernel_rfl
 bef:befC (hdC P)=bef:=by kernel_rfl
 eq: ∀(E:Env) (call round:Ai) (td k:List Item) (ki:CallKind) (ro:Option Nat) (tm:T Value) (s:St),codeF E call round ⟨f,nt,g,tm,td, .run,ki,ro⟩ k (hdC P) s=M.bind (Ik (nice E call round tm) (befC (hdC P))) (endE call round ⟨f,nt,g,tm,td, .run,ki,ro⟩ (A5 E g nt (hdC P)) (dsC (hdC P)) k) s:=by intros;kernel_rfl
theorem DrawEq.w {E:Env}{n f nt g:Nat}{tm:T Value}{T P:List Item}{ki:CallKind}{ro:Option Nat}{bef:List Nat}{nice:Env->Ai->Ai->Am.T Value->M ((Rho×Am.T Value)×List OpLog)}{Q:Value×FrameMode->St->Prop}(q:DrawEq f nt g P bef nice)(ht:skim 64 T=P)(hn:0<n)
 (h:W (nice E (Ac E (runF E (n-1))) (AS (runF E (n-1))) tm) (dSt s.mem s.next) λp s1=>Bz s.next p.2.reverse bef=true/\
  W (AK (Ac E (runF E (n-1))) (AS (runF E (n-1))) (A5 E g nt (hdC P)) p.1.1 p.1.2) ⟨s1.mem,s1.next,s.lim,rdsL s.lim p.2 s.rd,wrsL s.lim p.2 s.wr,s.cx⟩ λtm s1=>W (runF E (n-1) ⟨f,nt,g,tm,P.tail, .run,ki,ro⟩) s1 Q):W (runF E n ⟨f,nt,g,tm,T, .run,ki,ro⟩) s Q:=W.regD ht q.hd q.eq hn q.bef h
theorem DrawEq.u {E:Env}{n f nt g:Nat}{s:St}{tm:T Value}{T P:List Item}{ki:CallKind}{ro:Option Nat}{Q:Value×FrameMode->St->Prop}{bef:List Nat}{nice:Env->Ai->Ai->Am.T Value->M ((Rho×Am.T Value)×List OpLog)}(q:DrawEq f nt g P bef nice)(h:W (nice E (Ac E (runF E (n-1))) (AS (runF E (n-1))) tm) (dSt s.mem s.next) λp s1=>Bz s.next p.2.reverse bef=true/\W (AK (Ac E (runF E (n-1))) (AS (runF E (n-1))) (A5 E g nt (hdC P)) p.1.1 p.1.2) ⟨s1.mem,s1.next,s.lim,rdsL s.lim p.2 s.rd,wrsL s.lim p.2 s.wr,s.cx⟩ λtm s1=>W (runF E (n-1) ⟨f,nt,g,tm,P.tail, .run,ki,ro⟩) s1 Q)(ht:skim 64 T=P:=by rfl)(hn:0<n:=by omega):W (runF E n ⟨f,nt,g,tm,T, .run,ki,ro⟩) s Q:=q.w ht hn h
def mv {γ:Type}(x:Option Value)(K:Value->M γ):M γ:=M.bind (oS x λa=>M.pure a) K
end
section
variable {α β:Type}{s:St}
theorem AD {m:M α}{Q:α->St->Prop}{a:α}{s':St}(e:m s= .some a s'):W m s Q=Q a s':=propext ⟨λ⟨b,s1,e1,q⟩=>by rw[e]at e1;cases e1;exact q,λq=>⟨a,s',e,q⟩⟩
theorem LH (m:M α)(f:α->M β)(Q:β->St->Prop):W (M.bind m f) s Q=W m s λa s1=>W (f a) s1 Q:=propext ⟨λ⟨b,s2,e,q⟩=>by
 obtain⟨a,s1,e1,e2⟩:=bind_some e
 exact⟨a,s1,e1,b,s2,e2,q⟩,W.bind⟩
theorem AJ (a:α)(Q:α->St->Prop):W (M.pure a) s Q=Q a s:=AD rfl
theorem W_mv {γ:Type}(a:Value)(K:Value->M γ)(Q:γ->St->Prop):W (mv (some a) K) s Q=W (K a) s Q:=(LH _ _ _).trans (AJ a _)
theorem W_oS (a:α)(f:α->M β)(Q:β->St->Prop):W (oS (some a) f) s Q=W (f a) s Q:=propext Iff.rfl
theorem W_on (a:α)(f:α->M β)(Q:β->St->Prop):W (M.on (some a) f) s Q=W (f a) s Q:=propext Iff.rfl
theorem Dl (m:M α)(Q:α->St->Prop):W (M.chk true m) s Q=W m s Q:=propext Iff.rfl
theorem Ua_ (x y:M α)(Q:α->St->Prop):W (aO true x y) s Q=W x s Q:=propext Iff.rfl
theorem Cx (x y:M α)(Q:α->St->Prop):W (aO false x y) s Q=W y s Q:=propext Iff.rfl
theorem Uz_ {γ:Type}(d:Nat)(v:Value)(tm:T Value)(K:T Value->M γ)(Q:γ->St->Prop):W (setF d v tm K) s Q=W (K (T.set tm d v)) s Q:=by
 obtain⟨x,a,b,e⟩:=aS tm d v
 unfold setF
 rw[e]
theorem Ml {γ:Type}(d:Nat)(v:Value)(tm:T Value)(K:T Value->M γ)(Q:γ->St->Prop):W (setT d v tm K) s Q=W (K (T.set tm d v)) s Q:=by
 obtain⟨x,a,b,e⟩:=aS tm d v
 unfold setT
 rw[e]
theorem aB {E:Env}{n f nt g:Nat}{tm:T Value}{todo P:List Item}{ki:CallKind}{fn:Func}{rs:List Nat}{vs:List Value}{up:Option FrameMode}{Q:Value×FrameMode->St->Prop}(ht:skim 64 todo=P)(hP:(∃k,P= .code .ret::k)\/P=[])(hn:2<=n)
  (hf:E.fn.get f=some fn) (hr:fn.results.toList=rs.map .tmp) (hc:s.cx= .cx up (some [])) (hv:rs.map (Am.T.get tm)=vs.map some) (q:Q (tupV vs,up.getD .run) s):W (runF E n ⟨f,nt,g,tm,todo, .run,ki,none⟩) s Q:=by
 obtain⟨m,rfl⟩: ∃m,n=m+2:=⟨n-2,J⟩
 subst ht
 exact W.ret hP hf hr hv hc q
theorem A4 (b:Bool):isK (.bool b)=true:=rfl
theorem ED:isB (.bool true) true=true:=rfl
theorem CA:isB (.bool true) false=false:=rfl
theorem Dc:isB (.bool false) true=false:=rfl
theorem DU:isB (.bool false) false=true:=rfl
theorem A7:seqO []=some []:=rfl
theorem Bb (v:Value)(l:List (Option Value)):seqO (some v::l)=onO (seqO l) λl=>some (v::l):=rfl
theorem Lw:seqP []=some []:=rfl
theorem RU (k:Nat)(v:Value)(l:List (Nat×Option Value)):seqP ((k,some v)::l)=onO (seqP l) λl=>some ((k,v)::l):=rfl
theorem AX {γ:Type}(a:α)(K:α->Option γ):onO (some a) K=K a:=rfl
theorem B9 (c:Bool)(a b:Value)(Q:Value->St->Prop):W (Ay (.bool c) a b) s Q=Q (if c then a else b) s:=by
 refine AD ?_
 cases c<;>rfl
section
variable {E:Env}{t:Nat}{xo yo:Operand}{Q:Value->St->Prop}
theorem Ad (a b:Int):W (Cl.get (aBin E .add t xo yo) (.int .i64 a) (.int .i64 b)) s Q=Q (.int .i64 (wrap64 (a+b))) s:=AD (Axo_ _ a b)
theorem Ah (a b:Int):W (Cl.get (aBin E .sub t xo yo) (.int .i64 a) (.int .i64 b)) s Q=Q (.int .i64 (wrap64 (a-b))) s:=AD (Aiu_ _ a b)
theorem Ab (a b:Int):W (Cl.get (aBin E .lss t xo yo) (.int .i64 a) (.int .i64 b)) s Q=Q (.bool (decide (a<b))) s:=AD (AaG_ _ a b)
theorem Ae (a b:Int):W (Cl.get (aBin E .gtr t xo yo) (.int .i64 a) (.int .i64 b)) s Q=Q (.bool (decide (b<a))) s:=AD (Asv_ _ a b)
theorem Ak (a b:Int):W (Cl.get (aBin E .leq t xo yo) (.int .i64 a) (.int .i64 b)) s Q=Q (.bool (decide (a<=b))) s:=AD (AuZ_ _ a b)
theorem An (a b:Int):W (Cl.get (aBin E .geq t xo yo) (.int .i64 a) (.int .i64 b)) s Q=Q (.bool (decide (b<=a))) s:=AD (AtH_ _ a b)
theorem Al (a b:Int):W (Cl.get (aBin E .eql t xo yo) (.int .i64 a) (.int .i64 b)) s Q=Q (.bool (decide (a=b))) s:=AD (Aux_ _ a b)
theorem Ag (a b:Int):W (Cl.get (aBin E .neq t xo yo) (.int .i64 a) (.int .i64 b)) s Q=Q (.bool (!decide (a=b))) s:=AD (XE_ _ a b)
end
end
def tyS (E:Env)(t:Nat):Option (Nat×Bool):=match T.get E.ty t with|some i=>some (i.size,i.agg)|none=>none
def slN (E:Env)(t:Nat):Option Nat:=match T.get E.ty t with
 |some i=>(match i.u with| .slice e=>(match T.get E.ty e with|some ie=>some ie.size|none=>none)|_=>none)
 |none=>none
def arrN (E:Env)(t:Nat):Option (Nat×Nat):=match T.get E.ty t with
 |some i=>(match i.u with| .array n e=>(match T.get E.ty e with|some ie=>some (n,ie.size)|none=>none)|_=>none)
 |none=>none
def fldN (E:Env)(t f:Nat):Option (Nat×Nat×Bool):=match T.get E.ty t with
 |some i=>(match i.u with| .struct fs=>(match fs.toList[f]? with|some fd=>(match T.get E.ty fd.type with|some fi=>some (fd.offset,fi.size,fi.agg)|none=>none)|none=>none)|_=>none)
 |none=>none
def DZ (E:Env)(t:Nat):Option (List Value):=match T.get E.ty t with|some i=>some i.zero|none=>none
def intK (E:Env)(t:Nat):Option IntKind:=match T.get E.ty t with|some i=>(match i.u with| .int k=>some k|_=>none)|none=>none
def hasT (E:Env)(t:Nat):Bool:=(T.get E.ty t).isSome
section
variable {α β:Type}{s:St}{E:Env}{t:Nat}
theorem IZ {n:Nat}{g:Bool}(h:tyS E t=some (n,g)): ∃i,T.get E.ty t=some i/\i.size=n/\i.agg=g:=by
 unfold tyS at h
 split at h
 ·rename_i i e
  cases h
  exact⟨i,e,rfl,rfl⟩
 ·cases h
theorem FQ {n:Nat}(h:slN E t=some n): ∃i e ie,T.get E.ty t=some i/\i.u= .slice e/\T.get E.ty e=some ie/\ie.size=n:=by
 unfold slN at h
 split at h
 ·rename_i i e
  split at h
  ·rename_i e2 q
   split at h
   ·rename_i ie q2
    cases h
    exact⟨i,e2,ie,e,q,q2,rfl⟩
   ·cases h
  ·cases h
 ·cases h
theorem SC {n m:Nat}(h:arrN E t=some (n,m)): ∃i e ie,T.get E.ty t=some i/\i.u= .array n e/\T.get E.ty e=some ie/\ie.size=m:=by
 unfold arrN at h
 split at h
 ·rename_i i e
  split at h
  ·rename_i n2 e2 q
   split at h
   ·rename_i ie q2
    cases h
    exact⟨i,e2,ie,e,q,q2,rfl⟩
   ·cases h
  ·cases h
 ·cases h
theorem Ke_ {f off sz:Nat}{g:Bool}(h:fldN E t f=some (off,sz,g)): ∃i fs fd fi,T.get E.ty t=some i/\i.u= .struct fs/\fs.toList[f]?=some fd/\T.get E.ty fd.type=some fi/\fd.offset=off/\fi.size=sz/\fi.agg=g:=by
 unfold fldN at h
 split at h
 ·rename_i i e
  split at h
  ·rename_i fs q
   split at h
   ·rename_i fd q2
    split at h
    ·rename_i fi q3
     cases h
     exact⟨i,fs,fd,fi,e,q,q2,q3,rfl,rfl,rfl⟩
    ·cases h
   ·cases h
  ·cases h
 ·cases h
theorem W.ti {i:TI}{Q:TI->St->Prop}(h:T.get E.ty t=some i)(q:Q i s):W (ti E t) s Q:=W.ofOpt h q
theorem aA {b o:Nat}{v:Value}{Q:Value->St->Prop}(ht:tyS E t=some (1,false))(h:At s b o v)(q:Q v (s.rdN (b+o))):W (AE E t (.pointer (some ⟨b,o,none⟩))) s Q:=by
 obtain⟨i,h1,h2,h3⟩:=IZ ht
 refine W.bind (W.pure (W.bind (W.ti h1 ?_)))
 show W (aO i.agg _ _) s Q
 rw[h3]
 exact W.rdV h q
theorem aJ {b o n:Nat}{l:List Value}{Q:Value->St->Prop}(ht:tyS E t=some (n,true))(h:Row s b o l)(hl:l.length=n)
  (q: ∀s1,s1.mem=s.mem->s1.next=s.next->Ext (In b o n) Non s s1->Q (.agg l.toArray) s1):W (AE E t (.pointer (some ⟨b,o,none⟩))) s Q:=by
 obtain⟨i,h1,h2,h3⟩:=IZ ht
 subst hl
 refine W.bind (W.pure (W.bind (W.ti h1 ?_)))
 show W (aO i.agg (M.bind (Am.rdL i.size ⟨b,o,none⟩) λl=>M.pure (Value.agg l.toArray)) _) s Q
 rw[h3,h2]
 exact W.bind (W.rdL h λs1 e1 e2 e3=>W.pure (q s1 e1 e2 e3))
theorem P0 {v:Value}(h:oneCell v=true):cellsOf v=[v]:=by cases v<;>simp[oneCell]at h<;>rfl
theorem W.store {b o n:Nat}{g:Bool}{v:Value}{Q:Value->St->Prop}(ht:tyS E t=some (n,g))(hl:(cellsOf v).length=n)(h1:(cellsOf v).all oneCell=true)(h: ∀i,i<n-> ∃u,Own s b (o+i) u)
  (q: ∀s1,s1.next=s.next->Ext (In b o n) (In b o n) s s1->Aa s1 b o (cellsOf v)->Q undef s1):W (Ax E t (.pointer (some ⟨b,o,none⟩)) v) s Q:=by
 obtain⟨i,g1,g2,g3⟩:=IZ ht
 subst hl
 refine W.bind (W.pure (W.bind (W.bind (W.ti g1 (W.chk ?_ (W.wrL h h1 λs1 e1 e2 e3=>W.pure (q s1 e1 e2 e3)))))))
 rw[g2]
 exact Nat.beq_refl _
theorem aI {b o:Nat}{g:Bool}{u v:Value}{Q:Value->St->Prop}(ht:tyS E t=some (1,g))(hv:oneCell v=true)(h:Own s b o u)
  (q: ∀s1,s1.next=s.next->Ext (In b o 1) (In b o 1) s s1->Own s1 b o v->Q undef s1):W (Ax E t (.pointer (some ⟨b,o,none⟩)) v) s Q:=by
 refine W.store ht (by rw[P0 hv];rfl) (by rw[P0 hv];simp[hv]) (λi hi=>⟨u,by rw[show o+i=o by omega];exact h⟩) λs1 e1 e2 e3=>q s1 e1 e2 ?_
 have:=e3 0 v (by rw[P0 hv];rfl)
 exact this
theorem W.alloc {z:List Value}{Q:Value->St->Prop}(ht:DZ E t=some z)(q: ∀s1,s1.next=s.next+z.length+1->Ext Non Non s s1->Aa s1 s.next 0 z->Q (.pointer (some ⟨s.next,0,none⟩)) s1):W (A6 E t) s Q:=by
 unfold DZ at ht
 split at ht
 ·rename_i i e
  cases ht
  exact W.bind (W.ti e (W.bind (W.newL λs1 e1 e2 e3=>W.pure (q s1 e1 e2 e3))))
 ·cases ht
theorem W.box {v:Value}{Q:Value->St->Prop}(q: ∀s1,s1.next=s.next+(cellsOf v).length+1->Ext Non Non s s1->Aa s1 s.next 0 (cellsOf v)->Q (.pointer (some ⟨s.next,0,none⟩)) s1):W (kBox v) s Q:=
 W.bind (W.newL λs1 e1 e2 e3=>W.pure (q s1 e1 e2 e3))
theorem Af {f off sz b o:Nat}{g:Bool}(h:fldN E t f=some (off,sz,g))(h0:0<sz)(Q:Value->St->Prop):W (kFld E t (.pointer (some ⟨b,o,none⟩)) f) s Q=Q (.pointer (some ⟨b,o+off,none⟩)) s:=by
 obtain⟨i,fs,fd,fi,h1,h2,h3,h4,h5,h6,h7⟩:=Ke_ h
 subst h5;subst h6
 refine AD ?_
 unfold kFld
 rw[AM (show ti E t s= .some i s by unfold ti;rw[h1];rfl),AM (show asA (.pointer (some ⟨b,o,none⟩)) s= .some ⟨b,o,none⟩ s from rfl)]
 rw[AM (show Du E i.u f s= .some (fd.offset,fi,fd.type) s by unfold Du;rw[h2];simp only[h3];exact AM (show ti E fd.type s= .some fi s by unfold ti;rw[h4];rfl))]
 show M.chk (Nat.blt 0 fi.size) (ptrA (addA ⟨b,o,none⟩ fd.offset)) s=_
 rw[BT h0]
 show ptrA ⟨b,o+fd.offset,none⟩ s=_
 unfold ptrA
 rw[C1]
 rfl
theorem AdS_ {n:Nat}{ty:Nat}{g:Bool}{cs:List Value}{off:Nat}{v:Value}(h:tyS E ty=some (n,g))(hv:(g=false/\cs[off]?=some v)\/(g=true/\v= .agg ((cs.drop off).take n).toArray)):Ev E ty cs off s= .some v s:=by
 obtain⟨i,h1,h2,h3⟩:=IZ h
 subst h2;subst h3
 unfold Ev
 rw[AM (show ti E ty s= .some i s by unfold ti;rw[h1];rfl)]
 rcases hv with⟨e,hv⟩|⟨e,hv⟩
 ·rw[e]
  show M.ofOpt (cs[off]?) s=_
  rw[hv]
  rfl
 ·rw[e,hv]
  rfl
theorem PJ {f off sz:Nat}{g:Bool}{cs:Array Value}{v:Value}(h:fldN E t f=some (off,sz,g))(hv:(g=false/\cs.toList[off]?=some v)\/(g=true/\v= .agg ((cs.toList.drop off).take sz).toArray))(Q:Value->St->Prop):W (Dv E t (.agg cs) f) s Q=Q v s:=by
 obtain⟨i,fs,fd,fi,h1,h2,h3,h4,h5,h6,h7⟩:=Ke_ h
 subst h5
 refine AD ?_
 unfold Dv
 rw[AM (show ti E t s= .some i s by unfold ti;rw[h1];rfl),AM (show asCs (.agg cs) s= .some cs.toList s from rfl)]
 rw[AM (show Du E i.u f s= .some (fd.offset,fi,fd.type) s by unfold Du;rw[h2];simp only[h3];exact AM (show ti E fd.type s= .some fi s by unfold ti;rw[h4];rfl))]
 exact AdS_ (by unfold tyS;rw[h4];simp[h6,h7]) hv
theorem AO {sz b o n c k:Nat}{kd:IntKind}(h:slN E t=some sz)(hk:k<n)(Q:Value->St->Prop):W (BJ E t (.slice (some ⟨b,o,none⟩) n c) (.int kd (k:Nat))) s Q=Q (.pointer (some ⟨b,o+k*sz,none⟩)) s:=by
 obtain⟨i,e,ie,h1,h2,h3,h4⟩:=FQ h
 subst h4
 refine AD ?_
 unfold BJ
 rw[AM (show ti E t s= .some i s by unfold ti;rw[h1];rfl),AM (show asN (.int kd (k:Nat)) s= .some k s from rfl)]
 unfold idxN
 rw[h2]
 simp only
 rw[AM (show ti E e s= .some ie s by unfold ti;rw[h3];rfl)]
 rw[BT hk]
 show ptrA ⟨b,o+k*ie.size,none⟩ s=_
 unfold ptrA
 rw[C1]
 rfl
theorem Kz {n sz b o k:Nat}{kd:IntKind}(h:arrN E t=some (n,sz))(hk:k<n)(Q:Value->St->Prop):W (BJ E t (.pointer (some ⟨b,o,none⟩)) (.int kd (k:Nat))) s Q=Q (.pointer (some ⟨b,o+k*sz,none⟩)) s:=by
 obtain⟨i,e,ie,h1,h2,h3,h4⟩:=SC h
 subst h4
 refine AD ?_
 unfold BJ
 rw[AM (show ti E t s= .some i s by unfold ti;rw[h1];rfl),AM (show asN (.int kd (k:Nat)) s= .some k s from rfl)]
 unfold idxN
 rw[h2]
 simp only
 rw[AM (show ti E e s= .some ie s by unfold ti;rw[h3];rfl)]
 rw[BT hk]
 show ptrA ⟨b,o+k*ie.size,none⟩ s=_
 unfold ptrA
 rw[C1]
 rfl
theorem Ga (a:Addr)(Q:Value->St->Prop):W (kNil (.pointer (some a))) s Q=Q (.pointer (some a)) s:=AD rfl
theorem BC {sz n c:Nat}{p:Option Addr}(h:slN E t=some sz)(Q:Value->St->Prop):W (Bg E .len [t] [.slice p n c]) s Q=Q (.int .i64 (n:Nat)) s:=by
 obtain⟨i,e,ie,h1,h2,h3,h4⟩:=FQ h
 refine AD ?_
 show aLen E t (.slice p n c) s=_
 unfold aLen
 rw[AM (show ti E t s= .some i s by unfold ti;rw[h1];rfl)]
 rw[h2]
 show pN n s=_
 unfold pN
 rw[AB]
 rfl
theorem DA {d:Nat}{k k':IntKind}{n:Int}(h1:hasT E t=true)(h2:intK E d=some k')(Q:Value->St->Prop):W (Cy E t d (.int k n)) s Q=Q (.int k' (k'.wrap n)) s:=by
 refine AD ?_
 show FS E t d k n s=_
 unfold hasT at h1
 obtain⟨i,hi⟩:=Option.isSome_iff_exists.1 h1
 unfold intK at h2
 split at h2
 ·rename_i id hd
  split at h2
  ·rename_i k2 hu
   cases h2
   unfold FS
   rw[AM (show ti E t s= .some i s by unfold ti;rw[hi];rfl),AM (show ti E d s= .some id s by unfold ti;rw[hd];rfl)]
   simp only[hu]
   show fI (Jh k' n) (λn=>M.pure (Value.int k' n)) s=_
   rw[EB,ZG]
   rfl
  ·cases h2
 ·cases h2
theorem A3 {k:Nat}{vs:Array Value}{v:Value}(h:vs.toList[k]?=some v)(Q:Value->St->Prop):W (kExt k (.tuple vs)) s Q=Q v s:=AD (by show M.ofOpt (vs.toList[k]?) s=_;rw[h];rfl)
theorem Q8 {call round:Ai}{f:Nat}{l:List Value}(Q:Value->St->Prop):W (Ba call round (.func (.func f) #[] #[]) l) s Q=W (call f l) s Q:=by
 show W (call f ([]++(l++[]))) s Q=_
 rw[List.append_nil,List.nil_append]
theorem SS:type_of%(And.intro @LH (And.intro @W_oS (And.intro @W_on (And.intro @AJ (And.intro @W_mv (And.intro @Uz_ (And.intro @Ml (And.intro @T.get_set (And.intro @Bb (And.intro @A7 (And.intro @RU (And.intro @Lw (And.intro @AX (And.intro @Q8 (And.intro @A4 (And.intro @ED (And.intro @CA (And.intro @Dc (And.intro @DU (And.intro @Dl (And.intro @Ua_ (And.intro @Cx (And.intro @B9 (@Ga)))))))))))))))))))))))):=⟨@LH, @W_oS, @W_on, @AJ, @W_mv, @Uz_, @Ml, @T.get_set, @Bb, @A7, @RU, @Lw, @AX, @Q8, @A4, @ED, @CA, @Dc, @DU, @Dl, @Ua_, @Cx, @B9, @Ga⟩
theorem W.orc {ih:AF->M (Value×FrameMode)}{f:Nat}{m:List Value->M Value}{args:List Value}{Q:Value->St->Prop}(ho:E.orc.get f=some m)(h:W (m args) s Q):W (Ac E ih f args) s Q:=by
 unfold Ac
 rw[ho]
 exact h
end
section
variable {α β:Type}{s:St}{E:Env}{t:Nat}
abbrev u8 (n:Nat):Value:= .int .u8 (n:Int)
abbrev u8l (l:List Nat):List Value:=l.map λn:Nat=>Value.int .u8 (n:Int)
theorem AQ (l:List Nat):(u8l l).length=l.length:=am
def Bs (s:St)(v:Value)(l:List Nat):Prop:=
 (v= .slice none 0 0/\l=[])\/ ∃b o c,v= .slice (some ⟨b,o,none⟩) l.length c/\l.length<=c%capU/\Cc c 1=true/\Row s b o (u8l l)
def BsF (v:Value):Nat->Prop:=match v with
 | .slice (some ⟨b,o,_⟩) n _=>In b o n
 |_=>Non
theorem Bs.ext {F G:Nat->Prop}{s s':St}{v:Value}{l:List Nat}(h:Bs s v l)(e:Ext F G s s')(hG: ∀x,BsF v x-> ¬G x):Bs s' v l:=by
 rcases h with h|⟨b,o,c,rfl,h1,h2,h3⟩
 ·exact .inl h
 ·refine .inr ⟨b,o,c,rfl,h1,h2,h3.ext e λi hi=>hG _ ?_⟩
  rw[AQ]at hi
  exact⟨J,J⟩
theorem Bs.ext0 {F:Nat->Prop}{s s':St}{v:Value}{l:List Nat}(h:Bs s v l)(e:Ext F Non s s'):Bs s' v l:=h.ext e λ_ _=>id
theorem Bs.same {s s':St}{v:Value}{l:List Nat}(h:Bs s v l)(hm:s'.mem=s.mem)(hn:s'.next=s.next):Bs s' v l:=by
 rcases h with h|⟨b,o,c,h0,h1,h2,h3⟩
 ·exact .inl h
 ·exact .inr ⟨b,o,c,h0,h1,h2,λi v e=>(h3 i v e).same hm hn⟩
theorem Bs.sl {v:Value}{l:List Nat}(h:Bs s v l): ∃p c,v= .slice p l.length c:=by
 rcases h with⟨rfl,rfl⟩|⟨b,o,c,rfl,_⟩
 ·exact⟨_,_,rfl⟩
 ·exact⟨_,_,rfl⟩
theorem Bs.len {v:Value}{l:List Nat}{sz:Nat}(h:Bs s v l)(ht:slN E t=some sz)(Q:Value->St->Prop):W (Bg E .len [t] [v]) s Q=Q (.int .i64 (l.length:Nat)) s:=by
 obtain⟨p,c,rfl⟩:=h.sl
 exact BC ht Q
theorem Row.at {b o:Nat}{l:List Nat}(h:Row s b o (u8l l)){k x:Nat}(hk:l[k]?=some x):At s b (o+k) (u8 x):=h k _ (by rw[List.getElem?_map,hk];rfl)
theorem Row.take {b o n:Nat}{l:List Value}(h:Row s b o l):Row s b o (l.take n):=λi v e=>by
 rw[List.getElem?_take]at e
 split at e
 ·exact h i v e
 ·cases e
theorem Row.drop {b o n:Nat}{l:List Value}(h:Row s b o l):Row s b (o+n) (l.drop n):=λi v e=>by
 rw[List.getElem?_drop]at e
 have:=h _ v e
 rw[show o+n+i=o+(n+i) by omega]
 exact this
theorem Aa.drop {b o n:Nat}{l:List Value}(h:Aa s b o l):Aa s b (o+n) (l.drop n):=λi v e=>by
 rw[List.getElem?_drop]at e
 have:=h _ v e
 rw[show o+n+i=o+(n+i) by omega]
 exact this
def txt (l:List Nat):ByteArray:=⟨(l.map UInt8.ofNat).toArray⟩
theorem Wa: ∀(l:List Nat),GJ (u8l l)=some (l.map UInt8.ofNat)
 |[]=>rfl
 |n::l=>by
  show onO (some (UInt8.ofNat n)) (λb=>onO (GJ (u8l l)) λl=>some (b::l))=_
  rw[Wa l]
  rfl
def EE (E:Env)(t:Nat):Bool:=match T.get E.ty t with|some i=>(match i.u with| .string=>true|_=>false)|none=>false
def Lc (E:Env)(t:Nat):Bool:=match T.get E.ty t with
 |some i=>(match i.u with| .slice e=>(match T.get E.ty e with|some ie=>(match ie.u with| .int .u8=>true|_=>false)|none=>false)|_=>false)
 |none=>false
theorem W.str {d:Nat}{v:Value}{l:List Nat}{Q:Value->St->Prop}(h:Bs s v l)(hz:l≠[]\/ ∃b o c,v= .slice (some ⟨b,o,none⟩) l.length c)(h1:Lc E t=true)(h2:EE E d=true)
  (q: ∀s1,s1.mem=s.mem->s1.next=s.next->Ext (BsF v) Non s s1->Q (.string (txt l)) s1):W (Cy E t d v) s Q:=by
 have h': ∃b o c,v= .slice (some ⟨b,o,none⟩) l.length c/\Row s b o (u8l l):=by
  rcases h with⟨rfl,rfl⟩|⟨b,o,c,rfl,_,_,h3⟩
  ·rcases hz with hz|⟨b,o,c,hz⟩
   ·exact absurd rfl hz
   ·cases hz
  ·exact⟨b,o,c,rfl,h3⟩
 obtain⟨b,o,c,rfl,h3⟩:=h'
 unfold Lc at h1
 split at h1
 ·rename_i i hi
  split at h1
  ·rename_i e hu
   split at h1
   ·rename_i ie he
    split at h1
    ·rename_i hk
     unfold EE at h2
     split at h2
     ·rename_i id hd
      split at h2
      ·rename_i hs
       have conv: ∀s:St,Cy E t d (.slice (some ⟨b,o,none⟩) l.length c) s=strOf ⟨b,o,none⟩ l.length s:=λs=>by
        show Eu E t d ⟨b,o,none⟩ l.length c s=_
        unfold Eu
        rw[AM (show Am.ti E t s= .some i s by unfold Am.ti;rw[hi];rfl),AM (show Am.ti E d s= .some id s by unfold Am.ti;rw[hd];rfl)]
        simp only[hu,hs]
        show D6 E t d (.slice (some ⟨b,o,none⟩) l.length c) s=_
        show Gc E t d ⟨b,o,none⟩ l.length s=_
        unfold Gc
        rw[AM (show Am.ti E t s= .some i s by unfold Am.ti;rw[hi];rfl),AM (show Am.ti E d s= .some id s by unfold Am.ti;rw[hd];rfl)]
        simp only[hu,hs]
        rw[AM (show Am.ti E e s= .some ie s by unfold Am.ti;rw[he];rfl)]
        simp only[hk]
       refine W.cast (conv s) ?_
       have hl:l.length=(u8l l).length:=(AQ l).symm
       show W (M.bind (Am.rdL l.length ⟨b,o,none⟩) λx=>M.on (GJ x) λbs=>M.pure (.string ⟨bs.toArray⟩)) s Q
       rw[hl]
       refine W.bind (W.rdL h3 λs1 e1 e2 e3=>W.on (Wa l) (W.pure (q s1 e1 e2 ?_)))
       rw[AQ]at e3
       exact e3
      ·cases h2
     ·cases h2
    ·cases h1
   ·cases h1
  ·cases h1
 ·cases h1
theorem GH {P:Program}{u:TypeDesc}(h:P.underlying t=some u):semP P (underlying t)=some u:=by
 unfold underlying program
 show semP P ((match P.underlying t with|some d=>pure d|none=>_):Sem TypeDesc)=_
 rw[h]
 rfl
end
def appT (E:Env)(t t2:Nat):Option (Nat×Nat×Bool×List Value):=match T.get E.ty t,T.get E.ty t2 with
 |some i,some i2=>(match i.u with| .slice e=>(match T.get E.ty e with|some ie=>some (ie.size,ie.bytes,D1 i2.u,ie.zero)|none=>none)|_=>none)
 |_,_=>none
def elT (E:Env)(t:Nat):Option (Nat×Nat×List Value):=match T.get E.ty t with
 |some i=>(match i.u with| .slice e=>(match T.get E.ty e with|some ie=>some (ie.size,ie.bytes,ie.zero)|none=>none)|_=>none)
 |none=>none
section
variable {α β:Type}{s:St}{E:Env}{t t2:Nat}
theorem Ii {sz by':Nat}{g:Bool}{z:List Value}(h:appT E t t2=some (sz,by',g,z)): ∃i i2 e ie,T.get E.ty t=some i/\T.get E.ty t2=some i2/\i.u= .slice e/\T.get E.ty e=some ie/\ie.size=sz/\ie.bytes=by'/\D1 i2.u=g/\ie.zero=z:=by
 unfold appT at h
 split at h
 ·rename_i i i2 h1 h2
  split at h
  ·rename_i e hu
   split at h
   ·rename_i ie he
    cases h
    exact⟨i,i2,e,ie,h1,h2,hu,he,rfl,rfl,rfl,rfl⟩
   ·cases h
  ·cases h
 ·cases h
theorem Sh {sz by':Nat}{z:List Value}(h:elT E t=some (sz,by',z)): ∃i e ie,T.get E.ty t=some i/\i.u= .slice e/\T.get E.ty e=some ie/\ie.size=sz/\ie.bytes=by'/\ie.zero=z:=by
 unfold elT at h
 split at h
 ·rename_i i h1
  split at h
  ·rename_i e hu
   split at h
   ·rename_i ie he
    cases h
    exact⟨i,e,ie,h1,hu,he,rfl,rfl,rfl⟩
   ·cases h
  ·cases h
 ·cases h
def Src (s:St)(sz:Nat)(x:Value)(n:Nat)(l:List Value)(F:Nat->Prop):Prop:=
 (∃p c,x= .slice p n c)/\ ∃s1,srcL sz x n s= .some l s1/\s1.mem=s.mem/\s1.next=s.next/\Ext F Non s s1
theorem D0 {b o n c sz:Nat}{l:List Value}(h:Row s b o l)(hl:l.length=n*sz):Src s sz (.slice (some ⟨b,o,none⟩) n c) n l (In b o (n*sz)):=by
 refine⟨⟨_,_,rfl⟩, ?_⟩
 obtain⟨a,s1,e,rfl,h1,h2,h3⟩:=W.rdL (Q:=λa s1=>a=l/\s1.mem=s.mem/\s1.next=s.next/\Ext (λx=>b+o<=x/\x<b+o+l.length) Non s s1) h λs1 e1 e2 e3=>⟨rfl,e1,e2,e3⟩
 refine⟨s1, ?_,h1,h2, ?_⟩
 ·show rdL (n*sz) ⟨b,o,none⟩ s=_
  rw[<-hl]
  exact e
 ·rw[hl]at h3
  exact h3
theorem Ng {sz:Nat}:Src s sz (.slice none 0 0) 0 [] Non:=⟨⟨_,_,rfl⟩,s,rfl,rfl,rfl,Ext.refl s⟩
def SrcG (s:St)(sz by':Nat)(g:Bool)(z:List Value)(x:Value)(n:Nat)(l:List Value)(F:Nat->Prop):Prop:=
 ∀ie:TI,ie.size=sz->ie.bytes=by'->ie.zero=z->(∀s':St,appN g ie.bytes x s'= .some n s')/\ ∃s1,appL g ie x n s= .some l s1/\s1.mem=s.mem/\s1.next=s.next/\Ext F Non s s1
theorem Src.g {sz by' n:Nat}{z l:List Value}{x:Value}{F:Nat->Prop}(h:Src s sz x n l F):SrcG s sz by' false z x n l F:=λie h1 _ _=>by
 obtain⟨⟨p,c,rfl⟩,s1,e,m1,n1,x1⟩:=h
 subst h1
 exact⟨λ_=>rfl,s1,e,m1,n1,x1⟩
theorem ApU_ {sz by' n:Nat}{z:List Value}(h:n*(by'+1)<=16777216):SrcG s sz by' true z (.int .i64 (n:Nat)) n (rep n z) Non:=λie _ h2 h3=>by
 subst h2;subst h3
 refine⟨λs'=> ?_,s,rfl,rfl,rfl,Ext.refl s⟩
 show M.chk (Nat.ble (n*(ie.bytes+1)) 16777216) (M.pure n) s'=_
 rw[Nat.ble_eq_true_of_le h]
 rfl
theorem W.appIn {sz by' len n b o c:Nat}{z l:List Value}{x:Value}{F:Nat->Prop}{Q:Value->St->Prop}{g:Bool}(ht:appT E t t2=some (sz,by',g,z))(hx:SrcG s sz by' g z x n l F)(hr:len+n<=c%capU)(hl:l.length=n*sz)(h1:l.all oneCell=true)
  (own: ∀i,i<n*sz-> ∃u,Own s b (o+len*sz+i) u)
  (q: ∀s2,s2.next=s.next->Ext (λx=>F x\/In b (o+len*sz) (n*sz) x) (In b (o+len*sz) (n*sz)) s s2->Aa s2 b (o+len*sz) l->Q (.slice (some ⟨b,o,none⟩) (len+n) c) s2):W (CK E t t2 (.slice (some ⟨b,o,none⟩) len c) x) s Q:=by
 obtain⟨i,i2,e,ie,g1,g2,g3,g4,g5,g6,g7,g8⟩:=Ii ht
 obtain⟨hN,s1,e1,m1,n1,x1⟩:=hx ie g5 g6 g8
 subst g5
 refine W.bind (W.ti g1 (W.bind (W.ti g2 ?_)))
 rw[g3,g7]
 refine W.bind (W.ti g4 (W.bind (W.of (hN s) (W.bind ?_))))
 refine W.of e1 ?_
 show W (aO (Nat.ble (Nat.add len n) (Nat.mod c capU)) _ _) s1 Q
 rw[show Nat.ble (Nat.add len n) (Nat.mod c capU)=true from Nat.ble_eq_true_of_le hr]
 have own1: ∀i,i<l.length-> ∃u,Own s1 b (o+len*ie.size+i) u:=λi hi=>by
  obtain⟨u,hu⟩:=own i (by rw[<-hl];exact hi)
  exact⟨u,hu.same m1 n1⟩
 refine W.bind (m:=Am.wrL l (addA ⟨b,o,none⟩ (Nat.mul len ie.size))) (W.wrL own1 h1 λs2 n2 x2 r2=> ?_)
 show W (Am.fA (⟨b,o,none⟩:Addr) λa=>Am.fN (Nat.add len n) λl=>Am.fN c λc=>M.pure (.slice (some a) l c)) s2 Q
 refine W.fA (W.fN (W.fN (W.pure (q s2 (n2.trans n1) ?_ r2))))
 rw[hl]at x2
 obtain⟨d1,p1,p2⟩:=x1.rd
 obtain⟨d2,p3,p4⟩:=x2.rd
 obtain⟨d3,p5,p6⟩:=x1.wr
 obtain⟨d4,p7,p8⟩:=x2.wr
 refine⟨Nat.le_of_eq (n2.trans n1).symm,x2.lim.trans x1.lim,x2.cx.trans x1.cx,λy q1 q2=>by rw[x2.mem y (by rw[n1];exact q1) q2,m1],⟨d2++d1,by rw[p3,p1,List.append_assoc],λy hy=> ?_⟩,⟨d4++d3,by rw[p7,p5,List.append_assoc],λy hy=> ?_⟩⟩
 ·rcases List.mem_append.1 hy with hy|hy
  ·have:=p4 y hy
   rw[x1.lim]at this
   exact⟨this.1, .inr this.2⟩
  ·exact⟨(p2 y hy).1, .inl (p2 y hy).2⟩
 ·rcases List.mem_append.1 hy with hy|hy
  ·have:=p8 y hy
   rw[x1.lim]at this
   exact this
  ·exact(p6 y hy).2.elim
structure Fresh1 (s s':St)(sz n:Nat)(l:List Value)(v:Value)(b:Nat):Prop where
 val:v= .slice (some ⟨b,0,none⟩) n (capU*((b+n*sz)*1024+sz)+n)
 new:s.next<=b
 own:Aa s' b 0 l
 len:l.length=n*sz
 tok: ∃q,q%1024=sz/\T.get s'.mem (b+n*sz)=some (.O (.tok false q))
 lt:b+n*sz<s'.next
theorem W.appNilT (hbd:s.lim<=s.next){sz by' n:Nat}{z l:List Value}{x:Value}{F:Nat->Prop}{Q:Value->St->Prop}{g:Bool}(ht:appT E t t2=some (sz,by',g,z))(hx:SrcG s sz by' g z x n l F)(hn:0<n)(hs0:0<sz)(hs1:sz<1024)(hb:n*(by'+1)<=16777216)(hl:l.length=n*sz)(h1:l.all oneCell=true)
  (q: ∀s2 v b,Fresh1 s s2 sz n l v b->T.get s2.mem (b+n*sz)=some (.O (.tok false (flg sz 1 (DL z))))->Ext F Non s s2->Q v s2):W (CK E t t2 (.slice none 0 0) x) s Q:=by
 obtain⟨i,i2,e,ie,g1,g2,g3,g4,g5,g6,g7,g8⟩:=Ii ht
 obtain⟨hN,s1,e1,m1,n1,x1⟩:=hx ie g5 g6 g8
 subst g5;subst g6
 refine W.bind (W.ti g1 (W.bind (W.ti g2 ?_)))
 rw[g3,g7]
 refine W.bind (W.ti g4 (W.bind (W.of (hN s) (W.bind ?_))))
 refine W.of e1 ?_
 show W (aO (Nat.ble (Nat.add 0 n) (Nat.mod 0 capU)) _ _) s1 Q
 have hz:Nat.ble (Nat.add 0 n) (Nat.mod 0 capU)=false:=by
  cases hq:Nat.ble (Nat.add 0 n) (Nat.mod 0 capU)with
  |false=>rfl
  |true=>
   have h2:=Nat.le_of_ble_eq_true hq
   have h3:Nat.mod 0 capU=0:=Nat.zero_mod _
   rw[h3]at h2
   have h4:Nat.add 0 n=n:=Nat.zero_add n
   rw[h4]at h2
   omega
 rw[hz]
 show W (grow ie.size ie.bytes (DL ie.zero) none 0 0 n l) s1 Q
 rw[g8]
 unfold grow
 refine W.chk ?_ (W.bind (W.pure (W.bind ?_)))
 ·rw[h1,hl,Nat.zero_add]
  simp only[Bool.and_true,Bool.and_eq_true,Bool.or_eq_true]
  refine⟨⟨⟨⟨Nat.ble_eq_true_of_le hb,BT hs0⟩,BT hs1⟩, .inr rfl⟩,Nat.beq_refl _⟩
 ·show W (DK ie.size none (Nat.mod 0 capU) (Nat.div 0 capU)) s1 _
  have hd:Nat.div 0 capU=0:=Nat.zero_div _
  rw[hd]
  show W (M.pure 1) s1 _
  refine W.pure (W.bind (W.newL λs2 n2 x2 r2=>W.fN (W.fN (W.bind (W.wrC ?_ ?_)))))
  ·rw[n2,n1]
   simp only[Nat.add_eq,Nat.mul_eq,Nat.zero_mul,List.take_zero,List.nil_append,hl,Nat.zero_add]
   omega
  ·show W (Am.fA (⟨s1.next,0,none⟩:Addr) λa=>Am.fN (Nat.add 0 n) λl=>Am.fN _ λc=>M.pure (.slice (some a) l c)) _ Q
   have hlen:([].take (Nat.mul 0 ie.size)++l:List Value)=l:=am
   rw[hlen]at n2 r2
   have hadd:Nat.add 0 n=n:=Nat.zero_add n
   have htok: ∀c:Cell,T.get (T.set s2.mem (Nat.add s1.next (Nat.mul (Nat.add 0 n) ie.size)) c) (s1.next+n*ie.size)=some c:=λc=>by
    rw[hadd,T.get_set]
    exact if_pos rfl
   refine W.fA (W.fN (W.fN (W.pure (q _ _ s1.next ⟨?_,Nat.le_of_eq n1.symm, ?_,hl,⟨_,IC hs1,htok _⟩, ?_⟩ (htok _) ?_))))
   ·rw[hadd]
    rfl
   ·intro k v hk
    have hk':=(List.getElem?_eq_some_iff.1 hk).1
    have:=r2 k v hk
    refine⟨this.1, ?_⟩
    show T.get (T.set s2.mem _ _) _=_
    rw[T.get_set,if_neg]
    ·exact this.2
    ·rw[hadd]
     show s1.next+(0+k)≠s1.next+n*ie.size
     omega
   ·show s1.next+n*ie.size<s2.next
    rw[n2,hl]
    omega
   ·obtain⟨d1,p1,p2⟩:=x1.rd
    obtain⟨d2,p3,p4⟩:=x2.rd
    obtain⟨d3,p5,p6⟩:=x1.wr
    obtain⟨d4,p7,p8⟩:=x2.wr
    obtain⟨d5,p9,p10⟩:=Hj (Nat.add s1.next (Nat.mul (Nat.add 0 n) ie.size)) s2.lim s2.wr
    refine⟨?_,x2.lim.trans x1.lim,x2.cx.trans x1.cx,λy q1 q2=> ?_,⟨d2++d1, ?_, ?_⟩,⟨[], ?_,λ_ h=>by cases h⟩⟩
    ·show s.next<=s2.next
     rw[n2,n1];omega
    ·show T.get (T.set s2.mem _ _) y=_
     rw[T.get_set,if_neg,x2.mem y (by rw[n1];exact q1) id,m1]
     rw[hadd]
     show y≠s1.next+n*ie.size
     rw[n1];omega
    ·show s2.rd=_
     rw[p3,p1,List.append_assoc]
    ·intro y hy
     rcases List.mem_append.1 hy with hy|hy
     ·exact(p4 y hy).2.elim
     ·exact p2 y hy
    ·show notes _ s2.lim s2.wr=s.wr
     have e1:s2.wr=s.wr:=by
      have h5:d3=[]:=by
       cases d3 with
       |nil=>rfl
       |cons y l=>exact(p6 y am).2.elim
      have h7:d4=[]:=by
       cases d4 with
       |nil=>rfl
       |cons y l=>exact(p8 y am).2.elim
      rw[p7,p5,h5,h7];rfl
     unfold notes
     rw[Gn,e1]
     show s2.lim<=s1.next+Nat.mul (Nat.add 0 n) ie.size
     rw[x2.lim,x1.lim,n1]
     omega
theorem W.appNil (hbd:s.lim<=s.next){sz by' n:Nat}{z l:List Value}{x:Value}{F:Nat->Prop}{Q:Value->St->Prop}{g:Bool}(ht:appT E t t2=some (sz,by',g,z))(hx:SrcG s sz by' g z x n l F)(hn:0<n)(hs0:0<sz)(hs1:sz<1024)(hb:n*(by'+1)<=16777216)(hl:l.length=n*sz)(h1:l.all oneCell=true)
 (q: ∀s2 v b,Fresh1 s s2 sz n l v b->Ext F Non s s2->Q v s2):W (CK E t t2 (.slice none 0 0) x) s Q:=W.appNilT hbd ht hx hn hs0 hs1 hb hl h1 λs2 v b f _ x=>q s2 v b f x
theorem W.appEmpT (hbd:s.lim<=s.next){sz by' n b0 o0:Nat}{z l:List Value}{x:Value}{F:Nat->Prop}{Q:Value->St->Prop}{g:Bool}(ht:appT E t t2=some (sz,by',g,z))(hx:SrcG s sz by' g z x n l F)(hn:0<n)(hs0:0<sz)(hs1:sz<1024)(hb:n*(by'+1)<=16777216)(hl:l.length=n*sz)(h1:l.all oneCell=true)
  (q: ∀s2 v b,Fresh1 s s2 sz n l v b->T.get s2.mem (b+n*sz)=some (.O (.tok false (flg sz 1 (DL z))))->Ext F Non s s2->Q v s2):W (CK E t t2 (.slice (some ⟨b0,o0,none⟩) 0 0) x) s Q:=by
 obtain⟨i,i2,e,ie,g1,g2,g3,g4,g5,g6,g7,g8⟩:=Ii ht
 obtain⟨hN,s1,e1,m1,n1,x1⟩:=hx ie g5 g6 g8
 subst g5;subst g6
 refine W.bind (W.ti g1 (W.bind (W.ti g2 ?_)))
 rw[g3,g7]
 refine W.bind (W.ti g4 (W.bind (W.of (hN s) (W.bind ?_))))
 refine W.of e1 ?_
 show W (aO (Nat.ble (Nat.add 0 n) (Nat.mod 0 capU)) _ _) s1 Q
 have hz:Nat.ble (Nat.add 0 n) (Nat.mod 0 capU)=false:=by
  cases hq:Nat.ble (Nat.add 0 n) (Nat.mod 0 capU)with
  |false=>rfl
  |true=>
   have h2:=Nat.le_of_ble_eq_true hq
   have h3:Nat.mod 0 capU=0:=Nat.zero_mod _
   rw[h3]at h2
   have h4:Nat.add 0 n=n:=Nat.zero_add n
   rw[h4]at h2
   omega
 rw[hz]
 show W (grow ie.size ie.bytes (DL ie.zero) (some ⟨b0,o0,none⟩) 0 0 n l) s1 Q
 rw[g8]
 unfold grow
 have hold:oldL ie.size (some ⟨b0,o0,none⟩) (Bool.rec (motive:=λ_=>Nat) (Nat.mod 0 capU) 0 (Nat.beq (Nat.div 0 capU) 0)) s1= .some [] s1:=by
  have hd:Nat.div 0 capU=0:=Nat.zero_div _
  rw[hd]
  show Am.rdL (0*ie.size) ⟨b0,o0,none⟩ s1=_
  rw[Nat.zero_mul]
  rfl
 refine W.chk ?_ (W.bind (W.of hold (W.bind ?_)))
 ·rw[h1,hl,Nat.zero_add]
  simp only[Bool.and_true,Bool.and_eq_true,Bool.or_eq_true]
  refine⟨⟨⟨⟨Nat.ble_eq_true_of_le hb,BT hs0⟩,BT hs1⟩, .inr rfl⟩,Nat.beq_refl _⟩
 ·show W (DK ie.size (some ⟨b0,o0,none⟩) (Nat.mod 0 capU) (Nat.div 0 capU)) s1 _
  have hd:Nat.div 0 capU=0:=Nat.zero_div _
  rw[hd]
  show W (M.pure 1) s1 _
  refine W.pure (W.bind (W.newL λs2 n2 x2 r2=>W.fN (W.fN (W.bind (W.wrC ?_ ?_)))))
  ·rw[n2,n1]
   simp only[Nat.add_eq,Nat.mul_eq,Nat.zero_mul,List.take_zero,List.nil_append,hl,Nat.zero_add]
   omega
  ·show W (Am.fA (⟨s1.next,0,none⟩:Addr) λa=>Am.fN (Nat.add 0 n) λl=>Am.fN _ λc=>M.pure (.slice (some a) l c)) _ Q
   have hlen:([].take (Nat.mul 0 ie.size)++l:List Value)=l:=am
   rw[hlen]at n2 r2
   have hadd:Nat.add 0 n=n:=Nat.zero_add n
   have htok: ∀c:Cell,T.get (T.set s2.mem (Nat.add s1.next (Nat.mul (Nat.add 0 n) ie.size)) c) (s1.next+n*ie.size)=some c:=λc=>by
    rw[hadd,T.get_set]
    exact if_pos rfl
   refine W.fA (W.fN (W.fN (W.pure (q _ _ s1.next ⟨?_,Nat.le_of_eq n1.symm, ?_,hl,⟨_,IC hs1,htok _⟩, ?_⟩ (htok _) ?_))))
   ·rw[hadd]
    rfl
   ·intro k v hk
    have hk':=(List.getElem?_eq_some_iff.1 hk).1
    have:=r2 k v hk
    refine⟨this.1, ?_⟩
    show T.get (T.set s2.mem _ _) _=_
    rw[T.get_set,if_neg]
    ·exact this.2
    ·rw[hadd]
     show s1.next+(0+k)≠s1.next+n*ie.size
     omega
   ·show s1.next+n*ie.size<s2.next
    rw[n2,hl]
    omega
   ·obtain⟨d1,p1,p2⟩:=x1.rd
    obtain⟨d2,p3,p4⟩:=x2.rd
    obtain⟨d3,p5,p6⟩:=x1.wr
    obtain⟨d4,p7,p8⟩:=x2.wr
    obtain⟨d5,p9,p10⟩:=Hj (Nat.add s1.next (Nat.mul (Nat.add 0 n) ie.size)) s2.lim s2.wr
    refine⟨?_,x2.lim.trans x1.lim,x2.cx.trans x1.cx,λy q1 q2=> ?_,⟨d2++d1, ?_, ?_⟩,⟨[], ?_,λ_ h=>by cases h⟩⟩
    ·show s.next<=s2.next
     rw[n2,n1];omega
    ·show T.get (T.set s2.mem _ _) y=_
     rw[T.get_set,if_neg,x2.mem y (by rw[n1];exact q1) id,m1]
     rw[hadd]
     show y≠s1.next+n*ie.size
     rw[n1];omega
    ·show s2.rd=_
     rw[p3,p1,List.append_assoc]
    ·intro y hy
     rcases List.mem_append.1 hy with hy|hy
     ·exact(p4 y hy).2.elim
     ·exact p2 y hy
    ·show notes _ s2.lim s2.wr=s.wr
     have e1:s2.wr=s.wr:=by
      have h5:d3=[]:=by
       cases d3 with
       |nil=>rfl
       |cons y l=>exact(p6 y am).2.elim
      have h7:d4=[]:=by
       cases d4 with
       |nil=>rfl
       |cons y l=>exact(p8 y am).2.elim
      rw[p7,p5,h5,h7];rfl
     unfold notes
     rw[Gn,e1]
     show s2.lim<=s1.next+Nat.mul (Nat.add 0 n) ie.size
     rw[x2.lim,x1.lim,n1]
     omega
theorem W.appEmp (hbd:s.lim<=s.next){sz by' n b0 o0:Nat}{z l:List Value}{x:Value}{F:Nat->Prop}{Q:Value->St->Prop}{g:Bool}(ht:appT E t t2=some (sz,by',g,z))(hx:SrcG s sz by' g z x n l F)(hn:0<n)(hs0:0<sz)(hs1:sz<1024)(hb:n*(by'+1)<=16777216)(hl:l.length=n*sz)(h1:l.all oneCell=true)
 (q: ∀s2 v b,Fresh1 s s2 sz n l v b->Ext F Non s s2->Q v s2):W (CK E t t2 (.slice (some ⟨b0,o0,none⟩) 0 0) x) s Q:=W.appEmpT hbd ht hx hn hs0 hs1 hb hl h1 λs2 v b f _ x=>q s2 v b f x
end
def bndV (o:Option Value)(d:Nat):Option Nat:=match o with
 |none=>some d
 |some (.int _ (.ofNat n))=>some n
 |_=>none
section
variable {α β:Type}{s:St}{E:Env}{t t2:Nat}
theorem Fc {o:Option Value}{top d n:Nat}(h:bndV o d=some n)(ht:n<=top):bnd o top d s= .some n s:=by
 unfold bndV at h
 split at h
 ·cases h;rfl
 ·cases h
  show M.chk (Nat.ble n top) (M.pure n) s=_
  rw[Nat.ble_eq_true_of_le ht]
  rfl
 ·cases h
theorem FL {sz len c b o l h:Nat}{lo hi:Option Value}(ht:slN E t=some sz)(hlo:bndV lo 0=some l)(hhi:bndV hi len=some h)(hl:l<=h)(hc:h<=c%capU)(hs:Cc c sz=true)(Q:Value->St->Prop):
  W (Be E t (.slice (some ⟨b,o,none⟩) len c) lo hi) s Q=Q (.slice (some ⟨b,if l<c%capU then o+l*sz else o,none⟩) (h-l) (c-l)) s:=by
 obtain⟨i,e,ie,h1,h2,h3,h4⟩:=FQ ht
 subst h4
 refine AD ?_
 unfold Be
 rw[AM (show ti E t s= .some i s by unfold ti;rw[h1];rfl)]
 simp only[h2]
 rw[AM (show ti E e s= .some ie s by unfold ti;rw[h3];rfl)]
 unfold slSl
 show M.bind (bnd hi (c%capU) len) _ s=_
 rw[AM (Fc hhi hc),AM (Fc hlo hl),hs]
 show pSl _ _ _ s=_
 unfold pSl
 rw[C1,AB,AB]
 show R.some _ s=_
 by_cases hq:l<c%capU
 ·rw[if_pos hq,show Nat.blt l (Nat.mod c capU)=true from BT hq]
  rfl
 ·rw[if_neg hq,show Nat.blt l (Nat.mod c capU)=false from Gn (Nat.le_of_not_lt hq)]
  rfl
theorem Hm {n sz b o l h:Nat}{lo hi:Option Value}(ht:arrN E t=some (n,sz))(hn:n<capU)(hlo:bndV lo 0=some l)(hhi:bndV hi n=some h)(hl:l<=h)(hc:h<=n)(Q:Value->St->Prop):
  W (Be E t (.pointer (some ⟨b,o,none⟩)) lo hi) s Q=Q (.slice (some ⟨b,if n=l then o else o+l*sz,none⟩) (h-l) (n-l)) s:=by
 obtain⟨i,e,ie,h1,h2,h3,h4⟩:=SC ht
 subst h4
 refine AD ?_
 unfold Be
 rw[AM (show ti E t s= .some i s by unfold ti;rw[h1];rfl)]
 simp only[h2]
 rw[AM (show ti E e s= .some ie s by unfold ti;rw[h3];rfl)]
 unfold F3
 rw[BT hn]
 show M.bind (bnd hi n n) _ s=_
 rw[AM (Fc hhi hc),AM (Fc hlo hl)]
 unfold pSl
 rw[C1,AB,AB]
 show R.some _ s=_
 by_cases hq:n=l
 ·rw[if_pos hq,show Nat.beq n l=true by rw[hq];exact Nat.beq_refl l]
  rfl
 ·rw[if_neg hq,show Nat.beq n l=false by
   cases e:Nat.beq n l with
   |false=>rfl
   |true=>exact absurd (Nat.eq_of_beq_eq_true e) hq]
  rfl
theorem Xy_ {c l sz:Nat}(h:l<=c%capU)(hs:Cc c sz=true):Cc (c-l) sz=true:=by
 unfold Cc at *
 show Bool.rec (motive:=λ_=>Bool) (Nat.beq (Nat.mod ((c-l)/capU) 1024) sz) true (Nat.beq ((c-l)/capU) 0)=true
 rw[(LP h).1]
 exact hs
theorem ER {c sz:Nat}(h:c<capU):Cc c sz=true:=by
 unfold Cc
 show Bool.rec (motive:=λ_=>Bool) (Nat.beq (Nat.mod (c/capU) 1024) sz) true (Nat.beq (c/capU) 0)=true
 rw[Nat.div_eq_of_lt h]
 rfl
theorem Bs.sub' {b o c i j:Nat}{l:List Nat}(hij:i<=j)(hj:j<=l.length)(h1:l.length<=c%capU)(h2:Cc c 1=true)(h3:Row s b o (u8l l)):
  ∃o',(.slice (some ⟨b,if i<c%capU then o+i*1 else o,none⟩) (j-i) (c-i):Value)= .slice (some ⟨b,o',none⟩) ((l.take j).drop i).length (c-i)/\((l.take j).drop i).length<=(c-i)%capU/\Cc (c-i) 1=true/\Row s b o' (u8l ((l.take j).drop i))/\(o'=o+i\/((l.take j).drop i).length=0):=by
 have hlen:((l.take j).drop i).length=j-i:=by rw[List.length_drop,List.length_take];omega
 refine⟨_,by rw[hlen], ?_,Xy_ J h2, ?_, ?_⟩
 ·rw[hlen,(LP J).2]
  omega
 ·by_cases hq:i<c%capU
  ·rw[if_pos hq,Nat.mul_one]
   have:=(h3.take (n:=j)).drop (n:=i)
   rw[<-List.map_take,<-List.map_drop]at this
   exact this
  ·have h0:(l.take j).drop i=[]:=List.eq_nil_of_length_eq_zero (by rw[hlen];omega)
   rw[h0]
   intro k v e
   simp at e
 ·by_cases hq:i<c%capU
  ·left;rw[if_pos hq,Nat.mul_one]
  ·right;rw[hlen];omega
theorem aM (hbd:s.lim<=s.next){sz by' len:Nat}{z r:List Value}{ps:List (Nat×Value)}{Q:Value->St->Prop}(ht:elT E t=some (sz,by',z))(h1:len*sz<=16777216)(hr:DY (λk=>some (k*sz,sz)) ps (rep len z)=some r)(h2:len<capU)
  (q: ∀s2,s2.next=s.next+r.length+1->Ext Non Non s s2->Aa s2 s.next 0 r->Q (.slice (some ⟨s.next,0,none⟩) len len) s2):W (BS E t len ps) s Q:=by
 obtain⟨i,e,ie,g1,g2,g3,g4,g5,g6⟩:=Sh ht
 subst g4;subst g6
 refine W.bind (W.ti g1 ?_)
 rw[g2]
 refine W.bind (W.ti g3 (W.chk ?_ (W.bind (W.ofOpt hr (W.bind (W.newL λs2 n2 x2 r2=>W.bind (W.wrC ?_ (W.pure (q _ n2 ?_ ?_)))))))))
 ·rw[Bool.and_eq_true]
  exact⟨Nat.ble_eq_true_of_le h1,BT h2⟩
 ·show s.next+r.length<s2.next
  omega
 ·obtain⟨d2,p3,p4⟩:=x2.rd
  obtain⟨d4,p7,p8⟩:=x2.wr
  refine⟨x2.nxt,x2.lim,x2.cx,λy q1 q2=> ?_,⟨d2,p3,p4⟩,⟨d4, ?_,p8⟩⟩
  ·show T.get (T.set s2.mem _ _) y=_
   rw[T.get_set,if_neg,x2.mem y q1 q2]
   show y≠s.next+r.length
   omega
  ·show notes _ s2.lim s2.wr=_
   unfold notes
   rw[Gn]
   ·exact p7
   ·show s2.lim<=s.next+r.length
    rw[x2.lim];omega
 ·intro k v hk
  have hk':=(List.getElem?_eq_some_iff.1 hk).1
  have:=r2 k v hk
  refine⟨this.1, ?_⟩
  show T.get (T.set s2.mem _ _) _=_
  rw[T.get_set,if_neg]
  ·exact this.2
  ·show s.next+(0+k)≠s.next+r.length
   omega
theorem W.mkSl {sz by' l c:Nat}{k1 k2:IntKind}{z:List Value}{Q:Value->St->Prop}(ht:elT E t=some (sz,by',z))(h1:l<=c)(h2:c*(by'+1)<=16777216)
  (q: ∀s2,s2.next=s.next+(rep c z).length+1->Ext Non Non s s2->Aa s2 s.next 0 (rep c z)->Q (.slice (some ⟨s.next,0,none⟩) l c) s2):W (EY E t (.int k1 (l:Nat)) (.int k2 (c:Nat))) s Q:=by
 obtain⟨i,e,ie,g1,g2,g3,g4,g5,g6⟩:=Sh ht
 subst g5;subst g6
 refine W.bind (W.ti g1 (W.bind (W.pure (W.bind (W.pure ?_)))))
 unfold Am.mkSl
 rw[g2]
 refine W.bind (W.ti g3 (W.chk ?_ (W.bind (W.newL λs2 n2 x2 r2=>W.pure (q _ n2 x2 r2)))))
 rw[Bool.and_eq_true]
 exact⟨Nat.ble_eq_true_of_le h1,Nat.ble_eq_true_of_le h2⟩
theorem W.copy {sz by' b o n c m k:Nat}{z l:List Value}{p:Option Addr}{c2:Nat}{F:Nat->Prop}{Q:Value->St->Prop}(ht:elT E t=some (sz,by',z))(hk:k=Nat.min n m)
  (hx: ∃s1,srcL sz (.slice p m c2) k s= .some l s1/\s1.mem=s.mem/\s1.next=s.next/\Ext F Non s s1) (hl:l.length=k*sz) (h1:l.all oneCell=true) (own: ∀i,i<k*sz-> ∃u,Own s b (o+i) u)
  (q: ∀s2,s2.next=s.next->Ext (λx=>F x\/In b o (k*sz) x) (In b o (k*sz)) s s2->Aa s2 b o l->Q (.int .i64 (k:Nat)) s2):W (Bg E .copy [t,t2] [.slice (some ⟨b,o,none⟩) n c, .slice p m c2]) s Q:=by
 obtain⟨i,e,ie,g1,g2,g3,g4,g5,g6⟩:=Sh ht
 obtain⟨s1,e1,m1,n1,x1⟩:=hx
 subst g4
 show W (Gm E t (some ⟨b,o,none⟩) n (.slice p m c2)) s Q
 refine W.bind (W.ti g1 ?_)
 rw[g2]
 refine W.bind (W.ti g3 (W.bind (W.pure ?_)))
 refine W.fN ?_
 rw[<-hk]
 refine W.bind (W.of e1 ?_)
 have own1: ∀i,i<l.length-> ∃u,Own s1 b (o+i) u:=λi hi=>by
  obtain⟨u,hu⟩:=own i (by rw[<-hl];exact hi)
  exact⟨u,hu.same m1 n1⟩
 refine W.bind (m:=Am.wrL l ⟨b,o,none⟩) (W.wrL own1 h1 λs2 n2 x2 r2=> ?_)
 show W (Am.fN k λn=>M.pure (.int .i64 (.ofNat n))) s2 Q
 refine W.fN (W.pure (q s2 (n2.trans n1) ?_ r2))
 rw[hl]at x2
 obtain⟨d1,p1,p2⟩:=x1.rd
 obtain⟨d2,p3,p4⟩:=x2.rd
 obtain⟨d3,p5,p6⟩:=x1.wr
 obtain⟨d4,p7,p8⟩:=x2.wr
 refine⟨Nat.le_of_eq (n2.trans n1).symm,x2.lim.trans x1.lim,x2.cx.trans x1.cx,λy q1 q2=>by rw[x2.mem y (by rw[n1];exact q1) q2,m1],⟨d2++d1,by rw[p3,p1,List.append_assoc],λy hy=> ?_⟩,⟨d4++d3,by rw[p7,p5,List.append_assoc],λy hy=> ?_⟩⟩
 ·rcases List.mem_append.1 hy with hy|hy
  ·have:=p4 y hy
   rw[x1.lim]at this
   exact⟨this.1, .inr this.2⟩
  ·exact⟨(p2 y hy).1, .inl (p2 y hy).2⟩
 ·rcases List.mem_append.1 hy with hy|hy
  ·have:=p8 y hy
   rw[x1.lim]at this
   exact this
  ·exact(p6 y hy).2.elim
theorem AdK_ {sz:Nat}{lo hi:Option Value}(ht:slN E t=some sz)(hlo:bndV lo 0=some 0)(hhi:bndV hi 0=some 0)(Q:Value->St->Prop):W (Be E t (.slice none 0 0) lo hi) s Q=Q (.slice none 0 0) s:=by
 obtain⟨i,e,ie,h1,h2,h3,h4⟩:=FQ ht
 refine AD ?_
 unfold Be
 rw[AM (show ti E t s= .some i s by unfold ti;rw[h1];rfl)]
 simp only[h2]
 rw[AM (show ti E e s= .some ie s by unfold ti;rw[h3];rfl),AM (Fc hhi (Nat.le_refl 0)),AM (Fc hlo (Nat.le_refl 0))]
 rfl
theorem Hv {q N:Nat}(h:N<capU):(capU*q+N)%capU=N:=(enc (q:=q) h).2
theorem Gs {m sz N:Nat}(h:N<capU)(h1:sz<1024):Cc (capU*(m*1024+sz)+N) sz=true:=by
 unfold Cc
 show Bool.rec (motive:=λ_=>Bool) (Nat.beq (Nat.mod ((capU*(m*1024+sz)+N)/capU) 1024) sz) true (Nat.beq ((capU*(m*1024+sz)+N)/capU) 0)=true
 rw[(enc h).1]
 have:Nat.mod (m*1024+sz) 1024=sz:=by show(m*1024+sz)%1024=sz;omega
 rw[this,Nat.beq_refl]
 cases Nat.beq (m*1024+sz) 0<;>rfl
theorem CD {v x:Value}(Q:Value->St->Prop):W (Bg E .append [t,t2] [v,x]) s Q=W (CK E t t2 v x) s Q:=propext Iff.rfl
theorem Ext.step {F F' G':Nat->Prop}{s s1 s2:St}(h:Ext F Non s s1)(k:Ext F' G' s1 s2)(hb:s.lim<=s.next)(hF: ∀l,l<s.lim->F' l->F l)(hG: ∀l,G' l->s.next<=l):Ext F Non s s2:=
 h.trans k hb hF λl hl hg=>absurd (hG l hg) (Nat.not_le_of_lt hl)
theorem Aa.append {b o:Nat}{l l':List Value}(h:Aa s b o l)(k:Aa s b (o+l.length) l'):Aa s b o (l++l'):=λi v e=>by
 by_cases hi:i<l.length
 ·rw[List.getElem?_append_left hi]at e
  exact h i v e
 ·rw[List.getElem?_append_right J]at e
  have:=k _ v e
  rw[show o+l.length+(i-l.length)=o+i by omega]at this
  exact this
def C4 (s:St)(b o n:Nat):Prop:= ∀j,j<n-> ∃u,Own s b (o+j) u
theorem Aa.owned {b o:Nat}{l:List Value}(h:Aa s b o l):C4 s b o l.length:=λj hj=>⟨l[j],h j _ (List.getElem?_eq_getElem hj)⟩
theorem C4.ext {F:Nat->Prop}{b o n a:Nat}{l:List Value}{s2:St}(h:C4 s b o n)(e:Ext F (In b a l.length) s s2)(k:Aa s2 b a l):C4 s2 b o n:=λj hj=>by
 by_cases hq:In b a l.length (b+(o+j))
 ·obtain⟨h1,h2⟩:=hq
  have hi:o+j-a<l.length:=J
  refine⟨l[o+j-a], ?_⟩
  have:=k (o+j-a) (l[o+j-a]) (List.getElem?_eq_getElem hi)
  rw[show a+(o+j-a)=o+j by omega]at this
  exact this
 ·obtain⟨u,hu⟩:=h j hj
  exact⟨u,hu.ext e hq⟩
theorem Bs.src {v:Value}{l:List Nat}(h:Bs s v l):Src s 1 v l.length (u8l l) (BsF v):=by
 rcases h with⟨rfl,rfl⟩|⟨b,o,c,rfl,_,_,h3⟩
 ·exact Ng
 ·have:=D0 (s:=s) (sz:=1) (n:=l.length) (c:=c) h3 (by rw[AQ,Nat.mul_one])
  rw[Nat.mul_one]at this
  exact this
theorem CG (l:List Nat):(u8l l).all oneCell=true:=by
 rw[List.all_eq_true]
 intro x hx
 obtain⟨n,_,rfl⟩:=List.mem_map.1 hx
 rfl
theorem AgL_ (k kk:IntKind)(m n:Nat)(hn:n<=btOf k)(xo yo:Operand):Cl.get (aBin E .shr t xo yo) (.int k (m:Nat)) (.int kk (n:Nat)) s= .some (.int k (m>>>n:Nat)) s:=by
 show int3 shrK (AP E .shr t xo yo) (.int k (.ofNat m)) (.int kk (.ofNat n)) s=_
 show Option.rec (motive:=λ_=>R Value) _ (λv=> .some v s) (shrK k kk m n)=_
 have:shrK k kk m n=some (.int k (m>>>n:Nat)):=by
  unfold shrK
  rw[Nat.ble_eq_true_of_le hn]
  show mkI k (Nat.shiftRight m n)=_
  unfold mkI
  rw[AB]
  rfl
 rw[this]
theorem E4 {k kk:IntKind}{m n:Nat}{xo yo:Operand}(hn:n<=btOf k)(Q:Value->St->Prop):W (Cl.get (aBin E .shr t xo yo) (.int k (m:Nat)) (.int kk (n:Nat))) s Q=Q (.int k (m>>>n:Nat)) s:=AD (AgL_ k kk m n hn xo yo)
theorem TW {k kk:IntKind}{m:Nat}{xo yo:Operand}(hn:8<=btOf k)(Q:Value->St->Prop):W (Cl.get (aBin E .shr t xo yo) (.int k (m:Nat)) (.int kk 8)) s Q=Q (.int k (m>>>8:Nat)) s:=E4 (n:=8) hn Q
theorem Wk {k kk:IntKind}{m:Nat}{xo yo:Operand}(hn:16<=btOf k)(Q:Value->St->Prop):W (Cl.get (aBin E .shr t xo yo) (.int k (m:Nat)) (.int kk 16)) s Q=Q (.int k (m>>>16:Nat)) s:=E4 (n:=16) hn Q
theorem Fg_ {k kk:IntKind}{m:Nat}{xo yo:Operand}(hn:24<=btOf k)(Q:Value->St->Prop):W (Cl.get (aBin E .shr t xo yo) (.int k (m:Nat)) (.int kk 24)) s Q=Q (.int k (m>>>24:Nat)) s:=E4 (n:=24) hn Q
theorem wrap_u8 (n:Nat):IntKind.u8.wrap (n:Int)=((n%256:Nat):Int):=by
 have e:IntKind.u8.wrap (n:Int)=(n:Int)%256:=by unfold IntKind.wrap;simp[IntKind.bits,IntKind.signed]
 rw[e]
 omega
theorem Aa.bn {b:Nat}{l:List Nat}(h:Aa s b 0 (u8l l))(hl:l.length<capU):Bs s (.slice (some ⟨b,0,none⟩) l.length l.length) l:=
 .inr ⟨b,0,l.length,rfl,by rw[Nat.mod_eq_of_lt hl];exact Nat.le_refl _,ER hl,h.row⟩
theorem AA {γ:Type}(a:α)(f:α->M γ):oS (some a) f=f a:=rfl
theorem BH {γ:Type}(a:α)(f:α->M γ):M.on (some a) f=f a:=rfl
theorem AhL_ {m:M α}{v:α}(h: ∀(s:St) (Q:α->St->Prop),W m s Q=Q v s)(s:St):m s= .some v s:=by
 have:W m s λa s'=>a=v/\s'=s:=by rw[h];exact⟨rfl,rfl⟩
 obtain⟨a,s',e,rfl,rfl⟩:=this
 exact e
theorem W_dq {γ:Type}{m:M α}{v:α}{f:α×OpLog->M γ}{mem:T Cell}{next:Nat}{Q:γ->St->Prop}(h: ∀(s:St) (Q:α->St->Prop),W m s Q=Q v s):W (M.bind (apartO m) f) (dSt mem next) Q=W (f (v,⟨next,next,[],[]⟩)) (dSt mem next) Q:=by
 rw[LH]
 refine AD ?_
 show Am.apartO m ⟨mem,next,0,[],[], .no⟩=_
 unfold Am.apartO
 have e:=AhL_ h ⟨mem,next,next,[],[], .no⟩
 simp only[e]
 rfl
theorem Aw {γ:Type}(v:α)(f:α×OpLog->M γ)(mem:T Cell)(next:Nat)(Q:γ->St->Prop):W (M.bind (apartO (M.pure v)) f) (dSt mem next) Q=W (f (v,⟨next,next,[],[]⟩)) (dSt mem next) Q:=W_dq λ_ _=>AJ _ _
theorem aD {γ:Type}{b o:Nat}{v:Value}{f:Value×OpLog->M γ}{mem:T Cell}{next:Nat}{Q:γ->St->Prop}(ht:tyS E t=some (1,false))(h:At (dSt mem next) b o v)
  (k: ∀rd:List Nat,(∀x∈rd,x=b+o)->W (f (v,⟨next,next,rd,[]⟩)) (dSt mem next) Q):W (M.bind (apartO (AE E t (.pointer (some ⟨b,o,none⟩)))) f) (dSt mem next) Q:=by
 refine aU (aA ht (h.same rfl rfl) ⟨λx=>x=b+o,Ext.rdN _ _ λ_=>rfl,λrd hr=>k rd λx hx=>(hr x hx).2⟩)
theorem CX {n0:Nat}{l:List OpLog}{bef:List Nat}(hl:l.length<=bef.length)(h: ∀m∈l,m.wr=[]/\m.lo=m.hi):Bz n0 l bef=true:=
 DH_ hl (λk m b e1 _=>⟨(h m (List.mem_of_getElem? e1)).1,λi a _ e3=> .inr λx _ _ hx=>by have:=(h a (List.mem_of_getElem? e3)).2;omega⟩) λm hm=>(h m hm).1
theorem neqU (k:IntKind)(hk:Ec k=false)(m n:Nat)(xo yo:Operand):Cl.get (aBin E .neq t xo yo) (.int k (m:Nat)) (.int k (n:Nat)) s= .some (.bool (!decide (m=n))) s:=by
 show int2 _ (int3 (cmpK λm n=> !Nat.beq m n) (AP E .neq t xo yo)) (.int k (.ofNat m)) (.int k (.ofNat n)) s=_
 unfold int2
 simp only[CJ,hk]
 show Option.rec (motive:=λ_=>R Value) _ (λv=> .some v s) (cmpK (λm n=> !Nat.beq m n) k k m n)=_
 have:cmpK (λm n=> !Nat.beq m n) k k m n=some (.bool (!decide (m=n))):=by
  unfold cmpK BO
  rw[Nat.beq_refl]
  show mkB (!Nat.beq m n)=_
  by_cases h:m=n
  ·rw[h,Nat.beq_refl];simp;rfl
  ·have:Nat.beq m n=false:=by
    cases e:Nat.beq m n with
    |false=>rfl
    |true=>exact absurd (Nat.eq_of_beq_eq_true e) h
   rw[this];simp[h];rfl
 rw[this]
theorem AlW_ {m n:Nat}{xo yo:Operand}(Q:Value->St->Prop):W (Cl.get (aBin E .neq t xo yo) (.int .u8 (m:Nat)) (.int .u8 (n:Nat))) s Q=Q (.bool (!decide (m=n))) s:=AD (neqU .u8 rfl m n xo yo)
theorem Agm_ {sz n b o c:Nat}{xo yo:Operand}(h:slN E t=some sz):Cl.get (aBin E .eql t xo yo) (.slice (some ⟨b,o,none⟩) n c) (.slice none 0 0) s= .some (.bool false) s:=by
 obtain⟨i,e,ie,h1,h2,h3,h4⟩:=FQ h
 show EV E .eql t (.slice (some ⟨b,o,none⟩) n c) (.slice none 0 0) s=_
 unfold EV
 rw[AM (show ti E t s= .some i s by unfold ti;rw[h1];rfl),h2]
 rfl
theorem AfP_ {sz n b o c:Nat}{xo yo:Operand}(h:slN E t=some sz)(Q:Value->St->Prop):W (Cl.get (aBin E .eql t xo yo) (.slice (some ⟨b,o,none⟩) n c) (.slice none 0 0)) s Q=Q (.bool false) s:=AD (Agm_ h)
theorem CI (b:Bool)(P:Program)(Q:Value->St->Prop):W (kUn P .not (.bool b)) s Q=Q (.bool (!b)) s:=AD (by show rB (!b) s=_;exact FI _ _)
def ptrT (E:Env)(t:Nat):Bool:=match T.get E.ty t with|some i=>(match i.u with| .pointer _=>true|_=>false)|none=>false
theorem Aeu_ {a:Addr}{xo yo:Operand}(h:ptrT E t=true):Cl.get (aBin E .eql t xo yo) (.pointer (some a)) (.pointer none) s= .some (.bool false) s:=by
 unfold ptrT at h
 split at h
 ·rename_i i hi
  split at h
  ·rename_i e hu
   show EV E .eql t (.pointer (some a)) (.pointer none) s=_
   unfold EV
   rw[AM (show ti E t s= .some i s by unfold ti;rw[hi];rfl),hu]
   rfl
  ·cases h
 ·cases h
theorem Ki {a:Addr}{xo yo:Operand}(h:ptrT E t=true)(Q:Value->St->Prop):W (Cl.get (aBin E .eql t xo yo) (.pointer (some a)) (.pointer none)) s Q=Q (.bool false) s:=AD (Aeu_ h)
theorem AiI_ (m n:Nat)(hn:1<=n)(xo yo:Operand):Cl.get (aBin E .rem t xo yo) (.int .i64 (m:Nat)) (.int .i64 (n:Nat)) s= .some (.int .i64 (m%n:Nat)) s:=by
 show int3 remK (AP E .rem t xo yo) (.int .i64 (.ofNat m)) (.int .i64 (.ofNat n)) s=_
 show Option.rec (motive:=λ_=>R Value) _ (λv=> .some v s) (remK .i64 .i64 m n)=_
 have:remK .i64 .i64 m n=some (.int .i64 (m%n:Nat)):=by
  unfold remK BO
  rw[Nat.beq_refl,Nat.ble_eq_true_of_le hn]
  show mkI .i64 (Nat.mod m n)=_
  unfold mkI
  rw[AB]
  rfl
 rw[this]
theorem IT {m n:Nat}{xo yo:Operand}(hn:1<=n)(Q:Value->St->Prop):W (Cl.get (aBin E .rem t xo yo) (.int .i64 (m:Nat)) (.int .i64 (n:Nat))) s Q=Q (.int .i64 (m%n:Nat)) s:=AD (AiI_ m n hn xo yo)
theorem aZ {γ:Type}{b o n:Nat}{l:List Value}{f:Value×OpLog->M γ}{mem:T Cell}{next:Nat}{Q:γ->St->Prop}(ht:tyS E t=some (n,true))(h:Row (dSt mem next) b o l)(hl:l.length=n)
  (k: ∀(mem1:T Cell) (rd:List Nat),mem1=mem->(∀x∈rd,In b o n x)->W (f (.agg l.toArray,⟨next,next,rd,[]⟩)) (dSt mem1 next) Q):W (M.bind (apartO (AE E t (.pointer (some ⟨b,o,none⟩)))) f) (dSt mem next) Q:=by
 refine aU (aJ ht (λi v e=>(h i v e).same rfl rfl) hl λs1 m1 n1 x1=>⟨In b o n,x1,λrd hr=> ?_⟩)
 rw[show s1.next=next from n1]
 exact k s1.mem rd m1 λx hx=>(hr x hx).2
theorem A0 {n:Nat}(h:n<=1073741824):n<capU:=by unfold capU;omega
theorem XL {sz:Nat}(h:slN E t=some sz)(Q:Value->St->Prop):W (Bg E .cap [t] [.slice none 0 0]) s Q=Q (.int .i64 ((0:Nat):Int)) s:=by
 obtain⟨i,e,ie,h1,h2,h3,h4⟩:=FQ h
 refine AD ?_
 show aCap E t (.slice none 0 0) s=_
 unfold aCap
 rw[AM (show ti E t s= .some i s by unfold ti;rw[h1];rfl)]
 simp only[h2]
 rw[BT Ks]
 rfl
end
section
variable {E:Env}{s:St}{t:Nat}
theorem W.endC {n f nt g r:Nat}{tm:T Value}{todo P:List Item}{ki:CallKind}{fn:Func}{a:Addr}{up:Option FrameMode}{Q:Value×FrameMode->St->Prop}(ht:skim 64 todo=P)(hP:(∃k,P= .code .ret::k)\/P=[])(hn:2<=n)
  (hf:E.fn.get f=some fn) (hr:fn.results.toList=[.cell r t]) (hc:s.cx= .cx up (some [])) (hv:Am.T.get tm r=some (.pointer (some a))) (q:W (AE E t (.pointer (some a))) s λv s1=>Q (v,up.getD .run) s1):W (runF E n ⟨f,nt,g,tm,todo, .run,ki,none⟩) s Q:=by
 obtain⟨m,rfl⟩: ∃m,n=m+2:=⟨n-2,J⟩
 subst ht
 have h1:W (runF E (m+1) ⟨f,nt,g,tm,skim 64 todo, .returning,ki,none⟩) s Q:=by
  refine W.run ?_
  show W (Dw E (Co E (runF E m)) ⟨f,nt,g,tm,skim 64 todo, .returning,ki,none⟩) s _
  refine W.bind (W.of (a:=s.cx) (s':=s) (by obtain⟨mem,next,lim,rd,wr,cx⟩:=s;rfl) ?_)
  rw[hc]
  show W (outF E ⟨f,nt,g,tm,skim 64 todo, .returning,ki,none⟩ up) s _
  refine W.on hf (W.bind ?_)
  show W (M.bind (resL E tm fn.results.toList) λl=>M.pure (tupV l)) s _
  rw[hr]
  refine W.bind ?_
  show W (M.bind (M.on (Am.T.get tm r) λa=>M.bind (asA a) λa=>Es E t a) λv=>M.bind (M.pure []) λl=>M.pure (v::l)) s _
  rw[hv]
  refine W.bind ?_
  show W (AE E t (.pointer (some a))) s _
  refine q.mono λv s1 q=> ?_
  exact W.bind (W.pure (W.pure (W.pure (W.pure (W.pure q)))))
 rcases hP with⟨k,ht⟩|ht
 ·refine W.code ht ?_
  rw[ht]at h1
  exact W.pure h1
 ·refine W.run ?_
  show W (noP (Fd E (Ac E (runF E (m+1))) (AS (runF E (m+1))) ⟨f,nt,g,tm,skim 64 todo, .run,ki,none⟩ (skim 64 todo))) s _
  rw[ht]at h1 ⊢
  exact W.np (W.pure h1)
def C5 (E:Env)(t:Nat)(ps:List (Nat×Value)):Option (List Value):=
 match T.get E.ty t with
 |some i=>(match i.u with
  | .struct fs=>DY (Il E fs) ps i.zero
  | .array _ e=>(match T.get E.ty e with
   |some ie=>DY (λk=>some (k*ie.size,ie.size)) ps i.zero
   |none=>none)
  |_=>none)
 |none=>none
theorem Ci {ps:List (Nat×Value)}{r:List Value}(h:C5 E t ps=some r)(Q:Value->St->Prop):W (Br E t ps) s Q=Q (.agg r.toArray) s:=by
 unfold C5 at h
 split at h
 ·rename_i i hi
  split at h
  ·rename_i fs hu
   refine AD ?_
   unfold Br
   rw[AM (show ti E t s= .some i s by unfold ti;rw[hi];rfl)]
   rw[hu]
   simp only[h]
   rfl
  ·rename_i e hu
   split at h
   ·rename_i ie he
    refine AD ?_
    unfold Br
    rw[AM (show ti E t s= .some i s by unfold ti;rw[hi];rfl)]
    rw[hu]
    simp only
    rw[AM (show ti E _ s= .some ie s by unfold ti;rw[he];rfl),h]
    rfl
   ·cases h
  ·cases h
 ·cases h
end
section
variable {E:Env}{s:St}{t:Nat}
theorem Axi_ (m n:Nat)(hn:m*n<=9223372036854775807)(xo yo:Operand):Cl.get (aBin E .mul t xo yo) (.int .i64 (m:Nat)) (.int .i64 (n:Nat)) s= .some (.int .i64 (m*n:Nat)) s:=by
 show int3 mulK (AP E .mul t xo yo) (.int .i64 (.ofNat m)) (.int .i64 (.ofNat n)) s=_
 show Option.rec (motive:=λ_=>R Value) _ (λv=> .some v s) (mulK .i64 .i64 m n)=_
 have:mulK .i64 .i64 m n=some (.int .i64 (m*n:Nat)):=by
  unfold mulK BO fitI
  rw[Nat.beq_refl]
  show(Bool.rec (motive:=λ_=>Option Value) _ (mkI .i64 (m*n)) (Nat.ble (m*n) (mxOf .i64)):Option Value)=_
  rw[Nat.ble_eq_true_of_le (show m*n<=mxOf .i64 from hn)]
  show mkI .i64 (m*n)=_
  unfold mkI
  rw[AB]
  rfl
 rw[this]
theorem K8 {m n:Nat}{xo yo:Operand}(hn:m*n<=9223372036854775807)(Q:Value->St->Prop):W (Cl.get (aBin E .mul t xo yo) (.int .i64 (m:Nat)) (.int .i64 (n:Nat))) s Q=Q (.int .i64 (m*n:Nat)) s:=AD (Axi_ m n hn xo yo)
end
section
variable {E:Env}{s:St}{t:Nat}
theorem aN {tm:T Value}{Q:List Value->St->Prop}(q:Q [] s):W (resL E tm []) s Q:=W.pure q
theorem W.resTmp {tm:T Value}{r:Nat}{v:Value}{rs:List ResultVar}{Q:List Value->St->Prop}(h:Am.T.get tm r=some v)(q:W (resL E tm rs) s λl s1=>Q (v::l) s1):W (resL E tm (.tmp r::rs)) s Q:=by
 show W (M.bind (M.ofOpt (Am.T.get tm r)) λv=>M.bind (resL E tm rs) λl=>M.pure (v::l)) s Q
 rw[h]
 exact W.bind (W.pure (W.bind (q.mono λl s1 q=>W.pure q)))
theorem W.resCell {tm:T Value}{r:Nat}{a:Addr}{rs:List ResultVar}{Q:List Value->St->Prop}(h:Am.T.get tm r=some (.pointer (some a)))(q:W (AE E t (.pointer (some a))) s λv s1=>W (resL E tm rs) s1 λl s2=>Q (v::l) s2):W (resL E tm (.cell r t::rs)) s Q:=by
 show W (M.bind (M.on (Am.T.get tm r) λa=>M.bind (asA a) λa=>Es E t a) λv=>M.bind (resL E tm rs) λl=>M.pure (v::l)) s Q
 rw[h]
 refine W.bind ?_
 show W (AE E t (.pointer (some a))) s _
 exact q.mono λv s1 q=>W.bind (q.mono λl s2 q=>W.pure q)
theorem aT {n f nt g:Nat}{tm:T Value}{todo P:List Item}{ki:CallKind}{fn:Func}{rs:List ResultVar}{up:Option FrameMode}{Q:Value×FrameMode->St->Prop}(ht:skim 64 todo=P)(hP:(∃k,P= .code .ret::k)\/P=[])(hn:2<=n)
  (hf:E.fn.get f=some fn) (hr:fn.results.toList=rs) (hc:s.cx= .cx up (some [])) (q:W (resL E tm rs) s λl s1=>Q (tupV l,up.getD .run) s1):W (runF E n ⟨f,nt,g,tm,todo, .run,ki,none⟩) s Q:=by
 obtain⟨m,rfl⟩: ∃m,n=m+2:=⟨n-2,J⟩
 subst ht
 have h1:W (runF E (m+1) ⟨f,nt,g,tm,skim 64 todo, .returning,ki,none⟩) s Q:=by
  refine W.run ?_
  show W (Dw E (Co E (runF E m)) ⟨f,nt,g,tm,skim 64 todo, .returning,ki,none⟩) s _
  refine W.bind (W.of (a:=s.cx) (s':=s) (by obtain⟨mem,next,lim,rd,wr,cx⟩:=s;rfl) ?_)
  rw[hc]
  show W (outF E ⟨f,nt,g,tm,skim 64 todo, .returning,ki,none⟩ up) s _
  refine W.on hf (W.bind ?_)
  show W (M.bind (resL E tm fn.results.toList) λl=>M.pure (tupV l)) s _
  rw[hr]
  exact W.bind (q.mono λl s1 q=>W.pure (W.pure (W.pure q)))
 rcases hP with⟨k,ht⟩|ht
 ·refine W.code ht ?_
  rw[ht]at h1
  exact W.pure h1
 ·refine W.run ?_
  show W (noP (Fd E (Ac E (runF E (m+1))) (AS (runF E (m+1))) ⟨f,nt,g,tm,skim 64 todo, .run,ki,none⟩ (skim 64 todo))) s _
  rw[ht]at h1 ⊢
  exact W.np (W.pure h1)
end
section
variable {E:Env}{s:St}{t:Nat}
def Obj (s:St)(l:Nat)(o:AObj):Prop:=l<s.next/\T.get s.mem l=some (.O o)
end
def lD {γ:Type}(E:Env)(t:Nat)(x:Option Value)(k:Value->M γ):M γ:=M.bind (oS x λa=>AE E t a) k
def LD {γ:Type}(E:Env)(t:Nat)(x:Option Value)(k:Value×OpLog->M γ):M γ:=M.bind (apartO (oS x λa=>AE E t a)) k
def fD {γ:Type}(E:Env)(t i:Nat)(x:Option Value)(k:Value->M γ):M γ:=M.bind (oS x λa=>kFld E t a i) k
def FD {γ:Type}(E:Env)(t i:Nat)(x:Option Value)(k:Value×OpLog->M γ):M γ:=M.bind (apartO (oS x λa=>kFld E t a i)) k
def eX {γ:Type}(i:Nat)(x:Option Value)(k:Value->M γ):M γ:=M.bind (oS x λa=>kExt i a) k
def EX {γ:Type}(i:Nat)(x:Option Value)(k:Value×OpLog->M γ):M γ:=M.bind (apartO (oS x λa=>kExt i a)) k
def vB {γ:Type}(E:Env)(t i:Nat)(x:Option Value)(k:Value->M γ):M γ:=M.bind (oS x λa=>Cy E t i a) k
def VB {γ:Type}(E:Env)(t i:Nat)(x:Option Value)(k:Value×OpLog->M γ):M γ:=M.bind (apartO (oS x λa=>Cy E t i a)) k
def iD {γ:Type}(E:Env)(t:Nat)(x y:Option Value)(k:Value->M γ):M γ:=M.bind (oS x λa=>oS y λb=>BJ E t a b) k
def ID {γ:Type}(E:Env)(t:Nat)(x y:Option Value)(k:Value×OpLog->M γ):M γ:=M.bind (apartO (oS x λa=>oS y λb=>BJ E t a b)) k
def bI {γ:Type}(E:Env)(o:BinOp)(t:Nat)(p q:Operand)(x y:Option Value)(k:Value->M γ):M γ:=M.bind (oS x λa=>oS y λb=>Cl.get (aBin E o t p q) a b) k
def BI {γ:Type}(E:Env)(o:BinOp)(t:Nat)(p q:Operand)(x y:Option Value)(k:Value×OpLog->M γ):M γ:=M.bind (apartO (oS x λa=>oS y λb=>Cl.get (aBin E o t p q) a b)) k
def lN {γ:Type}(E:Env)(b:Builtin)(ts:List Nat)(l:List (Option Value))(k:Value->M γ):M γ:=M.bind (oS (seqO l) λl=>Bg E b ts l) k
def LN {γ:Type}(E:Env)(b:Builtin)(ts:List Nat)(l:List (Option Value))(k:Value×OpLog->M γ):M γ:=M.bind (apartO (oS (seqO l) λl=>Bg E b ts l)) k
def cN {γ:Type}(call round:Ai)(n:Nat)(l:List (Option Value))(k:Value->M γ):M γ:=M.bind (M.on (some (.func (.func n) #[] #[])) λf=>M.on (seqO l) λl=>Ba call round f l) k
def CN {γ:Type}(call round:Ai)(n:Nat)(l:List (Option Value))(k:Value×OpLog->M γ):M γ:=M.bind (apartO (M.on (some (.func (.func n) #[] #[])) λf=>M.on (seqO l) λl=>Ba call round f l)) k
def PD {γ:Type}(x:Option Value)(k:Value×OpLog->M γ):M γ:=M.bind (apartO (oS x λa=>M.pure a)) k
def sK {γ:Type}(v:Value)(b:Bool)(m:M Value)(k:Value->M γ):M γ:=M.bind (M.chk (isK v) (aO (isB v b) m (M.pure undef))) k
def SK {γ:Type}(v:Value)(b:Bool)(m:M Value)(k:Value×OpLog->M γ):M γ:=M.bind (apartO (M.chk (isK v) (aO (isB v b) m (M.pure undef)))) k
def gS:List (Value×OpLog)->List Value
 |[]=>[]
 |p::l=>p.1::gS l
def gR:List (Value×OpLog)->List OpLog
 |[]=>[]
 |p::l=>p.2::gR l
def fJ (l:List (Value×OpLog))(tm:T Value):M ((Rho×T Value)×List OpLog):=M.pure ((gS l,tm),gR l)
theorem aj:(∀{γ:Type} (E:Env) (t:Nat) (x:Option Value) (k:Value->M γ),lD E t x k=M.bind (oS x λa=>AE E t a) k)/\(∀{γ:Type} (E:Env) (t:Nat) (x:Option Value) (k:Value×OpLog->M γ),LD E t x k=M.bind (apartO (oS x λa=>AE E t a)) k)/\(∀{γ:Type} (E:Env) (t i:Nat) (x:Option Value) (k:Value->M γ),fD E t i x k=M.bind (oS x λa=>kFld E t a i) k)/\(∀{γ:Type} (E:Env) (t i:Nat) (x:Option Value) (k:Value×OpLog->M γ),FD E t i x k=M.bind (apartO (oS x λa=>kFld E t a i)) k)/\(∀{γ:Type} (i:Nat) (x:Option Value) (k:Value->M γ),eX i x k=M.bind (oS x λa=>kExt i a) k)/\(∀{γ:Type} (i:Nat) (x:Option Value) (k:Value×OpLog->M γ),EX i x k=M.bind (apartO (oS x λa=>kExt i a)) k)/\(∀{γ:Type} (E:Env) (t i:Nat) (x:Option Value) (k:Value->M γ),vB E t i x k=M.bind (oS x λa=>Cy E t i a) k)/\(∀{γ:Type} (E:Env) (t i:Nat) (x:Option Value) (k:Value×OpLog->M γ),VB E t i x k=M.bind (apartO (oS x λa=>Cy E t i a)) k)/\(∀{γ:Type} (E:Env) (t:Nat) (x y:Option Value) (k:Value->M γ),iD E t x y k=M.bind (oS x λa=>oS y λb=>BJ E t a b) k)/\(∀{γ:Type} (E:Env) (t:Nat) (x y:Option Value) (k:Value×OpLog->M γ),ID E t x y k=M.bind (apartO (oS x λa=>oS y λb=>BJ E t a b)) k)/\(∀{γ:Type} (E:Env) (o:BinOp) (t:Nat) (p q:Operand) (x y:Option Value) (k:Value->M γ),bI E o t p q x y k=M.bind (oS x λa=>oS y λb=>Cl.get (aBin E o t p q) a b) k)/\(∀{γ:Type} (E:Env) (o:BinOp) (t:Nat) (p q:Operand) (x y:Option Value) (k:Value×OpLog->M γ),BI E o t p q x y k=M.bind (apartO (oS x λa=>oS y λb=>Cl.get (aBin E o t p q) a b)) k)/\(∀{γ:Type} (E:Env) (b:Builtin) (ts:List Nat) (l:List (Option Value)) (k:Value->M γ),lN E b ts l k=M.bind (oS (seqO l) λl=>Bg E b ts l) k)/\(∀{γ:Type} (E:Env) (b:Builtin) (ts:List Nat) (l:List (Option Value)) (k:Value×OpLog->M γ),LN E b ts l k=M.bind (apartO (oS (seqO l) λl=>Bg E b ts l)) k)/\(∀{γ:Type} (call round:Ai) (n:Nat) (l:List (Option Value)) (k:Value->M γ),cN call round n l k=M.bind (M.on (some (.func (.func n) #[] #[])) λf=>M.on (seqO l) λl=>Ba call round f l) k)/\(∀{γ:Type} (call round:Ai) (n:Nat) (l:List (Option Value)) (k:Value×OpLog->M γ),CN call round n l k=M.bind (apartO (M.on (some (.func (.func n) #[] #[])) λf=>M.on (seqO l) λl=>Ba call round f l)) k)/\(∀{γ:Type} (x:Option Value) (k:Value×OpLog->M γ),PD x k=M.bind (apartO (oS x λa=>M.pure a)) k)/\(∀{γ:Type} (v:Value) (b:Bool) (m:M Value) (k:Value->M γ),sK v b m k=M.bind (M.chk (isK v) (aO (isB v b) m (M.pure undef))) k)/\(∀{γ:Type} (v:Value) (b:Bool) (m:M Value) (k:Value×OpLog->M γ),SK v b m k=M.bind (apartO (M.chk (isK v) (aO (isB v b) m (M.pure undef)))) k)/\gS []=[]/\(∀(p:Value×OpLog) (l:List (Value×OpLog)),gS (p::l)=p.1::gS l)/\gR []=[]/\(∀(p:Value×OpLog) (l:List (Value×OpLog)),gR (p::l)=p.2::gR l)/\(∀(l:List (Value×OpLog)) (tm:T Value),fJ l tm=M.pure ((gS l,tm),gR l)):=⟨by intros;rfl,by intros;rfl,by intros;rfl,by intros;rfl,by intros;rfl,by intros;rfl,by intros;rfl,by intros;rfl,by intros;rfl,by intros;rfl,by intros;rfl,by intros;rfl,by intros;rfl,by intros;rfl,by intros;rfl,by intros;rfl,by intros;rfl,by intros;rfl,by intros;rfl,by intros;rfl,by intros;rfl,by intros;rfl,by intros;rfl,by intros;rfl⟩
noncomputable def ac (i:Nat)(v:Value)(t:T Value):M (T Value):=setF i v t λt=>M.pure t
noncomputable def sV (i:Nat)(v:Value)(t:T Value):M (T Value):=mv (some v) λv=>setF i v t λt=>M.pure t
noncomputable def mG {γ:Type}(t:T Value)(i:Nat)(k:Value->M γ):M γ:=mv (T.get t i) k
noncomputable def ai {γ:Type}(t:T Value)(i:Nat)(k:Value×OpLog->M γ):M γ:=PD (T.get t i) k
noncomputable def bN {γ:Type}(E:Env)(o:BinOp)(a:Nat)(n:Int)(x:Option Value)(k:Value->M γ):M γ:=bI E o 3 (.tmp a) (.const (.int .i64 n)) x (some (.int .i64 n)) k
noncomputable def bC {γ:Type}(E:Env)(o:BinOp)(t a:Nat)(v:Value)(x:Option Value)(k:Value->M γ):M γ:=bI E o t (.tmp a) (.const v) x (some v) k
noncomputable def bM {γ:Type}(E:Env)(o:BinOp)(t:Nat)(v:Value)(a:Nat)(x:Option Value)(k:Value->M γ):M γ:=bI E o t (.const v) (.tmp a) (some v) x k
noncomputable def bT {γ:Type}(E:Env)(o:BinOp)(t a b:Nat)(x y:Value)(k:Value->M γ):M γ:=bI E o t (.tmp a) (.tmp b) (some x) (some y) k
noncomputable def lL {γ:Type}(E:Env)(t:Nat)(x:Value)(k:Value->M γ):M γ:=lN E .len [t] [some x] k
noncomputable def ae {γ:Type}(x y z:Value)(k:Value->M γ):M γ:=M.bind (M.on (some x) λa=>M.on (some y) λb=>M.on (some z) λc=>Ay a b c) k
noncomputable def sT {γ:Type}(E:Env)(t:Nat)(x y:Option Value)(k:Value->M γ):M γ:=M.bind (oS x λa=>oS y λb=>Ax E t a b) k
noncomputable def kN {γ:Type}(x:Value)(k:Value->M γ):M γ:=M.bind (oS (some x) λa=>kNil a) k
noncomputable def pG (t:T Value)(i:Nat):M Value:=oS (T.get t i) λa=>M.pure a
theorem ak:(∀(i:Nat)(v:Value)(t:T Value),ac i v t=setF i v t λt=>M.pure t)/\(∀(i:Nat)(v:Value)(t:T Value),sV i v t=mv (some v) λv=>setF i v t λt=>M.pure t)/\(∀{γ:Type}(t:T Value)(i:Nat)(k:Value->M γ),mG t i k=mv (T.get t i) k)/\(∀{γ:Type}(t:T Value)(i:Nat)(k:Value×OpLog->M γ),ai t i k=PD (T.get t i) k)/\(∀{γ:Type}(E:Env)(o:BinOp)(a:Nat)(n:Int)(x:Option Value)(k:Value->M γ),bN E o a n x k=bI E o 3 (.tmp a) (.const (.int .i64 n)) x (some (.int .i64 n)) k)/\(∀{γ:Type}(E:Env)(o:BinOp)(t a:Nat)(v:Value)(x:Option Value)(k:Value->M γ),bC E o t a v x k=bI E o t (.tmp a) (.const v) x (some v) k)/\(∀{γ:Type}(E:Env)(o:BinOp)(t:Nat)(v:Value)(a:Nat)(x:Option Value)(k:Value->M γ),bM E o t v a x k=bI E o t (.const v) (.tmp a) (some v) x k)/\(∀{γ:Type}(E:Env)(o:BinOp)(t a b:Nat)(x y:Value)(k:Value->M γ),bT E o t a b x y k=bI E o t (.tmp a) (.tmp b) (some x) (some y) k)/\(∀{γ:Type}(E:Env)(t:Nat)(x:Value)(k:Value->M γ),lL E t x k=lN E .len [t] [some x] k)/\(∀{γ:Type}(x y z:Value)(k:Value->M γ),ae x y z k=M.bind (M.on (some x) λa=>M.on (some y) λb=>M.on (some z) λc=>Ay a b c) k)/\(∀{γ:Type}(E:Env)(t:Nat)(x y:Option Value)(k:Value->M γ),sT E t x y k=M.bind (oS x λa=>oS y λb=>Ax E t a b) k)/\(∀{γ:Type}(x:Value)(k:Value->M γ),kN x k=M.bind (oS (some x) λa=>kNil a) k)/\(∀(t:T Value)(i:Nat),pG t i=oS (T.get t i) λa=>M.pure a):=⟨by intros;rfl,by intros;rfl,by intros;rfl,by intros;rfl,by intros;rfl,by intros;rfl,by intros;rfl,by intros;rfl,by intros;rfl,by intros;rfl,by intros;rfl,by intros;rfl,by intros;rfl⟩
theorem RR:type_of%(And.intro @aj @ak):=⟨@aj,@ak⟩
abbrev Rg:=Env->Ai->Ai->T Value->M (T Value)
abbrev RdW:=Env->Ai->Ai->T Value->M ((Rho×T Value)×List OpLog)
abbrev G0 (E:Env)(f nt g:Nat)(b:Code):Prop:= ∀{n:Nat} {s:St} {Q:Value->St->Prop},(∀tm,W (runF E n ⟨f,nt,g,tm,[.code b], .run, .normal,none⟩) (s.cxN cxN) λp s1=>Q p.1 (s1.cxN s.cx))->W (Ac E (runF E n) f []) s Q
abbrev G1 (E:Env)(f nt g:Nat)(b:Code):Prop:= ∀{a0:Value} {n:Nat} {s:St} {Q:Value->St->Prop},(∀tm,T.get tm 0=some a0->W (runF E n ⟨f,nt,g,tm,[.code b], .run, .normal,none⟩) (s.cxN cxN) λp s1=>Q p.1 (s1.cxN s.cx))->W (Ac E (runF E n) f [a0]) s Q
abbrev G2 (E:Env)(f nt g:Nat)(b:Code):Prop:= ∀{a0 a1:Value} {n:Nat} {s:St} {Q:Value->St->Prop},(∀tm,T.get tm 0=some a0->T.get tm 1=some a1->W (runF E n ⟨f,nt,g,tm,[.code b], .run, .normal,none⟩) (s.cxN cxN) λp s1=>Q p.1 (s1.cxN s.cx))->W (Ac E (runF E n) f [a0,a1]) s Q
abbrev G3 (E:Env)(f nt g:Nat)(b:Code):Prop:= ∀{a0 a1 a2:Value} {n:Nat} {s:St} {Q:Value->St->Prop},(∀tm,T.get tm 0=some a0->T.get tm 1=some a1->T.get tm 2=some a2->W (runF E n ⟨f,nt,g,tm,[.code b], .run, .normal,none⟩) (s.cxN cxN) λp s1=>Q p.1 (s1.cxN s.cx))->W (Ac E (runF E n) f [a0,a1,a2]) s Q
abbrev G4 (E:Env)(f nt g:Nat)(b:Code):Prop:= ∀{a0 a1 a2 a3:Value} {n:Nat} {s:St} {Q:Value->St->Prop},(∀tm,T.get tm 0=some a0->T.get tm 1=some a1->T.get tm 2=some a2->T.get tm 3=some a3->W (runF E n ⟨f,nt,g,tm,[.code b], .run, .normal,none⟩) (s.cxN cxN) λp s1=>Q p.1 (s1.cxN s.cx))->W (Ac E (runF E n) f [a0,a1,a2,a3]) s Q
theorem eiW {i:Nat}(h:i<9223372036854775807):wrap64 ((i:Nat)+1:Int)=((i+1:Nat):Int):=by
 rw[AN J J];simp
def nx (P:List Item):List Item:=skim 64 P.tail
def bt (P:List Item):List Item:=skim 64 (brT P)
def bf (P:List Item):List Item:=skim 64 (brF P)
