import Derived.Test.YtofanlcjeohcjaaIBz32
namespace Go.Proofs.Ytofanlcjeohcjaa.Am
open Go.RowKit
theorem HiR.src {s:St}{v:Value}{hs:List HdI}(h:HiR s v hs)(h16: ∀h∈hs,h.1.length=16): ∃F,Src s 18 v hs.length (A9 hs) F:=by
 rcases h with⟨rfl,rfl⟩|⟨b,o,c,rfl,hv⟩
 ·exact⟨_,Ng⟩
 ·exact⟨_,D0 hv (Gh h16)⟩
theorem PkR.src {s:St}{v:Value}{ps:List PkI}(h:PkR s v ps): ∃F,Src s 3 v ps.length (pkCs ps) F:=by
 rcases h.row with⟨rfl,rfl⟩|⟨b,o,c,rfl,hv⟩
 ·exact⟨_,Ng⟩
 ·exact⟨_,D0 hv (Ge ps)⟩
theorem PkR.lt {s:St}{v:Value}{ps:List PkI}(h:PkR s v ps): ∀x,PkF v ps x->x<s.next:=by
 intro x hx
 rcases hx with hx|⟨p,hp,hx⟩
 ·rcases h.row with⟨rfl,_⟩|⟨b,o,c,rfl,h3⟩
  ·exact hx.elim
  ·have h1:b+o<=x:=hx.1
   have h2:x<b+o+ps.length*3:=hx.2
   have hl:x-(b+o)<(pkCs ps).length:=by rw[Ge];omega
   have:=(h3 (x-(b+o)) _ (List.getElem?_eq_getElem hl)).1
   omega
 ·exact(h.hs p hp).lt (h.h16 p hp) x hx
theorem YU_ {ps:List PkI}(h: ∀p∈ps,oneCell p.v=true):(pkCs ps).all oneCell=true:=by
 induction ps with
 |nil=>rfl
 |cons p l ih=>
  show(pkC p++pkCs l).all oneCell=true
  rw[List.all_append,KU_ (h p am),ih λx hx=>h x (by simp[hx])]
  rfl
theorem Adv_ {F G:Nat->Prop}{s s1:St}{b i:Nat}{os:List PkI}{p:PkI}(hi:i<os.length)(hr:Aa s b 0 (pkCs os))(x:Ext F G s s1)(hG: ∀y,G y->y=b+(i*3+2))(hn:p.num=os[i].num)(hs:p.size=os[i].size)(ho:Own s1 b (i*3+2) p.v):Aa s1 b 0 (pkCs (os.set i p)):=by
 intro q u e
 have hq:=(List.getElem?_eq_some_iff.1 e).1
 rw[Ge,List.length_set]at hq
 have hj:q/3<os.length:=J
 have hr3:q%3<3:=Nat.mod_lt _ al
 have eq:q=q/3*3+q%3:=J
 rw[eq]at e ⊢
 rw[FG (by rw[List.length_set];exact hj) hr3]at e
 generalize q/3=j at *
 generalize q%3=r at *
 rw[Nat.zero_add]
 by_cases c:j=i
 ·subst c
  rw[List.getElem_set_self]at e
  match r,hr3,e with
  |0,_,e=>
   have:(pkCs os)[j*3+0]?=some u:=by
    rw[FG hi al,<-e]
    show some _=some _
    rw[hn]
   have:=hr _ _ this
   rw[Nat.zero_add]at this
   exact this.ext x λh=>by have:=hG _ h;omega
  |1,_,e=>
   have:(pkCs os)[j*3+1]?=some u:=by
    rw[FG hi al,<-e]
    show some _=some _
    rw[hs]
   have:=hr _ _ this
   rw[Nat.zero_add]at this
   exact this.ext x λh=>by have:=hG _ h;omega
  |2,_,e=>
   cases e
   exact ho
 ·rw[List.getElem_set_ne J]at e
  have:(pkCs os)[j*3+r]?=some u:=by rw[FG hj hr3];exact e
  have:=hr _ _ this
  rw[Nat.zero_add]at this
  exact this.ext x λh=>by have:=hG _ h;omega
theorem Aau_ {os:List PkI}{i:Nat}{p:PkI}(hi:i<os.length)(h:p.key=os[i].key):(os.set i p).map PkI.key=os.map PkI.key:=by
 rw[List.map_set,h]
 apply List.ext_getElem
 ·simp
 ·intro j h1 h2
  rw[List.getElem_set]
  by_cases c:i=j
  ·subst c;simp
  ·simp[c]
section
variable {b:Nat}{vo:Value}{ps:List PkI}{s0:St}{Q:Value×FrameMode->St->Prop}
structure CpI (s0 s:St)(b:Nat)(os:List PkI):Prop where
 row:Aa s b 0 (pkCs os)
 hs: ∀p∈os,HiR s p.v p.hs/\(∀h∈p.hs,h.1.length=16)/\ ∀x,HiF p.v x->x<b\/b+os.length*3<=x
theorem Ane_ (hb0:s0.lim<=s0.next)(hz: ∀p∈ps,p.hs.length<=400000)(hpz:ps.length<=1000000)(hcx:s0.cx=cxN){c:Nat}(hvo:vo= .slice (some ⟨b,0,none⟩) ps.length c)(hbn:s0.next<=b)
  (q: ∀s1 os,Ext Any Non s0 s1->PkR s1 vo os->os.map PkI.key=ps.map PkI.key->Q (vo, .run) s1):
  ∀(m i n:Nat) (os:List PkI) (tm:T Value) (s:St) (td:List Item),i+m=ps.length->20*m+30<=n->skim 64 td=JO->Ext Any Non s0 s->CpI s0 s b os->os.map PkI.key=ps.map PkI.key->(0<ps.length->b+ps.length*3<=s.next)->
  T.get tm 3=some vo->T.get tm 4=some (.int .i64 (i:Nat))->
  W (runF envS n ⟨36,Anh_,EJ,tm,td, .run, .normal,none⟩) s Q:=by
 subst hvo
 intro m
 induction m with
 |zero=>
  intro i n os tm s td hi hn hTd hx hI hk hbs h3 h4
  have hlen:os.length=ps.length:=by
   have:=congrArg List.length hk
   simpa using this
  refine BS_.u ?_ hTd
  simp only[R7,RR,SS,Ab,h3,h4,BC A8]
  refine aE Vr_ ?_
  refine XG_.u ?_
  simp only[TR_,RR,SS,Nat.reduceEqDiff, ↓reduceIte,h3]
  refine aB (rs:=[2]) (vs:=[.slice (some ⟨b,0,none⟩) ps.length c]) rfl (.inl Akm_) J Vt Aqf_ (hx.cx.trans hcx) Y ?_
  exact q s os hx ⟨.inr ⟨b,0,c,by rw[hlen],hI.row.row⟩,λp hp=>(hI.hs p hp).1,λp hp=>(hI.hs p hp).2.1⟩ hk
 |succ m ih=>
  intro i n os tm s td hi hn hTd hx hI hk hbs h3 h4
  have hlen:os.length=ps.length:=by
   have:=congrArg List.length hk
   simpa using this
  have hil:i<ps.length:=J
  have hbs:=hbs J
  have hio:i<os.length:=J
  have hm:=List.getElem_mem hio
  obtain⟨gh,g16,gl⟩:=hI.hs _ hm
  have hzi:os[i].hs.length<=400000:=by
   have e:os[i].key=ps[i].key:=by
    have:=List.getElem_of_eq hk (i:=i) (by simpa using hio)
    simpa using this
   have e2:os[i].hs=ps[i].hs:=congrArg (λk=>k.2.2) e
   rw[e2]
   exact hz _ (List.getElem_mem hil)
  have g2:Own s b (0+i*3+2) os[i].v:=by
   have:=hI.row (i*3+2) os[i].v (by rw[FG hio al];rfl)
   rwa [show 0+i*3+2=0+(i*3+2) by omega]
  refine BS_.u ?_ hTd
  simp only[R7,RR,SS,Ab,h3,h4,BC A8]
  refine aH Vr_ ?_
  refine Acd_.u ?_
  simp only[DD_,RR,SS,Nat.reduceEqDiff, ↓reduceIte,h3,h4]
  refine aM (hx.bnd hb0) (r:=[]) Mk al rfl (A0 al) λsa na xa ra=> ?_
  have na':sa.next=s.next+1:=na
  have ya:=hx.on xa hb0 λ_ _ h=>h
  simp only[AO A8 hil,Af BG al]
  refine aA Bu (g2.ext0 xa).at' ?_
  have yb:=ya.thenRd hb0 (b+(0+i*3+2))
  have xab:Ext Any Non s (sa.rdN (b+(0+i*3+2))):=(xa.any (hx.bnd hb0)).thenRd (hx.bnd hb0) _
  have nab:(sa.rdN (b+(0+i*3+2))).next=s.next+1:=na'
  generalize sa.rdN (b+(0+i*3+2))=sb at *
  obtain⟨F,hsrc⟩:=(gh.ext0 xab).src g16
  rw[CD]
  refine W.appE (s:=sb) (yb.bnd hb0) PZ (len:=0) (old:=[]) (b:=s.next) (.inl ⟨rfl,rfl,rfl⟩) hsrc.g al al J (Gh g16) (Jz_ _) λsc vc bc hbc ec xc=> ?_
  have xc':Ext Any Non sb sc:=xc.weak (yb.bnd hb0) (λ_ _ _=>trivial) λy _ h=>absurd h.1 J
  have yc:=yb.on xc' hb0 λ_ _ h=>h
  have hbc':s.next<=bc:=J
  rw[List.nil_append,Nat.zero_add]at ec
  have hc:=EmS.hi ec rfl
  obtain⟨c2,evc,rvc⟩:=ec.row
  have xsc:=xab.on xc' (hx.bnd hb0) λ_ _ h=>h
  refine aI Bu hc.one ((g2.ext0 xsc)) λsd nd xd od=> ?_
  have yd:=yc.on xd hb0 λx hx hq=>by have:=hq.1;omega
  refine AuE_.u ?_
  have ei:=eiW (i:=i) J
  simp only[UN_,RR,SS,Nat.reduceEqDiff, ↓reduceIte,Ad,h4,ei]
  have hkey:(⟨os[i].num,os[i].size,vc,os[i].hs⟩:PkI).key=os[i].key:=rfl
  have hvc: ∀x,HiF vc x->s.next<=x:=λx hx=>by
   rw[evc]at hx
   have h1:bc+0<=x:=hx.1
   omega
  have hone: ∀y,In b (0+i*3+2) 1 y->y=b+(i*3+2):=λy hy=>by have h1:=hy.1;have h2:=hy.2;omega
  refine ih (i+1) _ (os.set i ⟨os[i].num,os[i].size,vc,os[i].hs⟩) _ _ _ J J AvL_ yd ⟨?_,λp hp=> ?_⟩ (by rw[Aau_ hio hkey];exact hk) (λ_=>by have:=xsc.nxt;omega) (an h3) Y
  ·refine Adv_ hio (Aa.ext0 hI.row xsc) xd hone rfl rfl ?_
   rwa [show 0+i*3+2=i*3+2 by omega]at od
  ·rw[List.length_set]
   rcases List.mem_or_eq_of_mem_set hp with hp|rfl
   ·obtain⟨k1,k2,k3⟩:=hI.hs p hp
    refine⟨(k1.ext0 xsc).ext k2 xd λx hx hq=> ?_,k2,k3⟩
    have h1:=k3 x hx
    have h2:=hone x hq
    omega
   ·refine⟨(hc.same rfl rfl).ext g16 xd λx hx hq=> ?_,g16,λx hx=> .inr ?_⟩
    ·have h1:=hvc x hx
     have h2:=hone x hq
     omega
    ·have:=hvc x hx
     omega
end
theorem Ahh_ {n:Nat}{vp:Value}{ps:List PkI}{s:St}{Q:Value->St->Prop}(hb:s.lim<=s.next)(hv:PkR s vp ps)(hz: ∀p∈ps,p.hs.length<=400000)(hpz:ps.length<=100000)(hn:20*ps.length+100<=n)
  (q: ∀s1 w os,Ext Any Non s s1->PkR s1 w os->os.map PkI.key=ps.map PkI.key->Q w s1):W (Ac envS (runF envS n) 36 [vp]) s Q:=by
 refine AxK_ λtm h0=> ?_
 have hb0:(s.cxN cxN).lim<=(s.cxN cxN).next:=hb
 refine AhW_.u ?_
 simp only[Qq_,RR,SS]
 refine AmC_.u ?_
 simp only[PY_,RR,SS,reduceCtorEq, ↓reduceIte,h0]
 refine aM hb0 (r:=[]) FR_ al rfl (A0 al) λsa na xa ra=> ?_
 have na':sa.next=s.next+1:=na
 have xa':=xa.any hb0
 obtain⟨F,hsrc⟩:=((hv.same (s':=s.cxN cxN) rfl rfl).ext0 xa).src
 rw[CD]
 refine W.appE (s:=sa) (xa.bnd hb0) Vw (len:=0) (old:=[]) (b:=s.next) (.inl ⟨rfl,rfl,rfl⟩) hsrc.g al al J (Ge ps) (YU_ λp hp=>(hv.hs p hp).one) λsc vc bc hbc ec xc=> ?_
 have xc':Ext Any Non sa sc:=xc.weak (xa.bnd hb0) (λ_ _ _=>trivial) λy _ h=>absurd h.1 J
 have yc:=xa'.on xc' hb0 λ_ _ h=>h
 rw[List.nil_append,Nat.zero_add]at ec
 obtain⟨c2,evc,rvc⟩:=ec.row
 have own:Aa sc bc 0 (pkCs ps):=by
  rcases ec with⟨_,h0,h1⟩|⟨h,_⟩
  ·rw[h1];exact λi u e=>by simp at e
  ·exact h.own
 have hbc':s.next<=bc:=by rcases hbc with h|h<;>omega
 have hlc:0<ps.length->bc+ps.length*3<=sc.next:=λh0=>by
  rcases ec with⟨_,h1,_⟩|⟨h,_⟩
  ·omega
  ·have:=h.lt
   omega
 refine Anj_.u ?_
 simp only[Zh,RR,SS]
 refine Ane_ (s0:=s.cxN cxN) (b:=bc) (ps:=ps) hb0 hz J rfl evc hbc' (λs1 os x1 h1 h2=>q _ vc os x1.cx' (h1.same rfl rfl) h2) ps.length 0 _ ps _ _ _ J J rfl yc ⟨own,λp hp=>⟨((hv.hs p hp).same (s':=s.cxN cxN) rfl rfl).ext0 yc,hv.h16 p hp,λx hx=> .inl ?_⟩⟩ rfl hlc Y Y
 have:=(hv.hs p hp).lt (hv.h16 p hp) x hx
 omega
section
variable {n:Nat}{v:Value}{l:List Nat}{s:St}{Q:Value->St->Prop}
theorem Akh_ (hbd:s.lim<=s.next)(h:Bs s v l)(hz:l.length<4)(hn:30<=n)(q2:Q (.tuple #[.slice none 0 0, .int .i64 4]) s):W (Ac envS (runF envS n) 87 [v]) s Q:=by
 refine HI_ λtm h0=> ?_
 have hc:Bs (s.cxN cxN) v l:=h.same rfl rfl
 refine Ni_.u ?_
 simp only[On,RR,SS,Nat.reduceEqDiff,reduceCtorEq, ↓reduceIte]
 refine MR_.u ?_
 simp only[Rj,RR,SS,Nat.reduceEqDiff,reduceCtorEq, ↓reduceIte,Nat.reduceEqDiff, ↓reduceIte,h0]
 rw[hc.len' AH]
 simp only[SS,Nat.reduceEqDiff,reduceCtorEq, ↓reduceIte,Ad,Ah,Ab,Ae,Ak,An,Al,Ag]
 refine aH Sb_ ?_
 refine Anp_.u ?_
 simp only[CJ_,RR,SS,Nat.reduceEqDiff,reduceCtorEq, ↓reduceIte]
 refine aB (rs:=[2,3]) (vs:=[.slice none 0 0, .int .i64 4]) rfl (.inl AxE_) J KM P7 rfl Y ?_
 exact q2
theorem Ajv_ (hb:s.lim<=s.next)(hB:Bs s v l)(hby:Byt l)(hz:l.length<=900000)(hn:1000000000<=n)
  (q1: ∀(os:List PkI) vo s1,IxOk l (os.map PkI.key)->AY os=0->Ext Any Non s s1->PkR s1 vo os->(∀x,PkF vo os x->s.next<=x)->os.length<=500->Ar os<=10000000->Q (.tuple #[vo, .int .i64 0]) s1)
  (q2: ∀s1,(∀os:List PkI,AY os=0-> ¬IxOk l (os.map PkI.key))->Ext Any Non s s1->Q (.tuple #[.slice none 0 0, .int .i64 4]) s1):
  W (Ac envS (runF envS n) 40 [v]) s Q:=by
 have hb0:(s.cxN cxN).lim<=(s.cxN cxN).next:=hb
 refine Abh_ λtm g0=> ?_
 refine AiO_.u ?_
 simp only[SM,RR,SS,Nat.reduceEqDiff,reduceCtorEq, ↓reduceIte]
 refine Afq_.u ?_
 simp only[UK_,RR,SS,Nat.reduceEqDiff,reduceCtorEq, ↓reduceIte,Nat.reduceEqDiff, ↓reduceIte,g0]
 have bad: ∀(n':Nat) (tm':T Value) (s1:St) (td':List Item),20<=n'->skim 64 td'=Sv->Ext Any Non (s.cxN cxN) s1->T.get tm' 5=some (.int .i64 4)->(∀os:List PkI,AY os=0-> ¬IxOk l (os.map PkI.key))->
   W (runF envS n' ⟨40,GB,Bl,tm',td', .run, .normal,none⟩) s1 λp s1=>Q p.1 (s1.cxN s.cx):=by
  intro n' tm' s1 td' hn' hT' hx g5 hno
  refine Fl_.u ?_ hT'
  simp only[NQ,RR,SS,Nat.reduceEqDiff,reduceCtorEq, ↓reduceIte,Ad,Ah,Ab,Ae,Ak,An,Al,Ag,g5]
  refine aH RM_ ?_
  refine AdT_.u ?_
  simp only[Md_,RR,SS,Nat.reduceEqDiff,reduceCtorEq, ↓reduceIte]
  refine aB (rs:=[2,3]) (vs:=[.slice none 0 0, .int .i64 4]) rfl (.inl Amz_) J Kl L3 hx.cx Y ?_
  exact q2 _ hno hx.cx'
 have hB':Bs (s.cxN cxN) v l:=hB.same rfl rfl
 by_cases h4:l.length<4
 ·refine Akh_ hb0 hB' h4 J ?_
  rw[A3 (k:=0) rfl,A3 (k:=1) rfl]
  exact bad _ _ _ _ J rfl (Ext.refl _) Y λos _ h=>by have:=h.1.1;omega
 have hBn:Bn (s.cxN cxN) v l:=by
  rcases hB' with⟨_,rfl⟩|h
  ·simp at h4
  ·exact h
 refine AdJ_ hb0 hBn hby J hz J (λhg s1 w wb hwb x1 hw=> ?_) λhg s1 x1=> ?_
 ·have y1:Ext Any Non (s.cxN cxN) s1:=x1.any hb0
  obtain⟨body,hbody⟩: ∃b,l.take (l.length-4)=b:=⟨_,rfl⟩
  rw[hbody]at hw
  have hbb:Byt body:=λx hx=>hby x (by rw[<-hbody]at hx;exact List.mem_of_mem_take hx)
  have hbl:body.length<=l.length:=by rw[<-hbody,List.length_take];omega
  have hwB:Bs s1 w body:=(hw.bn J).bs
  have hwl: ∀x,BsF w x->x<s1.next:=λx hx=>(hw.bn J).lt x hx
  rw[A3 (k:=0) rfl,A3 (k:=1) rfl]
  refine Fl_.u ?_
  simp only[NQ,RR,SS,Nat.reduceEqDiff,reduceCtorEq, ↓reduceIte,Ad,Ah,Ab,Ae,Ak,An,Al,Ag]
  refine aE RM_ ?_
  refine AgZ_.u ?_
  simp only[KF_,RR,SS,Nat.reduceEqDiff,reduceCtorEq, ↓reduceIte,Nat.reduceEqDiff, ↓reduceIte]
  refine Apt_ (y1.bnd hb0) hwB hwl J λs2 x2 hr=> ?_
  have y2:=y1.then0 x2 hb0
  have n12:s1.next<=s2.next:=x2.nxt
  have n01:s.next<=s1.next:=y1.nxt
  generalize hRR:s1.next=R at *
  refine AhX_.u ?_
  simp only[UX_,RR,SS,Nat.reduceEqDiff,reduceCtorEq, ↓reduceIte]
  refine Ajg_.u ?_
  simp only[Oq_,RR,SS,Nat.reduceEqDiff,reduceCtorEq, ↓reduceIte,Nat.reduceEqDiff, ↓reduceIte]
  refine Nd_ (hi:=500) (y2.bnd hb0) hr J hbb J λs3 x3 r3=> ?_
  refine AkE_.u ?_
  simp only[Si_,RR,SS,Nat.reduceEqDiff,reduceCtorEq, ↓reduceIte]
  have hcnt:=Ep 0 500 (some body)
  refine Age_ (s0:=s2) (R:=R) (v:=w) (l:=body) (HS:=(rAll body).1) (ST:=(rAll body).2) (cnt:=(rInt 0 500 (some body)).1) (y2.bnd hb0) J hbb hcnt hr.rt hr.lt _ 0 _ _ [] (.slice none 0 0) s2.next _ s3 _ (Nat.zero_add _) (by have:803000*(rInt 0 500 (some body)).1<=803000*500:=Nat.mul_le_mul_left _ hcnt;omega) am rfl x3 r3 ⟨.inl ⟨rfl,rfl,rfl⟩,Nat.le_refl _,λo ho=>(by cases ho),λo ho=>(by cases ho),List.Pairwise.nil⟩ rfl rfl Y Y Y Y λn4 os vo bo tm4 s4 td4 hn4 hT4 x4 r4 ho hk g6 g7=> ?_
  have y4:Ext Any Non (s.cxN cxN) s4:=y2.trans x4 hb0 (λ_ _ _=>trivial) λy hy hg=>by
   have h1:y<s.next:=hy
   rcases hg with hg|hg|hg<;>omega
  obtain⟨hl1,hl2⟩:=Su (rInt 0 500 (some body)).1 (rInt 0 500 (some body)).2
  have hosl:os.length<=500:=by
   have h1:(rAll body).1.length<=(rInt 0 500 (some body)).1:=hl1
   rw[<-hk,List.length_map]at h1
   omega
  have hosz: ∀p∈os,p.hs.length<=20000:=λp hp=>by
   have:p.key∈(rAll body).1:=by rw[<-hk];exact List.mem_map_of_mem hp
   exact hl2 _ this
  have htot:Ar os<=10000000:=by
   have h1:=L6 os hosz
   have h2:os.length*20000<=500*20000:=Nat.mul_le_mul_right _ hosl
   omega
  have hn4':410000000<=n4:=by
   have:803000*(rInt 0 500 (some body)).1<=803000*500:=Nat.mul_le_mul_left _ hcnt
   omega
  obtain⟨hrow,hrf⟩:=ho.rows
  refine Aul_.u ?_ hT4
  simp only[HB_,RR,SS,Nat.reduceEqDiff,reduceCtorEq, ↓reduceIte,g6]
  refine ArB_ (y4.bnd hb0) r4 J λe p s5 x5 he=> ?_
  have y5:=y4.then0 x5 hb0
  refine W.alloc FX λs6 n6 x6 o6=> ?_
  have y6:=y5.then0 x6 hb0
  have n5:s.next<=s5.next:=y5.nxt
  refine W.store (b:=s5.next) (o:=0) BQ (v:= .agg #[.int .i64 e, .int .i64 p]) rfl rfl (λj hj=>Aa.owned o6 j (by simpa using hj)) λs7 n7 x7 o7=> ?_
  have y7:Ext Any Non (s.cxN cxN) s7:=y6.thenW x7 hb0 (by show s.next<=s5.next+0;omega)
  have o7':Aa s7 s5.next 0 [.int .i64 e, .int .i64 p]:=o7
  have x57:Ext Any (In s5.next 0 2) s5 s7:=(x6.weak (y5.bnd hb0) (λ_ _ _=>trivial) λ_ _ h=>h.elim).trans x7 (y5.bnd hb0) (λ_ _ _=>trivial) λ_ _ h=>h
  have hrow7:PkR s7 vo os:=(hrow.ext0 x5).ext x57 λy hy hg=>by
   have h1:=(hrow.ext0 x5).lt y hy
   have h2:=hg.1
   omega
  refine Arl_.u ?_
  simp only[Vn,RR,SS,Nat.reduceEqDiff,reduceCtorEq, ↓reduceIte,Nat.reduceEqDiff, ↓reduceIte,Af Cm al]
  refine aA (b:=s5.next) (o:=0+0) CF (o7' 0 _ rfl).at' ?_
  have y8:=y7.thenRd hb0 (s5.next+(0+0))
  have hrow8:PkR (s7.rdN (s5.next+(0+0))) vo os:=hrow7.same rfl rfl
  simp only[SS,Nat.reduceEqDiff,reduceCtorEq, ↓reduceIte,Ad,Ah,Ab,Ae,Ak,An,Al,Ag]
  have finB: ∀(n':Nat) (tm':T Value) (s6:St) (td':List Item),20<=n'->skim 64 td'=LM->Ext Any Non (s.cxN cxN) s6->T.get tm' 87=some (.bool true)->(∀os:List PkI,AY os=0-> ¬IxOk l (os.map PkI.key))->
    W (runF envS n' ⟨40,GB,Bl,tm',td', .run, .normal,none⟩) s6 λp s1=>Q p.1 (s1.cxN s.cx):=by
   intro n' tm' s6 td' hn' hT' hx g39 hno
   refine aH JI_ ?_ hT' g39
   refine Akn_.u ?_
   simp only[Ek_,RR,SS,Nat.reduceEqDiff,reduceCtorEq, ↓reduceIte]
   refine aB (rs:=[2,3]) (vs:=[.slice none 0 0, .int .i64 4]) rfl (.inl YK_) J Kl L3 hx.cx Y ?_
   exact q2 _ hno hx.cx'
  by_cases he0:e=0
  ·have hST:(rAll body).2=some []:=he.1 he0
   have ed:decide (e=0)=true:=decide_eq_true he0
   simp only[SS,ed,Bool.not_true,Nat.reduceEqDiff,reduceCtorEq, ↓reduceIte,Nat.reduceEqDiff, ↓reduceIte,g7]
   refine Rb (y8.bnd hb0) hrow8 J J J λs9 x9=> ?_
   have y9:=y8.then0 x9 hb0
   simp only[SS,Nat.reduceEqDiff,reduceCtorEq, ↓reduceIte,Ad,Ah,Ab,Ae,Ak,An,Al,Ag]
   by_cases hc:AY os=0
   ·refine aE JI_ ?_ rfl (an hc)
    refine ZY_.u ?_
    simp only[Mo_,RR,SS,Nat.reduceEqDiff,reduceCtorEq, ↓reduceIte,Nat.reduceEqDiff, ↓reduceIte,g7]
    refine aB (rs:=[2,3]) (vs:=[vo, .int .i64 0]) rfl (.inl XH_) J Kl L3 y9.cx Y ?_
    refine q1 os vo _ ⟨hg, ?_⟩ hc y9.cx' ((hrow8.ext0 x9).same rfl rfl) (λx hx=>by have:=hrf x hx;omega) hosl htot
    rw[hbody]
    exact Prod.ext hk.symm hST
   ·refine finB _ _ s9 _ J rfl y9 (an hc) λos' hc' h=> ?_
    have h1:=h.2
    rw[hbody]at h1
    have h2:os'.map PkI.key=os.map PkI.key:=by rw[hk,h1]
    rw[H4 h2]at hc'
    exact hc hc'
  ·have ed:decide (e=0)=false:=decide_eq_false he0
   simp only[SS,ed,Bool.not_false,Nat.reduceEqDiff,reduceCtorEq, ↓reduceIte]
   refine finB _ _ _ _ J rfl y8 Y λos' hc' h=> ?_
   have h1:=h.2
   rw[hbody]at h1
   exact he0 (he.2 (by rw[h1]))
 ·have y1:Ext Any Non (s.cxN cxN) s1:=x1.any hb0
  rw[A3 (k:=0) rfl,A3 (k:=1) rfl]
  exact bad _ _ _ _ J rfl y1 Y λos _ h=>hg h.1
end
def dgI (m i t:Nat):Nat:=if t<i then(m>>>(7*t))%128+128 else 0
def arrI (m i:Nat):List Nat:=[dgI m i 4,dgI m i 3,dgI m i 2,dgI m i 1,dgI m i 0]
theorem Agt_ (m:Nat){i:Nat}(h:i<5):(arrI m i).set (4-i) ((m>>>(7*i))%128+128)=arrI m (i+1):=by
 have:i=0\/i=1\/i=2\/i=3\/i=4:=J
 rcases this with rfl|rfl|rfl|rfl|rfl<;>simp[arrI,dgI]
theorem AnF_ {m:Nat}(h:m<=2147483647):((arrI m (BU m)).set 4 (dgI m (BU m) 0%128)).drop (5-BU m)=numB m:=by
 have hb:=Ed m
 have e0:((m>>>(7*0))%128+128)%128=m%128:=am
 have e1:m>>>(7*1)=m/128:=by rw[Nat.shiftRight_eq_div_pow]
 have e2:m>>>(7*2)=m/128/128:=by rw[Nat.shiftRight_eq_div_pow,Nat.div_div_eq_div_mul]
 have e3:m>>>(7*3)=m/128/128/128:=by rw[Nat.shiftRight_eq_div_pow,Nat.div_div_eq_div_mul,Nat.div_div_eq_div_mul]
 have e4:m>>>(7*4)=m/128/128/128/128:=by rw[Nat.shiftRight_eq_div_pow,Nat.div_div_eq_div_mul,Nat.div_div_eq_div_mul,Nat.div_div_eq_div_mul]
 unfold numB
 generalize BU m=k at *
 have:k=1\/k=2\/k=3\/k=4\/k=5:=J
 rcases this with rfl|rfl|rfl|rfl|rfl<;>simp only[arrI,dgI,hiB,e0,e1,e2,e3,e4,Nat.lt_irrefl,if_true,if_false,Nat.reduceLT,Nat.reduceSub,List.set_cons_succ,List.set_cons_zero,List.drop_succ_cons,List.drop_zero,List.nil_append,List.cons_append]<;>rfl
theorem Alo_ {b:Nat}{s:St}(Q:Value->St->Prop):W (BJ envS 150 (.pointer (some ⟨b,0,none⟩)) (.int .i64 4)) s Q=Q (.pointer (some ⟨b,0+4*1,none⟩)) s:=Kz (k:=4) Px al Q
section
variable {A B:Nat}{Q:Value×FrameMode->St->Prop}{s0:St}{v:Value}{acc:List Nat}{bk m:Nat}
structure WrA (s0 s:St)(A B:Nat)(v:Value)(acc:List Nat)(bk:Nat)(arr:List Nat):Prop where
 w:WrI s0 s A v acc bk
 r:Aa s B 0 (u8l arr)
 hB:A+3<=B
 hm: ∀x,MkF 1 acc.length bk x->x<B
theorem WrA.put {G:Nat->Prop}{s s':St}{arr:List Nat}{k x:Nat}(h:WrA s0 s A B v acc bk arr)(hb0:s0.lim<=s0.next)(hk:k<arr.length)(hn:s'.next=s.next)(e:Ext G (In B k 1) s s')(ho:Own s' B k (u8 x)):WrA s0 s' A B v acc bk (arr.set k x):=by
 have a:=h.w.hA
 have c:=h.hB
 have ne: ∀y,y<B-> ¬In B k 1 y:=λy hy hg=>by have:=hg.1;omega
 refine⟨⟨h.w.x.onG e hb0 λy hy hg=>absurd hg (ne y J),h.w.o0.ext e (ne _ J),h.w.o1.ext e (ne _ J),h.w.o2.ext e (ne _ J),h.w.ml.ext e λy hy=>ne y (h.hm y hy),a,by rw[hn];exact h.w.hAt,h.w.hb,h.w.dj⟩,λj u hu=> ?_,c,h.hm⟩
 rw[List.getElem?_map]at hu
 obtain⟨z,hz,rfl⟩:=Option.map_eq_some_iff.1 hu
 by_cases hj:j=k
 ·subst hj
  rw[List.getElem?_set_self hk]at hz
  cases hz
  rw[Nat.zero_add]
  exact ho
 ·rw[List.getElem?_set_ne (λe=>hj e.symm)]at hz
  exact(h.r j _ (by rw[List.getElem?_map,hz];rfl)).ext e λhg=>by have h1:=hg.1;have h2:=hg.2;omega
theorem WrA.ext0 {F:Nat->Prop}{s s':St}{arr:List Nat}(h:WrA s0 s A B v acc bk arr)(hb0:s0.lim<=s0.next)(x:Ext F Non s s'):WrA s0 s' A B v acc bk arr:=⟨h.w.ext0 hb0 x,h.r.ext0 x,h.hB,h.hm⟩
theorem Asd_ {k0:Nat}(hb0:s0.lim<=s0.next)(hk5:k0<=5)(hm:m<=2147483647):
  ∀(k i n:Nat) (tm:T Value) (s:St) (td:List Item),i+k=k0->20*k+20<=n->skim 64 td=Kt->WrA s0 s A B v acc bk (arrI m i)->
  T.get tm 0=some (.pointer (some ⟨A,0,none⟩))->T.get tm 1=some (.int .i64 (m:Nat))->T.get tm 4=some (.int .i64 (k0:Nat))->T.get tm 5=some (.pointer (some ⟨B,0,none⟩))->T.get tm 29=some (.int .i64 (k0:Nat))->T.get tm 30=some (.int .i64 (i:Nat))->
  (∀(n1:Nat) (tm1:T Value) (s1:St) (td1:List Item),n-(20*k+10)<=n1->skim 64 td1=Ou->s.next=s1.next->Ext Any (In B 0 5) s s1->WrA s0 s1 A B v acc bk (arrI m k0)->T.get tm1 0=some (.pointer (some ⟨A,0,none⟩))->T.get tm1 4=some (.int .i64 (k0:Nat))->T.get tm1 5=some (.pointer (some ⟨B,0,none⟩))->W (runF envS n1 ⟨76,FT_,CQ,tm1,td1, .run, .normal,none⟩) s1 Q)->
  W (runF envS n ⟨76,FT_,CQ,tm,td, .run, .normal,none⟩) s Q:=by
 intro k
 induction k with
 |zero=>
  intro i n tm s td hi hn hT' h g0 g1 g4 g5 g29 g30 q
  have:i=k0:=J
  subst this
  refine Hl_.u ?_ hT'
  simp only[Rn,RR,SS,Ab,g29,g30]
  refine aE JO_ ?_
  exact q _ _ s _ J rfl rfl (Ext.refl _) h (an g0) (an g4) (an g5)
 |succ k ih=>
  intro i n tm s td hi hn hT' h g0 g1 g4 g5 g29 g30 q
  have hi5:i<5:=J
  have hb:=h.w.x.bnd hb0
  refine Hl_.u ?_ hT'
  simp only[Rn,RR,SS,Ab,g29,g30]
  refine aH JO_ ?_
  refine Afz_.u ?_
  simp only[Fd_,RR,SS,Nat.reduceEqDiff, ↓reduceIte,g30]
  refine Adc_.u ?_
  have e4:wrap64 (4-((i:Nat):Int))=((4-i:Nat):Int):=by
   rw[AN J J];omega
  simp only[PO_,RR,SS,Nat.reduceEqDiff, ↓reduceIte,Ah,g1,g5,e4]
  rw[CF_ J]
  rw[E4 (show 7*i<=btOf .i64 by show 7*i<=64;omega)]
  rw[AvD_]
  rw[DA MG Hl,wrap_u8,show m>>>(7*i)%128%256=m>>>(7*i)%128 by omega]
  rw[Aqh_ (Nat.mod_lt _ al)]
  rw[Kz Px (show 4-i<5 by omega)]
  have oK: ∃u,Own s B (0+(4-i)*1) u:=by
   obtain⟨u,hu⟩:=Aa.owned h.r (4-i) (by show 4-i<5;omega)
   exact⟨u,by rw[Nat.mul_one];exact hu⟩
  obtain⟨u,hu⟩:=oK
  refine aI (b:=B) (o:=0+(4-i)*1) Dd rfl hu λs1 n1 x1 o1=> ?_
  rw[show 0+(4-i)*1=4-i by omega]at x1 o1
  have h1:=h.put hb0 (k:=4-i) (show 4-i<5 by omega) n1 x1 o1
  rw[Agt_ m hi5]at h1
  refine Ade_.u ?_
  have ei:=eiW (i:=i) J
  simp only[U3,RR,SS,Nat.reduceEqDiff, ↓reduceIte,Ad,g30,ei]
  refine ih (i+1) _ _ s1 _ J J Aqd_ h1 (an g0) (an g1) (an g4) (an g5) (an g29) Y λn2 tm2 s2 td2 a1 a2 a3 a4=> ?_
  exact q n2 tm2 s2 td2 J a2 (by rw[<-n1];exact a3) ((x1.weak hb (λ_ _ _=>trivial) λy _ hg=>⟨by have:=hg.1;omega,by have:=hg.2;omega⟩).trans a4 hb (λ_ _ _=>trivial) λ_ _ h=>h)
end
theorem WrI.cxs {s0 s:St}{A:Nat}{v:Value}{acc:List Nat}{bk:Nat}(h:WrI s0 s A v acc bk)(c:Ctx):WrI (s0.cxN c) (s.cxN c) A v acc bk:=⟨h.x.cxs c c,h.o0.same rfl rfl,h.o1.same rfl rfl,h.o2.same rfl rfl,h.ml.same rfl rfl,h.hA,h.hAt,h.hb,h.dj⟩
theorem WrI.back {s0 s s1:St}{A:Nat}{v v':Value}{acc acc':List Nat}{bk bk':Nat}(h:WrI s0 s A v acc bk)(k:WrI (s0.cxN cxN) s1 A v' acc' bk'):WrI s0 (s1.cxN s.cx) A v' acc' bk':=by
 have e:s.cx=s0.cx:=h.x.cx
 rw[e]
 exact k.cxs s0.cx
theorem WrI.turn {F G:Nat->Prop}{s0 s s':St}{A:Nat}{v:Value}{acc:List Nat}{bk:Nat}(h:WrI s0 s A v acc bk)(hb0:s0.lim<=s0.next)(x:Ext F G s s')(hG: ∀y,G y->y=A+1\/s.next<=y)(o:Own s' A 1 (.bool false)):WrI s0 s' A v acc bk:=by
 have a:=h.hAt
 have c:=h.hA
 have ne: ∀y,y<s.next->y≠A+1-> ¬G y:=λy hy h1 hg=>by have:=hG y hg;omega
 exact⟨h.x.onG x hb0 λy hy hg=>absurd (hG y hg) (by have:=h.x.nxt;omega),h.o0.ext x (ne _ J J),o,h.o2.ext x (ne _ J J),h.ml.ext x λy hy=>ne y (h.ml.lt y hy) (λe=>h.dj y hy J),h.hA,Nat.le_trans a x.nxt,h.hb,h.dj⟩
section
variable {n A:Nat}{Q:Value->St->Prop}{s0 s:St}{v:Value}{acc:List Nat}{bk m:Nat}
theorem GR (hb0:s0.lim<=s0.next)(h:WrI s0 s A v acc bk)(hm:m<=2147483647)(hz:acc.length<=1000000)(hn:600<=n)(q: ∀u s1 v' bk',WrI s0 s1 A v' (acc++numB m) bk'->s.next<=bk'->Ext Any (WrG A acc bk) s s1->Q u s1):
  W (Ac envS (runF envS n) 76 [.pointer (some ⟨A,0,none⟩), .int .i64 (m:Nat)]) s Q:=by
 have hbx:(s0.cxN cxN).lim<=(s0.cxN cxN).next:=hb0
 have hx:WrI (s0.cxN cxN) (s.cxN cxN) A v acc bk:=h.cxs cxN
 have hbs:(s.cxN cxN).lim<=(s.cxN cxN).next:=hx.x.bnd hbx
 obtain⟨k,hk⟩: ∃k,BU m=k:=⟨_,rfl⟩
 have hk1:1<=k/\k<=5:=by rw[<-hk];exact Ed m
 have hAt:=h.hAt
 refine Asw_ λtm g0 g1=> ?_
 refine XJ_.u ?_
 simp only[Uk,RR,SS,reduceCtorEq, ↓reduceIte,g0,Ki QR_,Af NV al]
 refine aA Fh hx.o0.at' ?_
 have y1:Ext Any Non (s.cxN cxN) ((s.cxN cxN).rdN (A+(0+0))):=(Ext.refl (F:=Any) (G:=Non) _).thenRd hbs _
 simp only[CI,Bool.not_true]
 refine aE ArA_ ?_
 refine Aei_.u ?_
 simp only[YM,RR,SS,Nat.reduceEqDiff, ↓reduceIte,g1]
 refine AvV_ hm J ?_
 rw[hk]
 refine Alh_.u ?_
 simp only[Rr_,RR,SS,reduceCtorEq, ↓reduceIte,g0,Af Uf al]
 have h1:=hx.ext0 hbx y1
 refine aA Fh h1.o1.at' ?_
 have y2:=y1.thenRd hbs (A+(0+1))
 have h2:=hx.ext0 hbx y2
 have ek:decide (((k:Nat):Int)=0)=false:=decide_eq_false J
 simp only[SS, ↓reduceIte,Al,ek,Bool.false_eq_true]
 refine aI (b:=A) (o:=0+1) Fh rfl h2.o1 λs3 n3 x3 o3=> ?_
 have y3:Ext Any (WrG A acc bk) (s.cxN cxN) s3:=(y2.weak hbs (λ_ _ h=>h) λ_ _ h=>h.elim).onG x3 hbs λy _ hy=> .inl (by have h1:=hy.1;have h2:=hy.2;omega)
 have n3':s3.next=s.next:=n3
 have h3:WrI (s0.cxN cxN) s3 A v acc bk:=h2.turn hbx x3 (λy hy=> .inl (by have h1:=hy.1;have h2:=hy.2;omega)) o3
 refine Axr_.u ?_
 simp only[Ti_,RR,SS]
 refine W.alloc AiC_ λs4 n4 x4 o4=> ?_
 have n4':s4.next=s3.next+6:=n4
 have h4:=h3.ext0 hbx x4
 have y4:=y3.onG x4 hbs λ_ _ h=>h.elim
 refine AxD_.u ?_
 simp only[Xx,RR,SS,Nat.reduceEqDiff, ↓reduceIte]
 refine Asd_ (s0:=s0.cxN cxN) (A:=A) (B:=s3.next) (v:=v) (acc:=acc) (bk:=bk) (m:=m) (k0:=k) hbx hk1.2 hm k 0 _ _ s4 _ (Nat.zero_add _) J rfl ⟨h4,o4,J,λx hx=>by have:=h3.ml.lt x hx;omega⟩ (an g0) (an g1) Y Y Y Y λn7 tm7 s7 td7 hn7 hT7 n7' x7 h7 k0 k4 k5=> ?_
 have y7:Ext Any (WrG A acc bk) (s.cxN cxN) s7:=y4.onG x7 hbs λy hy hg=>by
  have h1:=hg.1
  have h2:y<s.next:=hy
  omega
 refine Xk_.u ?_ hT7
 simp only[Fi_,RR,SS,Ae,k4]
 refine aH Amd_ ?_
 refine AhR_.u ?_
 simp only[Pc_,RR,SS,Nat.reduceEqDiff, ↓reduceIte,k5,Alo_]
 have a4:Own s7 s3.next (0+4*1) (u8 (dgI m k 0)):=h7.r 4 _ rfl
 refine aA (b:=s3.next) (o:=0+4*1) Dd a4.at' ?_
 have y8:=y7.thenRd' hbs (s3.next+(0+4*1))
 have h8:WrA (s0.cxN cxN) (s7.rdN (s3.next+(0+4*1))) A s3.next v acc bk (arrI m k):=h7.ext0 hbx (Ext.rdN (F:=Any) (G:=Non) s7 _ λ_=>trivial)
 rw[Uh]
 refine aI (b:=s3.next) (o:=0+4*1) Dd rfl (a4.same rfl rfl) λs9 n9 x9 o9=> ?_
 have y9:Ext Any (WrG A acc bk) (s.cxN cxN) s9:=y8.onG x9 hbs λy hy hg=>by
  have h1:=hg.1
  have h2:y<s.next:=hy
  omega
 have h9:=h8.put hbx (k:=4) (show 4<5 by decide) n9 x9 o9
 have n9':s9.next=s7.next:=n9
 obtain⟨arr,harr⟩: ∃a,(arrI m k).set 4 (dgI m k 0%128)=a:=⟨_,rfl⟩
 rw[harr]at h9
 have hend:arr.drop (5-k)=numB m:=by rw[<-harr,<-hk];exact AnF_ hm
 have hb9:=h9.w.x.bnd hbx
 refine Aew_.u ?_ Zo_
 simp only[UJ_,RR,T.get_set,Nat.reduceEqDiff, ↓reduceIte,k0,k4,k5,AA,Aw,Bo,Bi HR al]
 refine aD (b:=A) (o:=0+2) BE (h9.w.o2.same (s':=dSt s9.mem s9.next) rfl rfl).at' λrd1 hr1=> ?_
 have e5:wrap64 (5-((k:Nat):Int))=((5-k:Nat):Int):=by
  rw[AN J J];omega
 simp only[Aw]
 rw[W_dq λs Q=>Ah (s:=s) 5 ((k:Nat):Int),e5]
 simp only[BH,AX]
 rw[W_dq λs Q=>Hm (s:=s) (lo:=some (.int .i64 ((5-k:Nat):Int))) (hi:=none) (l:=5-k) (h:=5) Px (A0 al) rfl rfl J (Nat.le_refl _) Q]
 rw[if_neg (show ¬5=5-k by omega),show 5-(5-k)=k by omega]
 have rowA:Row (oSt s9.mem s9.next) s3.next (0+(5-k)*1) (u8l (numB m)):=by
  rw[<-hend,Nat.mul_one]
  have:=(Aa.drop (n:=5-k) h9.r).row
  have e:(u8l arr).drop (5-k)=u8l (arr.drop (5-k)):=by rw[u8l,<-List.map_drop]
  rw[e]at this
  exact λi u hu=>(this i u hu).same rfl rfl
 have lnB:(numB m).length=k:=by rw[F4,hk]
 simp only[Bb,A7,AX,AA]
 refine W.dopG ?_
 rw[CD]
 refine bA (s:=oSt s9.mem s9.next) (Nat.le_refl _) Dr (h9.w.ml.same (s':=oSt s9.mem s9.next) rfl rfl) (D0 (n:=k) (c:=k) rowA (by rw[AQ,lnB,Nat.mul_one])).g J al al J (by rw[AQ,lnB,Nat.mul_one]) (CG _) λsa va ba hba mka xa=>⟨_,_,xa,λrda wra hra hwa=> ?_⟩
 have na:s9.next<=sa.next:=xa.nxt
 have hba':s9.next<=ba:=hba
 simp only[Bo,Bi HR al]
 rw[AJ]
 have hwM: ∀x∈wra,x<s9.next/\MkF 1 acc.length bk x:=hwa
 refine⟨E8 ?_, ?_⟩
 ·simp only[List.reverse_cons,List.reverse_nil,List.nil_append,List.cons_append,allP,Ds,List.take,Eo]
  have lts: ∀x,s9.next<=x-> ¬x<s9.next:=λx h=>J
  have w2: ∀x∈wra,x≠A+(0+2):=λx hx e=>h9.w.dj x (hwM x hx).2 J
  simp+contextual [lts]
  all_goals first
   |trivial
   |(repeat' first
     |exact .inl rfl
     |apply And.intro
     |(intro x hx;have:=w2 x;have:=hr1 x;simp_all;omega)
     |(intro x hx hy;have:=w2 x;have:=hr1 x;simp_all;omega))
 ·refine W.cast (Aqe_ _ _ _ _ _ _ _ _ _ _ _ _ _ _ _ _) ?_
  simp only[SS]
  generalize hsF:(⟨(dSt sa.mem sa.next).mem,(dSt sa.mem sa.next).next,s9.lim,_,_,s9.cx⟩:St)=sF
  have mF:sF.mem=sa.mem:=by rw[<-hsF];rfl
  have nF:sF.next=sa.next:=by rw[<-hsF];rfl
  have xF:Ext (λ_=>True) (MkF 1 acc.length bk) s9 sF:=by
   rw[<-hsF]
   refine aR (by show s9.next<=sa.next;omega) (λx hx hg=>xa.mem x hx hg) ?_ λ_ _ _ _ _=>trivial
   simp only[List.mem_cons,List.not_mem_nil,or_false]
   rintro m (rfl|rfl|rfl|rfl|rfl|rfl|rfl|rfl|rfl|rfl|rfl) x hx hl<;>first|(cases hx;done)|exact(hwM x hx).2
  have nM: ∀y,A<=y/\y<A+3-> ¬MkF 1 acc.length bk y:=λy hy hm=>h9.w.dj y hm hy
  have mkF:MkS sF 1 (acc.length+k) (u8l acc++u8l (numB m)) va ba:=mka.same mF nF
  have yF:Ext Any (WrG A acc bk) (s.cxN cxN) sF:=y9.onG xF hbs λ_ _ h=> .inr h
  refine aI (b:=A) (o:=0+2) BE (by obtain⟨p,c,e⟩:=mkF.sl;rw[e];rfl) (h9.w.o2.ext xF (nM _ J)) λsG nG xG oG=> ?_
  have yG:Ext Any (WrG A acc bk) (s.cxN cxN) sG:=yF.onG xG hbs λy _ hy=> .inl (by have h1:=hy.1;have h2:=hy.2;omega)
  have nG':sG.next=sF.next:=nG
  have hAx:=h.hA
  have nn:s.next<=s9.next:=y9.nxt
  refine aT rfl (.inr X) J W5 AsY_ yG.cx (aN ?_)
  refine q _ _ va ba (h.back ⟨?_, ?_, ?_,oG, ?_,h.hA,J,by have:=h.x.nxt;show s0.next<=ba;omega, ?_⟩) J yG.cx'
  ·refine hx.x.onG yG hbx λy hy hg=> ?_
   have hy':y<s0.next:=hy
   rcases hg with hg|hg
   ·omega
   ·have h1:=hg.2.1
    have:=h.hb
    omega
  ·exact(h9.w.o0.ext xF (nM _ J)).ext xG λhg=>by have h1:=hg.1;omega
  ·exact(h9.w.o1.ext xF (nM _ J)).ext xG λhg=>by have h1:=hg.1;omega
  ·rw[List.length_append,lnB,u8l,List.map_append]
   refine mkF.ext xG λy hy hg=> ?_
   have h1:=hy.2.1
   have h2:=hg.2
   omega
  ·intro x hx'
   have h1:=hx'.2.1
   omega
end
theorem AdD_ (a:Addr)(s:St):Cl.get (aBin envS .neq 104 (.tmp 4) (.const (.pointer none))) (.pointer (some a)) (.pointer none) s= .some (.bool true) s:=X
section
variable {n A:Nat}{Q:Value->St->Prop}{s0 s:St}{v:Value}{acc:List Nat}{bk:Nat}
theorem Aga_ {id:List Nat}(hb0:s0.lim<=s0.next)(h:WrI s0 s A v acc bk)(hid:id.length=16)(hz:acc.length<=1000000)(hn:100<=n)(q: ∀u s1 v' bk',WrI s0 s1 A v' (acc++id) bk'->s.next<=bk'->Ext Any (WrG A acc bk) s s1->Q u s1):
  W (Ac envS (runF envS n) 77 [.pointer (some ⟨A,0,none⟩), .agg (u8l id).toArray]) s Q:=by
 have hbx:(s0.cxN cxN).lim<=(s0.cxN cxN).next:=hb0
 have hx:WrI (s0.cxN cxN) (s.cxN cxN) A v acc bk:=h.cxs cxN
 have hbs:(s.cxN cxN).lim<=(s.cxN cxN).next:=hx.x.bnd hbx
 have hAt:=h.hAt
 refine Avu_ λtm g0 g1=> ?_
 refine Aft_.u ?_
 simp only[SO,RR,SS,g1]
 refine W.box λs1 n1 x1 o1=> ?_
 rw[BV]at o1
 have n1':s1.next=s.next+17:=by
  rw[n1,BV,AQ,hid]
  rfl
 have y1:Ext Any Non (s.cxN cxN) s1:=x1.any hbs
 have h1:=hx.ext0 hbx y1
 refine AeX_.u ?_
 simp only[Ts_,RR,SS,reduceCtorEq, ↓reduceIte,g0]
 rw[AD (AdD_ _ s1)]
 simp only[SS, ↓reduceIte,Af NV al]
 refine aA Fh h1.o0.at' ?_
 have y2:=y1.thenRd hbs (A+(0+0))
 have h2:=hx.ext0 hbx y2
 refine aH Asa_ ?_
 obtain⟨s9,hs9⟩: ∃s9,s9=s1.rdN (A+(0+0)):=⟨_,rfl⟩
 rw[<-hs9]
 have n9:s9.next=s1.next:=by rw[hs9];rfl
 have y9:Ext Any Non (s.cxN cxN) s9:=by rw[hs9];exact y2
 have h9:WrI (s0.cxN cxN) s9 A v acc bk:=by rw[hs9];exact h2
 have r9:Aa s9 s.next 0 (u8l id):=λi u e=>by rw[hs9];exact(o1 i u e).same rfl rfl
 have hb9:=h9.x.bnd hbx
 refine Amn_.u ?_
 simp only[Jv_,RR,T.get_set,Nat.reduceEqDiff, ↓reduceIte,g0,AA,BH,Aw,Bo,Bi HR al]
 refine aD (b:=A) (o:=0+2) BE (h9.o2.same (s':=dSt s9.mem s9.next) rfl rfl).at' λrd1 hr1=> ?_
 simp only[BH]
 rw[W_dq λs Q=>Hm (s:=s) (lo:=none) (hi:=none) (l:=0) (h:=16) Hy (A0 al) rfl rfl (Nat.zero_le _) (Nat.le_refl _) Q]
 have rowA:Row (oSt s9.mem s9.next) s.next 0 (u8l id):=λi u hu=>(r9.row i u hu).same rfl rfl
 simp only[Bb,A7,AX,AA]
 refine W.dopG ?_
 rw[CD]
 refine bA (s:=oSt s9.mem s9.next) (Nat.le_refl _) Dr (h9.ml.same (s':=oSt s9.mem s9.next) rfl rfl) (D0 (n:=16) (c:=16) rowA (by rw[AQ,hid])).g al al al J (by rw[AQ,hid]) (CG _) λsa va ba hba mka xa=>⟨_,_,xa,λrda wra hra hwa=> ?_⟩
 have na:s9.next<=sa.next:=xa.nxt
 have hba':s9.next<=ba:=hba
 simp only[Bo,Bi HR al]
 rw[AJ]
 have hwM: ∀x∈wra,x<s9.next/\MkF 1 acc.length bk x:=hwa
 refine⟨E8 ?_, ?_⟩
 ·simp only[List.reverse_cons,List.reverse_nil,List.nil_append,List.cons_append,allP,Ds,List.take,Eo]
  have lts: ∀x,s9.next<=x-> ¬x<s9.next:=λx h=>J
  have w2: ∀x∈wra,x≠A+(0+2):=λx hx e=>h9.dj x (hwM x hx).2 J
  simp+contextual [lts]
  all_goals first
   |trivial
   |(repeat' first
     |exact .inl rfl
     |apply And.intro
     |(intro x hx;have:=w2 x;have:=hr1 x;simp_all;omega)
     |(intro x hx hy;have:=w2 x;have:=hr1 x;simp_all;omega))
 ·refine W.cast (Afw_ _ _ _ _ _ _ _ _ _ _ _ _ _ _) ?_
  simp only[SS]
  generalize hsF:(⟨(dSt sa.mem sa.next).mem,(dSt sa.mem sa.next).next,s9.lim,_,_,s9.cx⟩:St)=sF
  have mF:sF.mem=sa.mem:=by rw[<-hsF];rfl
  have nF:sF.next=sa.next:=by rw[<-hsF];rfl
  have xF:Ext (λ_=>True) (MkF 1 acc.length bk) s9 sF:=by
   rw[<-hsF]
   refine aR (by show s9.next<=sa.next;omega) (λx hx hg=>xa.mem x hx hg) ?_ λ_ _ _ _ _=>trivial
   simp only[List.mem_cons,List.not_mem_nil,or_false]
   rintro m (rfl|rfl|rfl|rfl|rfl|rfl|rfl|rfl|rfl) x hx hl<;>first|(cases hx;done)|exact(hwM x hx).2
  have nM: ∀y,A<=y/\y<A+3-> ¬MkF 1 acc.length bk y:=λy hy hm=>h9.dj y hm hy
  have mkF:MkS sF 1 (acc.length+16) (u8l acc++u8l id) va ba:=mka.same mF nF
  have yF:Ext Any (WrG A acc bk) (s.cxN cxN) sF:=(y9.weak hbs (λ_ _ h=>h) λ_ _ h=>h.elim).onG xF hbs λ_ _ h=> .inr h
  refine aI (b:=A) (o:=0+2) BE (by obtain⟨p,c,e⟩:=mkF.sl;rw[e];rfl) (h9.o2.ext xF (nM _ J)) λsG nG xG oG=> ?_
  have yG:Ext Any (WrG A acc bk) (s.cxN cxN) sG:=yF.onG xG hbs λy _ hy=> .inl (by have h1:=hy.1;have h2:=hy.2;omega)
  have nG':sG.next=sF.next:=nG
  have hAx:=h.hA
  have nn:s.next<=s9.next:=y9.nxt
  refine aT Awi_ (.inr X) J Wc_ AmJ_ yG.cx (aN ?_)
  refine q _ _ va ba (h.back ⟨?_, ?_, ?_,oG, ?_,h.hA,J,by have:=h.x.nxt;show s0.next<=ba;omega, ?_⟩) J yG.cx'
  ·refine hx.x.onG yG hbx λy hy hg=> ?_
   have hy':y<s0.next:=hy
   rcases hg with hg|hg
   ·omega
   ·have h1:=hg.2.1
    have:=h.hb
    omega
  ·exact(h9.o0.ext xF (nM _ J)).ext xG λhg=>by have h1:=hg.1;omega
  ·exact(h9.o1.ext xF (nM _ J)).ext xG λhg=>by have h1:=hg.1;omega
  ·rw[List.length_append,hid,u8l,List.map_append]
   refine mkF.ext xG λy hy hg=> ?_
   have h1:=hy.2.1
   have h2:=hg.2
   omega
  ·intro x hx'
   have h1:=hx'.2.1
   omega
theorem Akz_ (hb0:s0.lim<=s0.next)(h:WrI s0 s A v acc bk)(hz:acc.length<=1000000)(hn:60<=n)(q: ∀s1 w wb,Ext Any Non s s1->MkS s1 1 acc.length (u8l acc) w wb->s.next<=wb->Q (.tuple #[w, .int .i64 0]) s1):
  W (Ac envS (runF envS n) 78 [.pointer (some ⟨A,0,none⟩)]) s Q:=by
 have hbx:(s0.cxN cxN).lim<=(s0.cxN cxN).next:=hb0
 have hx:WrI (s0.cxN cxN) (s.cxN cxN) A v acc bk:=h.cxs cxN
 have hbs:(s.cxN cxN).lim<=(s.cxN cxN).next:=hx.x.bnd hbx
 refine AqB_ λtm g0=> ?_
 refine Aay_.u ?_
 simp only[Mf_,RR,SS]
 refine AkR_.u ?_
 simp only[Hh_,RR,SS,reduceCtorEq, ↓reduceIte,g0,Ki QR_,Af NV al]
 refine aA Fh hx.o0.at' ?_
 have y1:Ext Any Non (s.cxN cxN) ((s.cxN cxN).rdN (A+(0+0))):=(Ext.refl (F:=Any) (G:=Non) _).thenRd hbs _
 have h1:=hx.ext0 hbx y1
 simp only[CI,Bool.not_true]
 refine aE AoJ_ ?_
 refine Adm_.u ?_
 simp only[RP_,RR,SS,reduceCtorEq, ↓reduceIte,g0,Af Uf al]
 refine aA Fh h1.o1.at' ?_
 have y2:=y1.thenRd hbs (A+(0+1))
 have h2:=hx.ext0 hbx y2
 refine aE AtO_ ?_
 refine ApI_.u ?_
 simp only[XK,RR,SS,reduceCtorEq, ↓reduceIte,g0,Af HR al]
 refine aA BE h2.o2.at' ?_
 have y3:=y2.thenRd hbs (A+(0+2))
 have h3:=hx.ext0 hbx y3
 obtain⟨s3,hs3⟩: ∃s3,s3=(((s.cxN cxN).rdN (A+(0+0))).rdN (A+(0+1))).rdN (A+(0+2)):=⟨_,rfl⟩
 rw[<-hs3]at y3 h3 ⊢
 have n3:s3.next=s.next:=by rw[hs3];rfl
 rw[CD]
 have hbsv:Bs s3 v acc:=h3.ml.bs (by unfold capU;omega)
 refine W.appV (s:=s3) (len:=0) (old:=[]) (b:=s.next) (y3.bnd hbs) Dr (.inl ⟨rfl,rfl,rfl⟩) (Bs.src hbsv).g al al J (by rw[AQ];omega) (CG _) λs4 w wb hwb mk x4=> ?_
 have y4:Ext Any Non (s.cxN cxN) s4:=y3.onG x4 hbs λy hy hg=>absurd hg.1 al
 rw[List.nil_append,Nat.zero_add]at mk
 refine aB (rs:=[2,3]) (vs:=[w, .int .i64 0]) rfl (.inl AdR_) J Tx ApV_ y4.cx Y ?_
 refine q _ w wb y4.cx' (mk.same rfl rfl) ?_
 rcases hwb with⟨h,_⟩|h
 ·omega
 ·omega
end
theorem Ir:fldN envS 111 0=some (0,1,false):=X
structure RwI (s0 s:St)(A:Nat)(v:Value)(acc:List Nat)(bk:Nat):Prop where
 x:Ext Any Non s0 s
 o:Own s A 0 v
 ml:MkS s 1 acc.length (u8l acc) v bk
 hA:s0.next<=A
 hAt:A+1<=s.next
 hb:s0.next<=bk
 dj: ∀x,MkF 1 acc.length bk x->x≠A
theorem RwI.ext {F G:Nat->Prop}{s0 s s':St}{A:Nat}{v:Value}{acc:List Nat}{bk:Nat}(h:RwI s0 s A v acc bk)(hb0:s0.lim<=s0.next)(x:Ext F G s s')(hG: ∀y,G y->s.next<=y):RwI s0 s' A v acc bk:=by
 have a:=h.hAt
 have ne: ∀y,y<s.next-> ¬G y:=λy hy hg=>by have:=hG y hg;omega
 exact⟨h.x.onG x hb0 λy hy hg=>absurd (hG y hg) (by have:=h.x.nxt;omega),h.o.ext x (ne _ J),h.ml.ext x λy hy=>ne y (h.ml.lt y hy),h.hA,Nat.le_trans a x.nxt,h.hb,h.dj⟩
theorem RwI.ext0 {F:Nat->Prop}{s0 s s':St}{A:Nat}{v:Value}{acc:List Nat}{bk:Nat}(h:RwI s0 s A v acc bk)(hb0:s0.lim<=s0.next)(x:Ext F Non s s'):RwI s0 s' A v acc bk:=h.ext hb0 x λ_ h=>h.elim
theorem RwI.cxs {s0 s:St}{A:Nat}{v:Value}{acc:List Nat}{bk:Nat}(h:RwI s0 s A v acc bk)(c:Ctx):RwI (s0.cxN c) (s.cxN c) A v acc bk:=⟨h.x.cxs c c,h.o.same rfl rfl,h.ml.same rfl rfl,h.hA,h.hAt,h.hb,h.dj⟩
theorem RwI.back {s0 s s1:St}{A:Nat}{v v':Value}{acc acc':List Nat}{bk bk':Nat}(h:RwI s0 s A v acc bk)(k:RwI (s0.cxN cxN) s1 A v' acc' bk'):RwI s0 (s1.cxN s.cx) A v' acc' bk':=by
 have e:s.cx=s0.cx:=h.x.cx
 rw[e]
 exact k.cxs s0.cx
abbrev RwG (A:Nat)(acc:List Nat)(bk:Nat):Nat->Prop:=λx=>x=A\/MkF 1 acc.length bk x
section
variable {n A:Nat}{Q:Value->St->Prop}{s0 s:St}{v:Value}{acc:List Nat}{bk m:Nat}
theorem RwI.done {acc2:List Nat}{s9 sF sG:St}{va:Value}{ba:Nat}(hb0:s0.lim<=s0.next)(h:RwI s0 s A v acc bk)(y9:Ext Any Non s s9)(h9:RwI s0 s9 A v acc bk)(xF:Ext (λ_=>True) (MkF 1 acc.length bk) s9 sF)(mk:MkS sF 1 (acc.length+acc2.length) (u8l acc++u8l acc2) va ba)(hba:s9.next<=ba)
  (nG:sG.next=sF.next) (xG:Ext Any (In A 0 1) sF sG) (oG:Own sG A 0 va):RwI s0 sG A va (acc++acc2) ba/\s.next<=ba/\Ext Any (RwG A acc bk) s sG:=by
 have hbs:=h.x.bnd hb0
 have n9:s.next<=s9.next:=y9.nxt
 have nF:s9.next<=sF.next:=xF.nxt
 have hAt:=h.hAt
 have hA:=h.hA
 have yF:Ext Any (RwG A acc bk) s sF:=(y9.weak hbs (λ_ _ h=>h) λ_ _ h=>h.elim).onG xF hbs λ_ _ h=> .inr h
 have yG:Ext Any (RwG A acc bk) s sG:=yF.onG xG hbs λy _ hy=> .inl (by have h1:=hy.1;have h2:=hy.2;omega)
 refine⟨⟨?_,oG, ?_,hA,J,by have:=h.x.nxt;omega, ?_⟩,J,yG⟩
 ·refine h.x.onG yG hb0 λy hy hg=> ?_
  have hy':y<s0.next:=hy
  rcases hg with hg|hg
  ·omega
  ·have h1:=hg.2.1
   have:=h.hb
   omega
 ·rw[List.length_append,u8l,List.map_append]
  refine mk.ext xG λy hy hg=> ?_
  have h1:=hy.2.1
  have h2:=hg.2
  omega
 ·intro x hx'
  have h1:=hx'.2.1
  omega
theorem G8 (hb0:s0.lim<=s0.next)(h:RwI s0 s A v acc bk)(hm:m<=2147483647)(hz:acc.length<=1000000)(hn:700<=n)(q: ∀u s1 v' bk',RwI s0 s1 A v' (acc++numB m) bk'->s.next<=bk'->Ext Any (RwG A acc bk) s s1->Q u s1):
  W (Ac envS (runF envS n) 79 [.pointer (some ⟨A,0,none⟩), .int .i64 (m:Nat)]) s Q:=by
 have hbx:(s0.cxN cxN).lim<=(s0.cxN cxN).next:=hb0
 have hx:RwI (s0.cxN cxN) (s.cxN cxN) A v acc bk:=h.cxs cxN
 have hbs:(s.cxN cxN).lim<=(s.cxN cxN).next:=hx.x.bnd hbx
 have hk1:=Ed m
 have hAt:=h.hAt
 refine AmG_ λtm g0 g1=> ?_
 refine AnW_.u ?_
 simp only[Bv_,RR,SS,Nat.reduceEqDiff,reduceCtorEq, ↓reduceIte,g1]
 refine Vf_ hm J ?_
 have ek:decide (((BU m:Nat):Int)=0)=false:=decide_eq_false J
 simp only[SS,Nat.reduceEqDiff,reduceCtorEq, ↓reduceIte,Ad,Ah,Ab,Ae,Ak,An,Al,Ag,ek]
 refine aE AlY_ ?_
 refine Amv_.u ?_
 simp only[Y3,RR,T.get_set,Nat.reduceEqDiff, ↓reduceIte,g0,g1,AA,BH,Aw,Bo,Bi Ir al]
 refine aD (b:=A) (o:=0+0) BE (hx.o.same (s':=dSt s.mem s.next) rfl rfl).at' λrd1 hr1=> ?_
 simp only[Aw,AA,Bb,A7,AX,BH,Dn]
 refine aU (ArY_ (s:=oSt s.mem s.next) (Nat.le_refl _) hm J λs9 v9 b9 x9 hb9 hmk9=>⟨_,x9,λrd6 hr6=> ?_⟩)
 have hx':=hx.ml
 have n9:s.next<=s9.next:=x9.nxt
 have e6:rd6=[]:=List.eq_nil_iff_forall_not_mem.2 λx hx=>(hr6 x hx).2
 subst e6
 have h9ml:MkS s9 1 acc.length (u8l acc) v bk:=(hx.ml.same (s':=oSt s.mem s.next) rfl rfl).ext0 x9
 have h9B:Bs s9 v9 (numB m):=hmk9.bs (by rw[F4];exact A0 J)
 have lnB:(numB m).length=BU m:=F4 m
 simp only[Bb,A7,AX,AA]
 refine W.dopG ?_
 rw[CD]
 refine bA (s:=oSt s9.mem s9.next) (Nat.le_refl _) Dr (h9ml.same (s':=oSt s9.mem s9.next) rfl rfl) (h9B.same (s':=oSt s9.mem s9.next) rfl rfl).src.g J al al J (by rw[AQ];omega) (CG _) λsa va ba hba mka xa=>⟨_,_,xa,λrda wra hra hwa=> ?_⟩
 have na:s9.next<=sa.next:=xa.nxt
 have hba':s9.next<=ba:=hba
 simp only[Bo,Bi Ir al]
 rw[AJ]
 have hwM: ∀x∈wra,x<s9.next/\MkF 1 acc.length bk x:=hwa
 refine⟨E8 ?_, ?_⟩
 ·simp only[List.reverse_cons,List.reverse_nil,List.nil_append,List.cons_append,allP,Ds,List.take,Eo]
  have lts: ∀x,s9.next<=x-> ¬x<s9.next:=λx h=>J
  have w2: ∀x∈wra,x≠A+(0+0):=λx hx e=>h.dj x (hwM x hx).2 J
  have w3: ∀x∈wra,x<s.next:=λx hx=>hx'.lt x (hwM x hx).2
  simp+contextual [lts]
  all_goals first
   |trivial
   |(repeat' first
    |exact .inl rfl
    |apply And.intro
    |(intro x hx;have:=w2 x;have:=hr1 x;have:=w3 x;simp_all;omega)
    |(intro x hx hy;have:=w2 x;have:=hr1 x;have:=w3 x;simp_all;omega))
 ·refine W.cast (Aqi_ ..) ?_
  simp only[SS,Nat.reduceEqDiff,reduceCtorEq, ↓reduceIte]
  generalize hsF:(⟨(dSt sa.mem sa.next).mem,(dSt sa.mem sa.next).next,(s.cxN cxN).lim,_,_,(s.cxN cxN).cx⟩:St)=sF
  have mF:sF.mem=sa.mem:=by rw[<-hsF];rfl
  have nF:sF.next=sa.next:=by rw[<-hsF];rfl
  have xF:Ext (λ_=>True) (MkF 1 acc.length bk) (s.cxN cxN) sF:=by
   rw[<-hsF]
   refine aR (by show s.next<=sa.next;omega) (λx hx hg=>(xa.mem x (show x<s9.next from Nat.lt_of_lt_of_le hx n9) hg).trans (x9.mem x hx id)) ?_ λ_ _ _ _ _=>trivial
   simp only[List.mem_cons,List.not_mem_nil,or_false]
   rintro m (rfl|rfl|rfl|rfl|rfl|rfl|rfl|rfl|rfl|rfl) x hx hl<;>first|(cases hx;done)|exact(hwM x hx).2
  have mkF:MkS sF 1 (acc.length+(numB m).length) (u8l acc++u8l (numB m)) va ba:=mka.same mF nF
  refine aI (b:=A) (o:=0+0) BE (by obtain⟨p,c,e⟩:=mkF.sl;rw[e];rfl) (hx.o.ext xF λhm=>h.dj _ hm rfl) λsG nG xG oG=> ?_
  obtain⟨k1,k2,k3⟩:=RwI.done hbx hx (Ext.refl _) hx xF mkF (Nat.le_trans n9 hba') nG (xG.weak (xF.bnd hbs) (λ_ _ _=>trivial) λ_ _ h=>h) oG
  refine aT rfl (.inr X) J HD_ AwA_ k3.cx (aN ?_)
  exact q _ _ va ba (h.back k1) k2 k3.cx'
theorem AeD_ {id:List Nat}(hb0:s0.lim<=s0.next)(h:RwI s0 s A v acc bk)(hid:id.length=16)(hz:acc.length<=1000000)(hn:100<=n)(q: ∀u s1 v' bk',RwI s0 s1 A v' (acc++id) bk'->s.next<=bk'->Ext Any (RwG A acc bk) s s1->Q u s1):
  W (Ac envS (runF envS n) 80 [.pointer (some ⟨A,0,none⟩), .agg (u8l id).toArray]) s Q:=by
 have hbx:(s0.cxN cxN).lim<=(s0.cxN cxN).next:=hb0
 have hx:RwI (s0.cxN cxN) (s.cxN cxN) A v acc bk:=h.cxs cxN
 have hbs:(s.cxN cxN).lim<=(s.cxN cxN).next:=hx.x.bnd hbx
 have hAt:=h.hAt
 refine Aml_ λtm g0 g1=> ?_
 refine XK_.u ?_
 simp only[Xs,RR,SS,Nat.reduceEqDiff,reduceCtorEq, ↓reduceIte,g1]
 refine W.box λs9 n1 x1 o1=> ?_
 rw[BV]at o1
 have y9:Ext Any Non (s.cxN cxN) s9:=x1.any hbs
 have h9:=hx.ext0 hbx y9
 have hb9:=h9.x.bnd hbx
 have n9:s.next<=s9.next:=y9.nxt
 refine AuT_.u ?_
 simp only[KR_,RR,T.get_set,Nat.reduceEqDiff, ↓reduceIte,g0,AA,BH,Aw,Bo,Bi Ir al]
 refine aD (b:=A) (o:=0+0) BE (h9.o.same (s':=dSt s9.mem s9.next) rfl rfl).at' λrd1 hr1=> ?_
 simp only[BH]
 rw[W_dq λs Q=>Hm (s:=s) (lo:=none) (hi:=none) (l:=0) (h:=16) Hy (A0 al) rfl rfl (Nat.zero_le _) (Nat.le_refl _) Q]
 have rowA:Row (oSt s9.mem s9.next) s.next 0 (u8l id):=λi u hu=>((o1 i u hu).at').same rfl rfl
 simp only[Bb,A7,AX,AA]
 refine W.dopG ?_
 rw[CD]
 refine bA (s:=oSt s9.mem s9.next) (Nat.le_refl _) Dr (h9.ml.same (s':=oSt s9.mem s9.next) rfl rfl) (D0 (n:=16) (c:=16) rowA (by rw[AQ,hid])).g al al al J (by rw[AQ,hid]) (CG _) λsa va ba hba mka xa=>⟨_,_,xa,λrda wra hra hwa=> ?_⟩
 have na:s9.next<=sa.next:=xa.nxt
 have hba':s9.next<=ba:=hba
 simp only[Bo,Bi Ir al]
 rw[AJ]
 have hwM: ∀x∈wra,x<s9.next/\MkF 1 acc.length bk x:=hwa
 refine⟨E8 ?_, ?_⟩
 ·simp only[List.reverse_cons,List.reverse_nil,List.nil_append,List.cons_append,allP,Ds,List.take,Eo]
  have lts: ∀x,s9.next<=x-> ¬x<s9.next:=λx h=>J
  have w2: ∀x∈wra,x≠A+(0+0):=λx hx e=>h9.dj x (hwM x hx).2 J
  simp+contextual [lts]
  all_goals first
   |trivial
   |(repeat' first
    |exact .inl rfl
    |apply And.intro
    |(intro x hx;have:=w2 x;have:=hr1 x;simp_all;omega)
    |(intro x hx hy;have:=w2 x;have:=hr1 x;simp_all;omega))
 ·refine W.cast (AeI_ ..) ?_
  simp only[SS,Nat.reduceEqDiff,reduceCtorEq, ↓reduceIte]
  generalize hsF:(⟨(dSt sa.mem sa.next).mem,(dSt sa.mem sa.next).next,s9.lim,_,_,s9.cx⟩:St)=sF
  have mF:sF.mem=sa.mem:=by rw[<-hsF];rfl
  have nF:sF.next=sa.next:=by rw[<-hsF];rfl
  have xF:Ext (λ_=>True) (MkF 1 acc.length bk) s9 sF:=by
   rw[<-hsF]
   refine aR (by show s9.next<=sa.next;omega) (λx hx hg=>xa.mem x hx hg) ?_ λ_ _ _ _ _=>trivial
   simp only[List.mem_cons,List.not_mem_nil,or_false]
   rintro m (rfl|rfl|rfl|rfl|rfl|rfl|rfl|rfl|rfl) x hx hl<;>first|(cases hx;done)|exact(hwM x hx).2
  have mkF:MkS sF 1 (acc.length+id.length) (u8l acc++u8l id) va ba:=by rw[hid];exact mka.same mF nF
  refine aI (b:=A) (o:=0+0) BE (by obtain⟨p,c,e⟩:=mkF.sl;rw[e];rfl) (h9.o.ext xF λhm=>h9.dj _ hm rfl) λsG nG xG oG=> ?_
  obtain⟨k1,k2,k3⟩:=RwI.done hbx hx y9 h9 xF mkF hba' nG (xG.weak (xF.bnd hb9) (λ_ _ _=>trivial) λ_ _ h=>h) oG
  refine aT rfl (.inr X) J Df_ YO_ k3.cx (aN ?_)
  exact q _ _ va ba (h.back k1) k2 k3.cx'
end
theorem Abz_:DZ envS 35=some (List.replicate 16 (.int .u8 0)++[.int .i64 0, .int .i64 0]):=X
section
variable {A:Nat}{Q:Value×FrameMode->St->Prop}{s0:St}
theorem XQ {s:St}{v:Value}{acc:List Nat}{bk B w:Nat}(h:WrI s0 s A v acc bk)(hB:(∀y,MkF 1 acc.length bk y->y<B)\/B+w<=bk)(hA:A+3<=B){k:Nat}(hk:k<w): ¬WrG A acc bk (B+k):=λhg=>by
 rcases hg with hg|hg
 ·omega
 ·rcases hB with hB|hB
  ·have:=hB _ hg
   omega
  ·have:=hg.2.1
   omega
theorem ZC_ {vh vp:Value}{hs:List HdI}{ACC:List Nat}{i0 pl:Int}(hb0:s0.lim<=s0.next)(hi:HiR s0 vh hs)(h16: ∀h∈hs,h.1.length=16)(ok: ∀h∈hs,okH h)(hz:ACC.length<=900000)(hl:hs.length<=1000000):
  ∀(k j n:Nat) (acc:List Nat) (v:Value) (bk:Nat) (tm:T Value) (s:St) (td:List Item),j+k=hs.length->60*k+1000<=n->skim 64 td=Lq->WrI s0 s A v acc bk->acc++Cg (hs.drop j)=ACC->
  T.get tm 5=some (.pointer (some ⟨A,0,none⟩))->T.get tm 42=some vh->T.get tm 43=some (.int .i64 (hs.length:Nat))->T.get tm 44=some (.int .i64 (j:Nat))->T.get tm 22=some vp->T.get tm 23=some (.int .i64 pl)->T.get tm 24=some (.int .i64 i0)->
  (∀(n1:Nat) (v1:Value) (bk1:Nat) (tm1:T Value) (s1:St) (td1:List Item),n-(60*k+10)<=n1->skim 64 td1=RC->WrI s0 s1 A v1 ACC bk1->T.get tm1 5=some (.pointer (some ⟨A,0,none⟩))->T.get tm1 22=some vp->T.get tm1 23=some (.int .i64 pl)->T.get tm1 24=some (.int .i64 i0)->W (runF envS n1 ⟨37,JZ,By,tm1,td1, .run, .normal,none⟩) s1 Q)->
  W (runF envS n ⟨37,JZ,By,tm,td, .run, .normal,none⟩) s Q:=by
 intro k
 induction k with
 |zero=>
  intro j n acc v bk tm s td hj hn hT' h hACC g5 g42 g43 g44 g22 g23 g24 q
  refine XZ.u ?_ hT'
  simp only[Q9,RR,SS,Ab,g43,g44]
  refine aE Ph_ ?_
  rw[List.drop_of_length_le J]at hACC
  have e:acc=ACC:=by rw[<-hACC];exact(List.append_nil acc).symm
  subst e
  exact q _ v bk _ s _ J rfl h (an g5) (an g22) (an g23) (an g24)
 |succ k ih=>
  intro j n acc v bk tm s td hj hn hT' h hACC g5 g42 g43 g44 g22 g23 g24 q
  have hjl:j<hs.length:=J
  have hb:=h.x.bnd hb0
  have hd:hs.drop j=hs[j]::hs.drop (j+1):=(List.getElem_cons_drop ..).symm
  rw[hd]at hACC
  obtain⟨b,o,c,ev,ga,_⟩:=(hi.ext0 h.x).at h16 hjl
  have hm:=List.getElem_mem hjl
  have g16:=h16 _ hm
  obtain⟨_,ok1,ok2,ok3,ok4⟩:=ok _ hm
  generalize hs[j]=hh at *
  have hACC':acc++(hh.1++(numB hh.2.1.toNat++numB hh.2.2.toNat)++Cg (hs.drop (j+1)))=ACC:=hACC
  obtain⟨aa,ha⟩: ∃a:Nat,hh.2.1=a:=⟨hh.2.1.toNat,(Int.toNat_of_nonneg ok1).symm⟩
  obtain⟨zz,hzz⟩: ∃a:Nat,hh.2.2=a:=⟨hh.2.2.toNat,(Int.toNat_of_nonneg J).symm⟩
  rw[ha,hzz,Int.toNat_natCast,Int.toNat_natCast]at hACC'
  have hlens:(acc.length+(16+((numB aa).length+(numB zz).length))+(Cg (hs.drop (j+1))).length)=ACC.length:=by
   rw[<-hACC']
   simp only[List.length_append,g16]
   omega
  refine XZ.u ?_ hT'
  simp only[Q9,RR,SS,Ab,g43,g44]
  refine aH Ph_ ?_
  refine Aod_.u ?_
  simp only[Ev_,RR,SS,Nat.reduceEqDiff, ↓reduceIte,g42,ev,g44,AO CV hjl]
  refine aJ CH ga (BN g16) λs1 m1 n1 x1=> ?_
  refine W.alloc Abz_ λs2 n2 x2 o2=> ?_
  have n2':s2.next=s1.next+19:=n2
  have h1:=h.ext0 hb0 x1
  have h2:=h1.ext0 hb0 x2
  have hA1:=h1.hAt
  refine W.store (b:=s1.next) (o:=0) CH (v:= .agg (Av hh).toArray) (BN g16) (EU _) (λi hi=>Aa.owned o2 i (by simp;omega)) λs3 n3 x3 o3=> ?_
  rw[BV]at o3
  have n3':s3.next=s2.next:=n3
  have h3:WrI s0 s3 A v acc bk:=by
   have h3':=h1.ext (s':=s3) (F:=Any) (G:=In s1.next 0 18) hb0 ((x2.weak (h1.x.bnd hb0) (λ_ _ h=>h.elim) λ_ _ h=>h.elim).trans x3 (h1.x.bnd hb0) (λ_ _ _=>trivial) λ_ _ h=>h) λy hy=>by have:=hy.1;omega
   exact h3'
  have r3:Aa s3 s1.next 0 (Av hh):=o3
  have keep: ∀{F:Nat->Prop} {s s':St} {v:Value} {acc:List Nat} {bk:Nat},WrI s0 s A v acc bk->((∀y,MkF 1 acc.length bk y->y<s1.next)\/s1.next+18<=bk)->Aa s s1.next 0 (Av hh)->Ext F (WrG A acc bk) s s'->Aa s' s1.next 0 (Av hh):=λhw hB r x=>r.ext x λi hi=>by
   rw[BN g16]at hi
   rw[Nat.zero_add]
   exact XQ hw hB hA1 hi
  have get16: ∀{s:St},Aa s s1.next 0 (Av hh)->Own s s1.next 16 (.int .i64 (aa:Nat))/\Own s s1.next 17 (.int .i64 (zz:Nat)):=λr=>by
   obtain⟨e1,e2⟩:=DE g16
   rw[ha]at e1
   rw[hzz]at e2
   exact⟨r 16 _ e1,r 17 _ e2⟩
  have hMk: ∀y,MkF 1 acc.length bk y->y<s1.next:=h1.ml.lt
  have hb3:=h3.x.bnd hb0
  refine AoA_.u ?_
  simp only[Br_,RR,SS,Nat.reduceEqDiff, ↓reduceIte,g5,Af QZ al]
  have rid:Row s3 s1.next (0+0) (u8l hh.1):=λi u e=>by
   have hi16:i<16:=by
    have:=(List.getElem?_eq_some_iff.1 e).1
    rw[AQ,g16]at this
    exact this
   have:(Av hh)[i]?=some u:=by
    unfold Av
    rw[List.getElem?_append_left (by rw[AQ,g16];exact hi16)]
    exact e
   exact(r3 i u this).at'
  refine aJ (b:=s1.next) (o:=0+0) EM rid (by rw[AQ,g16]) λs4 m4 n4 x4=> ?_
  have h4:=h3.ext0 hb0 x4
  have r4:Aa s4 s1.next 0 (Av hh):=r3.ext0 x4
  have n4':s4.next=s3.next:=n4
  refine Aga_ hb0 h4 g16 J J λu s5 v5 bk5 h5 hbk5 x5=> ?_
  have r5:=keep h4 (.inl hMk) r4 x5
  refine Aeh_.u ?_
  simp only[Le_,RR,SS,Nat.reduceEqDiff, ↓reduceIte,g5,Af Jc al]
  refine aA (b:=s1.next) (o:=0+16) Ap (get16 r5).1.at' ?_
  have x6:Ext Any Non s5 (s5.rdN (s1.next+(0+16))):=Ext.rdN (F:=Any) (G:=Non) s5 _ λ_=>trivial
  have h6:=h5.ext0 hb0 x6
  have r6:Aa (s5.rdN (s1.next+(0+16))) s1.next 0 (Av hh):=r5.ext0 x6
  have n6:(s5.rdN (s1.next+(0+16))).next=s5.next:=rfl
  have n45:s4.next<=s5.next:=x5.nxt
  refine GR hb0 h6 J (by rw[List.length_append,g16];omega) J λu7 s7 v7 bk7 h7 hbk7 x7=> ?_
  have r7:=keep h6 (.inr J) r6 x7
  have n57:s5.next<=s7.next:=x7.nxt
  refine Aap_.u ?_
  simp only[Ei_,RR,SS,Nat.reduceEqDiff, ↓reduceIte,g5,Af Ld al]
  refine aA (b:=s1.next) (o:=0+17) Ap (get16 r7).2.at' ?_
  have x8:Ext Any Non s7 (s7.rdN (s1.next+(0+17))):=Ext.rdN (F:=Any) (G:=Non) s7 _ λ_=>trivial
  have h8:=h7.ext0 hb0 x8
  refine GR hb0 h8 J (by rw[List.length_append,List.length_append,g16];omega) J λu9 s9 v9 bk9 h9 _ _=> ?_
  refine Awh_.u ?_
  have ei:=eiW (i:=j) J
  simp only[W4,RR,SS,Nat.reduceEqDiff, ↓reduceIte,Ad,g44,ei]
  refine ih (j+1) _ (((acc++hh.1)++numB aa)++numB zz) v9 bk9 _ s9 _ J J Awl_ h9 ?_ (an g5) (by simp[T.get_set,g42,ev]) (an g43) Y (an g22) (an g23) (an g24) λn1 v1 bk1 tm1 s1' td1 a1=>q n1 v1 bk1 tm1 s1' td1 J
  rw[<-hACC']
  simp only[List.append_assoc]
end
section
variable {A:Nat}{Q:Value×FrameMode->St->Prop}{s0:St}
theorem AfU_ {vp:Value}{ps:List PkI}{ACC:List Nat}(hb0:s0.lim<=s0.next)(hp:PkR s0 vp ps)(ok: ∀p∈ps,okP p.key)(hz:ACC.length<=900000)(hl:ps.length<=1000000):
  ∀(k i n:Nat) (acc:List Nat) (v:Value) (bk:Nat) (tm:T Value) (s:St) (td:List Item),i+k=ps.length->1300000*k+2000<=n->skim 64 td=JH->WrI s0 s A v acc bk->acc++DC ((ps.drop i).map PkI.key)=ACC->
  T.get tm 5=some (.pointer (some ⟨A,0,none⟩))->T.get tm 22=some vp->T.get tm 23=some (.int .i64 (ps.length:Nat))->T.get tm 24=some (.int .i64 (i:Nat))->
  (∀(n1:Nat) (v1:Value) (bk1:Nat) (tm1:T Value) (s1:St) (td1:List Item),n-(1300000*k+10)<=n1->skim 64 td1=Ss->WrI s0 s1 A v1 ACC bk1->T.get tm1 5=some (.pointer (some ⟨A,0,none⟩))->W (runF envS n1 ⟨37,JZ,By,tm1,td1, .run, .normal,none⟩) s1 Q)->
  W (runF envS n ⟨37,JZ,By,tm,td, .run, .normal,none⟩) s Q:=by
 intro k
 induction k with
 |zero=>
  intro i n acc v bk tm s td hi hn hT' h hACC g5 g22 g23 g24 q
  refine US.u ?_ hT'
  simp only[Sq,RR,SS,Ab,g23,g24]
  refine aE GF_ ?_
  rw[List.drop_of_length_le J]at hACC
  have e:acc=ACC:=by rw[<-hACC];exact(List.append_nil acc).symm
  subst e
  exact q _ v bk _ s _ J rfl h (an g5)
 |succ k ih=>
  intro i n acc v bk tm s td hi hn hT' h hACC g5 g22 g23 g24 q
  have hil:i<ps.length:=J
  have hb:=h.x.bnd hb0
  have hd:ps.drop i=ps[i]::ps.drop (i+1):=(List.getElem_cons_drop ..).symm
  rw[hd]at hACC
  obtain⟨b,o,c,ev,ga,ghi,g16,_,_⟩:=(hp.ext0 h.x).at hil
  have hm:=List.getElem_mem hil
  have ghi0:HiR s0 ps[i].v ps[i].hs:=hp.hs _ hm
  obtain⟨k1,k2,k3,k4,k5,k6⟩:=ok _ hm
  generalize ps[i]=p at *
  have hACC':acc++((numB p.num.toNat++(numB p.size.toNat++(numB p.hs.length++Cg p.hs)))++DC ((ps.drop (i+1)).map PkI.key))=ACC:=hACC
  have q1:1<=p.num:=k1
  have q2:p.num<=999999:=k2
  have q3:0<=p.size:=k3
  have q4:p.size<=65536:=k4
  have q5:p.hs.length<=20000:=k5
  obtain⟨aa,ha⟩: ∃a:Nat,p.num=a:=⟨p.num.toNat,(Int.toNat_of_nonneg J).symm⟩
  obtain⟨zz,hzz⟩: ∃a:Nat,p.size=a:=⟨p.size.toNat,(Int.toNat_of_nonneg q3).symm⟩
  rw[ha,hzz,Int.toNat_natCast,Int.toNat_natCast]at hACC'
  have hlens:acc.length+((numB aa).length+((numB zz).length+((numB p.hs.length).length+(Cg p.hs).length)))+(DC ((ps.drop (i+1)).map PkI.key)).length=ACC.length:=by
   rw[<-hACC']
   simp only[List.length_append]
   omega
  refine US.u ?_ hT'
  simp only[Sq,RR,SS,Ab,g23,g24]
  refine aH GF_ ?_
  refine Abc_.u ?_
  simp only[VP,RR,SS,Nat.reduceEqDiff, ↓reduceIte,g22,ev,g24,AO A8 hil]
  refine aJ Ca ga rfl λs1 m1 n1 x1=> ?_
  refine W.alloc FJ λs2 n2 x2 o2=> ?_
  have n2':s2.next=s1.next+4:=n2
  have h1:=h.ext0 hb0 x1
  have hA1:=h1.hAt
  refine W.store (b:=s1.next) (o:=0) Ca (v:= .agg (pkC p).toArray) rfl (I4 ghi) (λi hi=>Aa.owned o2 i (by simpa using hi)) λs3 n3 x3 o3=> ?_
  rw[BV]at o3
  have n3':s3.next=s2.next:=n3
  have h3:WrI s0 s3 A v acc bk:=h1.ext (s':=s3) (F:=Any) (G:=In s1.next 0 3) hb0 ((x2.weak (h1.x.bnd hb0) (λ_ _ h=>h.elim) λ_ _ h=>h.elim).trans x3 (h1.x.bnd hb0) (λ_ _ _=>trivial) λ_ _ h=>h) λy hy=>by have:=hy.1;omega
  have r3:Aa s3 s1.next 0 [.int .i64 (aa:Nat), .int .i64 (zz:Nat),p.v]:=by
   have e:pkC p=[.int .i64 (aa:Nat), .int .i64 (zz:Nat),p.v]:=by unfold pkC;rw[ha,hzz]
   rw[e]at o3
   exact o3
  have keep: ∀{F:Nat->Prop} {s s':St} {v:Value} {acc:List Nat} {bk:Nat},WrI s0 s A v acc bk->((∀y,MkF 1 acc.length bk y->y<s1.next)\/s1.next+3<=bk)->Aa s s1.next 0 [.int .i64 (aa:Nat), .int .i64 (zz:Nat),p.v]->Ext F (WrG A acc bk) s s'->Aa s' s1.next 0 [.int .i64 (aa:Nat), .int .i64 (zz:Nat),p.v]:=λhw hB r x=>r.ext x λi hi=>by
   have hi3:i<3:=hi
   rw[Nat.zero_add]
   exact XQ hw hB hA1 hi3
  have hMk: ∀y,MkF 1 acc.length bk y->y<s1.next:=h1.ml.lt
  refine Amx_.u ?_
  simp only[Te,RR,SS,Nat.reduceEqDiff, ↓reduceIte,g5,Af Dm al]
  refine aA (b:=s1.next) (o:=0+0) Ap (r3 0 _ rfl).at' ?_
  have x4:Ext Any Non s3 (s3.rdN (s1.next+(0+0))):=Ext.rdN (F:=Any) (G:=Non) s3 _ λ_=>trivial
  have h4:=h3.ext0 hb0 x4
  have r4:=r3.ext0 x4
  have n4:(s3.rdN (s1.next+(0+0))).next=s3.next:=rfl
  refine GR hb0 h4 J J J λu5 s5 v5 bk5 h5 hbk5 x5=> ?_
  have r5:=keep h4 (.inl hMk) r4 x5
  have n35:s3.next<=s5.next:=x5.nxt
  refine Afe_.u ?_
  simp only[HM_,RR,SS,Nat.reduceEqDiff, ↓reduceIte,g5,Af DB al]
  refine aA (b:=s1.next) (o:=0+1) Ap (r5 1 _ rfl).at' ?_
  have x6:Ext Any Non s5 (s5.rdN (s1.next+(0+1))):=Ext.rdN (F:=Any) (G:=Non) s5 _ λ_=>trivial
  have h6:=h5.ext0 hb0 x6
  have r6:=r5.ext0 x6
  have n6:(s5.rdN (s1.next+(0+1))).next=s5.next:=rfl
  refine GR hb0 h6 J (by rw[List.length_append];omega) J λu7 s7 v7 bk7 h7 hbk7 x7=> ?_
  have r7:=keep h6 (.inr J) r6 x7
  have n57:s5.next<=s7.next:=x7.nxt
  refine Awc_.u ?_
  simp only[FC_,RR,SS,Nat.reduceEqDiff, ↓reduceIte,g5,Af BG al]
  refine aA (b:=s1.next) (o:=0+2) Bu (r7 2 _ rfl).at' ?_
  have x8:Ext Any Non s7 (s7.rdN (s1.next+(0+2))):=Ext.rdN (F:=Any) (G:=Non) s7 _ λ_=>trivial
  have h8:=h7.ext0 hb0 x8
  have r8:=r7.ext0 x8
  have n8:(s7.rdN (s1.next+(0+2))).next=s7.next:=rfl
  rw[ghi.len]
  refine GR hb0 h8 J (by rw[List.length_append,List.length_append];omega) J λu9 s9 v9 bk9 h9 hbk9 x9=> ?_
  have r9:=keep h8 (.inr J) r8 x9
  refine Ajt_.u ?_
  simp only[Ty_,RR,SS, ↓reduceIte,Af BG al]
  refine aA (b:=s1.next) (o:=0+2) Bu (r9 2 _ rfl).at' ?_
  have h10:=h9.ext0 hb0 (Ext.rdN (F:=Any) (G:=Non) s9 (s1.next+(0+2)) λ_=>trivial)
  rw[ghi.len]
  refine ZC_ (vh:=p.v) (vp:=vp) (hs:=p.hs) (ACC:=(((acc++numB aa)++numB zz)++numB p.hs.length)++Cg p.hs) (i0:=(i:Nat)) (pl:=(ps.length:Nat)) hb0 ghi0 g16 k6 (by simp only[List.length_append];omega) J p.hs.length 0 _ _ v9 bk9 _ _ _ (Nat.zero_add _) J rfl h10 (by rw[List.drop_zero]) (an g5) Y Y Y (by simp[T.get_set,g22,ev]) (an g23) (an g24) λn11 v11 bk11 tm11 s11 td11 hn11 hT11 h11 e5 e22 e23 e24=> ?_
  refine AhC_.u ?_ hT11
  have ei:=eiW (i:=i) J
  simp only[Hp_,RR,SS,Ad,e24,ei]
  refine ih (i+1) _ _ v11 bk11 _ s11 _ J J Wy_ h11 ?_ (an e5) (an e22) (an e23) Y λn1 v1 bk1 tm1 s1' td1 a1=>q n1 v1 bk1 tm1 s1' td1 J
  rw[<-hACC']
  simp only[List.append_assoc]
end
theorem Gu (n:Nat):(numB n).length<=5:=by rw[F4];exact(Ed n).2
theorem Gq_: ∀hs:List HdI,(∀h∈hs,h.1.length=16)->(Cg hs).length<=26*hs.length
 |[],_=>Nat.zero_le _
 |h::hs,g=>by
  have h1:=g h am
  have h2:=Gq_ hs λx hx=>g x (by simp[hx])
  have h3:=Gu h.2.1.toNat
  have h4:=Gu h.2.2.toNat
  show((h.1++(numB h.2.1.toNat++numB h.2.2.toNat))++Cg hs).length<=_
  simp only[List.length_append,List.length_cons]
  omega
theorem Wg: ∀ps:List PkI,(∀p∈ps,∀h∈p.hs,h.1.length=16)->(DC (ps.map PkI.key)).length<=15*ps.length+26*Ar ps
 |[],_=>Nat.zero_le _
 |p::ps,g=>by
  have h1:=Gq_ p.hs (g p am)
  have h2:=Wg ps λx hx=>g x (by simp[hx])
  have h3:=Gu p.num.toNat
  have h4:=Gu p.size.toNat
  have h5:=Gu p.hs.length
  have e:Ar (p::ps)=p.hs.length+Ar ps:=by unfold Ar;simp
  show((numB p.num.toNat++(numB p.size.toNat++(numB p.hs.length++Cg p.hs)))++DC (ps.map PkI.key)).length<=_
  rw[e]
  simp only[List.length_append,List.length_cons]
  omega
theorem ST_: ∀hs:List HdI,(∀h∈hs,Byt h.1)->Byt (Cg hs)
 |[],_=>λx hx=>by cases hx
 |h::hs,g=>λx hx=>by
  have hx':x∈(h.1++(numB h.2.1.toNat++numB h.2.2.toNat))++Cg hs:=hx
  simp only[List.mem_append]at hx'
  rcases hx' with(hx|hx|hx)|hx
  ·exact g h am x hx
  ·exact Gp _ x hx
  ·exact Gp _ x hx
  ·exact ST_ hs (λy hy=>g y (by simp[hy])) x hx
theorem RW: ∀ps:List PkI,(∀p∈ps,∀h∈p.hs,Byt h.1)->Byt (DC (ps.map PkI.key))
 |[],_=>λx hx=>by cases hx
 |p::ps,g=>λx hx=>by
  have hx':x∈(numB p.num.toNat++(numB p.size.toNat++(numB p.hs.length++Cg p.hs)))++DC (ps.map PkI.key):=hx
  simp only[List.mem_append]at hx'
  rcases hx' with(hx|hx|hx|hx)|hx
  ·exact Gp _ x hx
  ·exact Gp _ x hx
  ·exact Gp _ x hx
  ·exact ST_ p.hs (g p am) x hx
  ·exact RW ps (λy hy=>g y (by simp[hy])) x hx
theorem LF_ {size:Int}(hs1:size<=65536): ∀(hs:List HdI) (e:Int),AZ size e hs=true-> ∀h∈hs,h.2.1<=65536
 |[],_,_,h,hh=>by cases hh
 |g::hs,e,hl,h,hh=>by
  have hl':(decide (e<=g.2.1)&&decide (g.2.1<=size-AV g.2.2)&&AZ size (g.2.1+AV g.2.2) hs)=true:=hl
  rw[Bool.and_eq_true,Bool.and_eq_true]at hl'
  rcases List.mem_cons.1 hh with rfl|hh
  ·have h1:=of_decide_eq_true hl'.1.2
   have h2:=(Ra h.2.2).1
   omega
  ·exact LF_ hs1 hs _ hl'.2 h hh
theorem Ny_: ∀(ps:List PkI) (pr:Option Int),BL pr ps=true-> ∀p∈ps,AZ p.size 0 p.hs=true
 |[],_,_,p,hp=>by cases hp
 |o::ps,pr,h,p,hp=>by
  unfold BL at h
  rw[Bool.and_eq_true,Bool.and_eq_true]at h
  rcases List.mem_cons.1 hp with rfl|hp
  ·exact h.1.2
  ·exact Ny_ ps _ h.2 p hp
theorem Jl {ps:List PkI}(h:AY ps=0)(h16: ∀p∈ps,∀h∈p.hs,h.1.length=16):ps.length<=500/\Ar ps<=20000/\(∀p∈ps,okP p.key)/\(Cs (ps.map PkI.key)).length<=600000:=by
 unfold AY at h
 cases hc:(decide (500<ps.length)||decide (20000<Ar ps))with
 |true=>rw[hc]at h;simp at h
 |false=>
  rw[hc]at h
  simp only[Bool.false_eq_true,if_false]at h
  rw[Bool.or_eq_false_iff]at hc
  have c1:=of_decide_eq_false hc.1
  have c2:=of_decide_eq_false hc.2
  cases hb:ps.all Bd with
  |false=>rw[hb]at h;simp at h
  |true=>
   rw[hb]at h
   simp only[if_true]at h
   cases ho:BL none ps with
   |false=>rw[ho]at h;simp at h
   |true=>
    have hl:=Wg ps h16
    have h5:=Gu (ps.map PkI.key).length
    refine⟨J,J,λp hp=> ?_, ?_⟩
    ·have b:=List.all_eq_true.1 hb p hp
     unfold Bd at b
     simp only[Bool.and_eq_true,decide_eq_true_eq,Bool.not_eq_true']at b
     obtain⟨⟨⟨⟨b1,b2⟩,b3⟩,b4⟩,b5⟩:=b
     have hlen:p.hs.length<=Ar ps:=by
      obtain⟨i,hi⟩:=List.getElem?_of_mem hp
      have hi':=(List.getElem?_eq_some_iff.1 hi).1
      have:=Ex hi'
      rw[(List.getElem?_eq_some_iff.1 hi).2]at this
      exact this
     refine⟨b1,b2,b3,b4,by show p.hs.length<=20000;omega,λg hg=> ?_⟩
     have o:=List.any_eq_false.1 b5 g hg
     unfold oddH at o
     simp only[Bool.or_eq_true,decide_eq_true_eq,not_or]at o
     have l1:=LF_ b4 p.hs 0 (Ny_ ps none ho p hp) g hg
     have l2:=o.2
     unfold AV at l2
     have l3: ¬(g.2.2<1\/1024<g.2.2):=λhh=>l2 (if_pos hh)
     have l4:=h16 p hp g hg
     exact⟨l4,by have:=o.1;omega,J,J,J⟩
    ·unfold Cs
     rw[List.length_append]
     omega
theorem MkS.bn1 {s:St}{l:List Nat}{v:Value}{b:Nat}(mk:MkS s 1 l.length (u8l l) v b)(h:0<l.length)(hl:l.length<capU):Bn s v l:=by
 rcases mk.bs hl with⟨_,e⟩|h'
 ·rw[e]at h
  cases h
 ·exact h'
section
variable {n:Nat}{s:St}{Q:Value->St->Prop}{vp:Value}{ps:List PkI}
theorem Aug_ (hb:s.lim<=s.next)(hp:PkR s vp ps)(hby: ∀p∈ps,∀h∈p.hs,Byt h.1)(hl:ps.length<=1000000)(ht:Ar ps<=10000000)(hn:700000000<=n)
  (q1:AY ps≠0-> ∀s1,Ext Any Non s s1->Q (.tuple #[.slice none 0 0, .int .i64 (AY ps)]) s1)
  (q2:AY ps=0-> ∀s1 w nb,Ext Any Non s s1->MkG s1 w (gput (Cs (ps.map PkI.key))) nb->s.next<=nb->Q (.tuple #[w, .int .i64 0]) s1):
  W (Ac envS (runF envS n) 37 [vp]) s Q:=by
 have hb0:(s.cxN cxN).lim<=(s.cxN cxN).next:=hb
 have hp0:PkR (s.cxN cxN) vp ps:=hp.same rfl rfl
 refine AjO_ λtm g0=> ?_
 refine AgJ_.u ?_
 simp only[Ab_,RR,SS]
 refine Aph_.u ?_
 simp only[Gt_,RR,SS,reduceCtorEq, ↓reduceIte,g0]
 refine M1 hb0 hp0 J J J λs1 x1=> ?_
 have y1:Ext Any Non (s.cxN cxN) s1:=x1
 have hb1:=y1.bnd hb0
 refine Xg_.u ?_
 simp only[HY_,RR,SS, ↓reduceIte,Ag]
 by_cases hc:AY ps=0
 ·refine aE SG_ ?_ rfl (an hc)
  obtain⟨c1,c2,c3,c4⟩:=Jl hc hp.h16
  have hkl:(ps.map PkI.key).length=ps.length:=List.length_map ..
  have hp1:=hp0.ext0 y1
  refine Xq_.u ?_
  simp only[PW_,RR,SS]
  refine Aqo_ hb1 J λs2 h2 n2=> ?_
  refine Apx_.u ?_
  simp only[Qh_,RR,SS,reduceCtorEq, ↓reduceIte,g0]
  rw[hp0.len]
  refine GR hb1 h2 J am J λu3 s3 v3 bk3 h3 _ _=> ?_
  refine Alz_.u ?_
  simp only[Oh_,RR,SS,reduceCtorEq, ↓reduceIte,g0]
  rw[hp0.len]
  rw[List.nil_append]at h3
  refine AfU_ (vp:=vp) (ps:=ps) (ACC:=Cs (ps.map PkI.key)) hb1 hp1 c3 J J ps.length 0 _ _ v3 bk3 _ s3 _ (Nat.zero_add _) J rfl h3 (by unfold Cs;rw[List.drop_zero,hkl]) Y Y Y Y λn4 v4 bk4 tm4 s4 td4 hn4 hT4 h4 g5=> ?_
  refine Atr_.u ?_ hT4
  simp only[RY_,RR,SS,g5]
  refine Akz_ hb1 h4 J J λs5 w5 wb5 x5 mk5 hw5=> ?_
  have y5:Ext Any Non (s.cxN cxN) s5:=(y1.then0 h4.x hb0).then0 x5 hb0
  rw[A3 (k:=0) rfl,A3 (k:=1) rfl]
  refine AvQ_.u ?_
  simp only[Ss_,RR,SS, ↓reduceIte,Ag]
  refine aE Apf_ ?_
  refine XP_.u ?_
  simp only[DR_,RR,SS,Nat.reduceEqDiff, ↓reduceIte]
  have hpos:0<(Cs (ps.map PkI.key)).length:=by
   unfold Cs
   rw[List.length_append,F4]
   have:=(Ed (ps.map PkI.key).length).1
   omega
  have hbyt:Byt (Cs (ps.map PkI.key)):=λx hx=>by
   unfold Cs at hx
   rcases List.mem_append.1 hx with hx|hx
   ·exact Gp _ x hx
   ·exact RW ps hby x hx
  refine CQ_ (y5.bnd hb0) J (mk5.bn1 hpos (by unfold capU;omega)) hbyt J λs6 w6 nb x6 hw6 hnb=> ?_
  have y6:=y5.then0 x6 hb0
  refine aB (rs:=[2,3]) (vs:=[w6, .int .i64 0]) rfl (.inl AqA_) J NI Lj_ y6.cx Y ?_
  have hn5:s.next<=s5.next:=y5.nxt
  exact q2 hc _ w6 nb y6.cx' (hw6.same rfl rfl) J
 ·refine aH SG_ ?_ rfl (an hc)
  refine Abg_.u ?_
  simp only[Vd_,RR,SS,Nat.reduceEqDiff, ↓reduceIte]
  refine aB (rs:=[2,3]) (vs:=[.slice none 0 0, .int .i64 (AY ps)]) rfl (.inl Ags_) J NI Lj_ y1.cx Y ?_
  exact q1 hc _ y1.cx'
