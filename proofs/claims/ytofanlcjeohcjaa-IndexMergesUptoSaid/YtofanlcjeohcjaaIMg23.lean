import Derived.Test.YtofanlcjeohcjaaIMg22
noncomputable section
namespace Go.Proofs.Ytofanlcjeohcjaa.Am
open Go.RowKit
theorem HiR.src {s:St}{v:Value}{hs:List HdI}(h:HiR s v hs)(h16: ∀h∈hs,h.1.length=16): ∃F,Src s 18 v hs.length (Bw hs) F:=by
 rcases h with⟨rfl,rfl⟩|⟨b,o,c,rfl,hv⟩
 ·exact⟨_,Lk⟩
 ·exact⟨_,Ej hv (D8 h16)⟩
theorem PkR.src {s:St}{v:Value}{ps:List PkI}(h:PkR s v ps): ∃F,Src s 3 v ps.length (pkCs ps) F:=by
 rcases h.row with⟨rfl,rfl⟩|⟨b,o,c,rfl,hv⟩
 ·exact⟨_,Lk⟩
 ·exact⟨_,Ej hv (Fl ps)⟩
theorem PkR.lt {s:St}{v:Value}{ps:List PkI}(h:PkR s v ps): ∀x,PkF v ps x->x<s.next:=by
 intro x hx
 rcases hx with hx|⟨p,hp,hx⟩
 ·rcases h.row with⟨rfl,_⟩|⟨b,o,c,rfl,h3⟩
  ·exact hx.elim
  ·have h1:b+o<=x:=hx.1
   have h2:x<b+o+ps.length*3:=hx.2
   have hl:x-(b+o)<(pkCs ps).length:=by rw[Fl];omega
   have:=(h3 (x-(b+o)) _ (List.getElem?_eq_getElem hl)).1
   omega
 ·exact(h.hs p hp).lt (h.h16 p hp) x hx
theorem Zj_ {ps:List PkI}(h: ∀p∈ps,oneCell p.v=true):(pkCs ps).all oneCell=true:=by
 induction ps with
 |nil=>rfl
 |cons p l ih=>
  show(pkC p++pkCs l).all oneCell=true
  rw[List.all_append,Ir (h p (by simp)),ih λx hx=>h x (by simp[hx])]
  rfl
theorem Adn_ {F G:Nat->Prop}{s s1:St}{b i:Nat}{os:List PkI}{p:PkI}(hi:i<os.length)(hr:Aa s b 0 (pkCs os))(x:Ext F G s s1)(hG: ∀y,G y->y=b+(i*3+2))(hn:p.num=os[i].num)(hs:p.size=os[i].size)(ho:Own s1 b (i*3+2) p.v):Aa s1 b 0 (pkCs (os.set i p)):=by
 intro q u e
 have hq:=(List.getElem?_eq_some_iff.1 e).1
 rw[Fl,List.length_set]at hq
 have hj:q/3<os.length:=by omega
 have hr3:q%3<3:=Nat.mod_lt _ (by decide)
 have eq:q=q/3*3+q%3:=by omega
 rw[eq]at e ⊢
 rw[Fx (by rw[List.length_set];exact hj) hr3]at e
 generalize q/3=j at *
 generalize q%3=r at *
 rw[Nat.zero_add]
 by_cases c:j=i
 ·subst c
  rw[List.getElem_set_self]at e
  match r,hr3,e with
  |0,_,e=>
   have:(pkCs os)[j*3+0]?=some u:=by
    rw[Fx hi (by decide),<-e]
    show some _=some _
    rw[hn]
   have:=hr _ _ this
   rw[Nat.zero_add]at this
   exact this.ext x λh=>by have:=hG _ h;omega
  |1,_,e=>
   have:(pkCs os)[j*3+1]?=some u:=by
    rw[Fx hi (by decide),<-e]
    show some _=some _
    rw[hs]
   have:=hr _ _ this
   rw[Nat.zero_add]at this
   exact this.ext x λh=>by have:=hG _ h;omega
  |2,_,e=>
   cases e
   exact ho
 ·rw[List.getElem_set_ne (by omega)]at e
  have:(pkCs os)[j*3+r]?=some u:=by rw[Fx hj hr3];exact e
  have:=hr _ _ this
  rw[Nat.zero_add]at this
  exact this.ext x λh=>by have:=hG _ h;omega
theorem Ur_ {os:List PkI}{i:Nat}{p:PkI}(hi:i<os.length)(h:p.key=os[i].key):(os.set i p).map PkI.key=os.map PkI.key:=by
 rw[List.map_set,h]
 apply List.ext_getElem
 ·simp
 ·intro j h1 h2
  rw[List.getElem_set]
  by_cases c:i=j
  ·subst c;simp
  ·simp[c]
section
variable {b:Nat}{vo:Value}{ps:List PkI}{s0:St}{Q:Value×FrameMode->St->Prop}
structure CpI (s0 s:St)(b:Nat)(os:List PkI):Prop where
 row:Aa s b 0 (pkCs os)
 hs: ∀p∈os,HiR s p.v p.hs/\(∀h∈p.hs,h.1.length=16)/\ ∀x,HiF p.v x->x<b\/b+os.length*3<=x
theorem AlB_ (hb0:s0.lim<=s0.next)(hz: ∀p∈ps,p.hs.length<=400000)(hpz:ps.length<=1000000)(hcx:s0.cx=cxN){c:Nat}(hvo:vo= .slice (some ⟨b,0,none⟩) ps.length c)(hbn:s0.next<=b)
  (q: ∀s1 os,Ext Any Non s0 s1->PkR s1 vo os->os.map PkI.key=ps.map PkI.key->Q (vo, .run) s1):
  ∀(m i n:Nat) (os:List PkI) (tm:T Value) (s:St) (td:List Item),i+m=ps.length->20*m+30<=n->skim 64 td=Lu->Ext Any Non s0 s->CpI s0 s b os->os.map PkI.key=ps.map PkI.key->(0<ps.length->b+ps.length*3<=s.next)->
  T.get tm 3=some vo->T.get tm 4=some (.int .i64 (i:Nat))->
  W (runF envS n ⟨36,AiD_,En,tm,td, .run, .normal,none⟩) s Q:=by
 subst hvo
 intro m
 induction m with
 |zero=>
  intro i n os tm s td hi hn hTd hx hI hk hbs h3 h4
  have hlen:os.length=ps.length:=by
   have:=congrArg List.length hk
   simpa using this
  refine LP_.u ?_ hTd
  simp only[Mh,RR,SS,Ak,h3,h4,AP Bv]
  refine aH Zz ?_
  refine NW_.u ?_
  simp only[DB_,RR,SS,Nat.reduceEqDiff, ↓reduceIte,h3]
  refine aF (rs:=[2]) (vs:=[.slice (some ⟨b,0,none⟩) ps.length c]) rfl (.inl AaB_) (by omega) WB Re_ (hx.cx.trans hcx) (by simp[T.get_set]) ?_
  exact q s os hx ⟨.inr ⟨b,0,c,by rw[hlen],hI.row.row⟩,λp hp=>(hI.hs p hp).1,λp hp=>(hI.hs p hp).2.1⟩ hk
 |succ m ih=>
  intro i n os tm s td hi hn hTd hx hI hk hbs h3 h4
  have hlen:os.length=ps.length:=by
   have:=congrArg List.length hk
   simpa using this
  have hil:i<ps.length:=by omega
  have hbs:=hbs (by omega)
  have hio:i<os.length:=by omega
  have hm:=List.getElem_mem hio
  obtain⟨gh,g16,gl⟩:=hI.hs _ hm
  have hzi:os[i].hs.length<=400000:=by
   have e:os[i].key=ps[i].key:=by
    have:=List.getElem_of_eq hk (i:=i) (by simpa using hio)
    simpa using this
   have e2:os[i].hs=ps[i].hs:=congrArg (λk=>k.2.2) e
   rw[e2]
   exact hz _ (List.getElem_mem hil)
  have g2:Own s b (0+i*3+2) os[i].v:=by
   have:=hI.row (i*3+2) os[i].v (by rw[Fx hio (by decide)];rfl)
   rwa [show 0+i*3+2=0+(i*3+2) by omega]
  refine LP_.u ?_ hTd
  simp only[Mh,RR,SS,Ak,h3,h4,AP Bv]
  refine aI Zz ?_
  refine Zk_.u ?_
  simp only[Fr_,RR,SS,Nat.reduceEqDiff, ↓reduceIte,h3,h4]
  refine aK (hx.bnd hb0) (r:=[]) Ho (by decide) rfl (Az (by decide)) λsa na xa ra=> ?_
  have na':sa.next=s.next+1:=na
  have ya:=hx.on xa hb0 λ_ _ h=>h
  simp only[AL Bv hil,Au DY (by decide)]
  refine aB Cn (g2.ext0 xa).at' ?_
  have yb:=ya.thenRd hb0 (b+(0+i*3+2))
  have xab:Ext Any Non s (sa.rdN (b+(0+i*3+2))):=(xa.any (hx.bnd hb0)).thenRd (hx.bnd hb0) _
  have nab:(sa.rdN (b+(0+i*3+2))).next=s.next+1:=na'
  generalize sa.rdN (b+(0+i*3+2))=sb at *
  obtain⟨F,hsrc⟩:=(gh.ext0 xab).src g16
  rw[CC]
  refine W.appE (s:=sb) (yb.bnd hb0) Gk (len:=0) (old:=[]) (b:=s.next) (.inl ⟨rfl,rfl,rfl⟩) hsrc.g (by decide) (by decide) (by omega) (D8 g16) (IX _) λsc vc bc hbc ec xc=> ?_
  have xc':Ext Any Non sb sc:=xc.weak (yb.bnd hb0) (λ_ _ _=>trivial) λy _ h=>absurd h.1 (by omega)
  have yc:=yb.on xc' hb0 λ_ _ h=>h
  have hbc':s.next<=bc:=by omega
  rw[List.nil_append,Nat.zero_add]at ec
  have hc:=EmS.hi ec rfl
  obtain⟨c2,evc,rvc⟩:=ec.row
  have xsc:=xab.on xc' (hx.bnd hb0) λ_ _ h=>h
  refine aL Cn hc.one ((g2.ext0 xsc)) λsd nd xd od=> ?_
  have yd:=yc.on xd hb0 λx hx hq=>by have:=hq.1;omega
  refine AiP_.u ?_
  have ei:=eiW (i:=i) (by omega)
  simp only[JV_,RR,SS,Nat.reduceEqDiff, ↓reduceIte,Aw,h4,ei]
  have hkey:(⟨os[i].num,os[i].size,vc,os[i].hs⟩:PkI).key=os[i].key:=rfl
  have hvc: ∀x,HiF vc x->s.next<=x:=λx hx=>by
   rw[evc]at hx
   have h1:bc+0<=x:=hx.1
   omega
  have hone: ∀y,In b (0+i*3+2) 1 y->y=b+(i*3+2):=λy hy=>by have h1:=hy.1;have h2:=hy.2;omega
  refine ih (i+1) _ (os.set i ⟨os[i].num,os[i].size,vc,os[i].hs⟩) _ _ _ (by omega) (by omega) Aln_ yd ⟨?_,λp hp=> ?_⟩ (by rw[Ur_ hio hkey];exact hk) (λ_=>by have:=xsc.nxt;omega) (by simp[T.get_set,h3]) (by simp[T.get_set])
  ·refine Adn_ hio (Aa.ext0 hI.row xsc) xd hone rfl rfl ?_
   rwa [show 0+i*3+2=i*3+2 by omega]at od
  ·rw[List.length_set]
   rcases List.mem_or_eq_of_mem_set hp with hp|rfl
   ·obtain⟨k1,k2,k3⟩:=hI.hs p hp
    refine⟨(k1.ext0 xsc).ext k2 xd λx hx hq=> ?_,k2,k3⟩
    have h1:=k3 x hx
    have h2:=hone x hq
    omega
   ·refine⟨(hc.same rfl rfl).ext g16 xd λx hx hq=> ?_,g16,λx hx=> .inr ?_⟩
    ·have h1:=hvc x hx
     have h2:=hone x hq
     omega
    ·have:=hvc x hx
     omega
end
theorem Amn_ {n:Nat}{vp:Value}{ps:List PkI}{s:St}{Q:Value->St->Prop}(hb:s.lim<=s.next)(hv:PkR s vp ps)(hz: ∀p∈ps,p.hs.length<=400000)(hpz:ps.length<=100000)(hn:20*ps.length+100<=n)
  (q: ∀s1 w os,Ext Any Non s s1->PkR s1 w os->os.map PkI.key=ps.map PkI.key->Q w s1):W (Ab envS (runF envS n) 36 [vp]) s Q:=by
 refine Aik_ λtm h0=> ?_
 have hb0:(s.cxN cxN).lim<=(s.cxN cxN).next:=hb
 refine Ul_.u ?_
 simp only[SZ,RR,SS]
 refine AfH_.u ?_
 simp only[Gw_,RR,SS,reduceCtorEq, ↓reduceIte,h0]
 refine aK hb0 (r:=[]) JC_ (by decide) rfl (Az (by decide)) λsa na xa ra=> ?_
 have na':sa.next=s.next+1:=na
 have xa':=xa.any hb0
 obtain⟨F,hsrc⟩:=((hv.same (s':=s.cxN cxN) rfl rfl).ext0 xa).src
 rw[CC]
 refine W.appE (s:=sa) (xa.bnd hb0) LI_ (len:=0) (old:=[]) (b:=s.next) (.inl ⟨rfl,rfl,rfl⟩) hsrc.g (by decide) (by decide) (by omega) (Fl ps) (Zj_ λp hp=>(hv.hs p hp).one) λsc vc bc hbc ec xc=> ?_
 have xc':Ext Any Non sa sc:=xc.weak (xa.bnd hb0) (λ_ _ _=>trivial) λy _ h=>absurd h.1 (by omega)
 have yc:=xa'.on xc' hb0 λ_ _ h=>h
 rw[List.nil_append,Nat.zero_add]at ec
 obtain⟨c2,evc,rvc⟩:=ec.row
 have own:Aa sc bc 0 (pkCs ps):=by
  rcases ec with⟨_,h0,h1⟩|⟨h,_⟩
  ·rw[h1];exact λi u e=>by simp at e
  ·exact h.own
 have hbc':s.next<=bc:=by rcases hbc with h|h<;>omega
 have hlc:0<ps.length->bc+ps.length*3<=sc.next:=λh0=>by
  rcases ec with⟨_,h1,_⟩|⟨h,_⟩
  ·omega
  ·have:=h.lt
   omega
 refine AdQ_.u ?_
 simp only[VA,RR,SS]
 refine AlB_ (s0:=s.cxN cxN) (b:=bc) (ps:=ps) hb0 hz (by omega) rfl evc hbc' (λs1 os x1 h1 h2=>q _ vc os x1.cx' (h1.same rfl rfl) h2) ps.length 0 _ ps _ _ _ (by omega) (by omega) rfl yc ⟨own,λp hp=>⟨((hv.hs p hp).same (s':=s.cxN cxN) rfl rfl).ext0 yc,hv.h16 p hp,λx hx=> .inl ?_⟩⟩ rfl hlc (by simp[T.get_set]) (by simp[T.get_set])
 have:=(hv.hs p hp).lt (hv.h16 p hp) x hx
 omega
theorem AjK_:Cv envS 85 []=some [.int .i64 0, .int .i64 0, .slice none 0 0]:=by kernel_rfl
theorem Ds_ {l:List Nat}(h: ∀x∈l,False):l=[]:=List.eq_nil_iff_forall_not_mem.2 h
section
variable {v:Value}{ps:List PkI}{Q:Value×FrameMode->St->Prop}{s0:St}
theorem OZ_ {C D:Nat}{f:FdI}(hb0:s0.lim<=s0.next)(hr:PkR s0 v ps)(hps:ps.length<=1000000)(hz: ∀p∈ps,p.hs.length<=400000)(hcx:s0.cx=cxN)(hC:Aa s0 C 0 (fdC f))(hB:Bs s0 f.v f.l)(hD:An s0 D 0 3)(hCD:C+2<=D)(hpD: ∀x,PkF v ps x->x<D)
  (q0: ∀s1,Ext Any (In D 0 3) s0 s1->ps.find? (hitP f)=none->Q (.tuple #[.agg (pkC ⟨0,0, .slice none 0 0,[]⟩).toArray, .bool false], .run) s1)
  (q1: ∀s1 p w,Ext Any (In D 0 3) s0 s1->ps.find? (hitP f)=some p->HiR s1 w p.hs->HiW s1 w->(∀h∈p.hs,h.1.length=16)->(∀x,HiF w x->s0.next<=x)->Q (.tuple #[.agg (pkC ⟨p.num,p.size,w,p.hs⟩).toArray, .bool true], .run) s1):
  ∀(k i n:Nat) (tm:T Value) (s:St) (td:List Item),i+k=ps.length->10*k+100<=n->skim 64 td=LW->Ext Any Non s0 s->(ps.take i).find? (hitP f)=none->
  T.get tm 0=some v->T.get tm 3=some (.pointer (some ⟨C,0,none⟩))->T.get tm 4=some (.pointer (some ⟨D,0,none⟩))->T.get tm 6=some (.int .i64 (i:Nat))->
  W (runF envS n ⟨104,Vy,Dh,tm,td, .run, .normal,none⟩) s Q:=by
 intro k
 induction k with
 |zero=>
  intro i n tm s td hi hn hT hx ha h0 h3 h4 h6
  refine LT_.u ?_ hT
  simp only[QX,RR,SS,h0,h6]
  rw[hr.len]
  try simp only[Ak]
  refine aH UR ?_
  refine Agd_.u ?_
  simp only[Aw_,RR,SS,Nat.reduceEqDiff, ↓reduceIte,h4,CA AjK_]
  refine W.store CZ rfl rfl (λj hj=>let ⟨u,hu⟩:=hD j hj;⟨u,hu.ext0 hx⟩) λs1 n1 x1 o1=> ?_
  have x1':Ext Any (In D 0 3) s0 s1:=(hx.weak hb0 (λ_ _ h=>h) λ_ _ h=>h.elim).trans x1 hb0 (λ_ _ _=>trivial) λ_ _ h=>h
  refine W.endG rfl (.inl Vp_) (by omega) O7 Ay_ (x1'.cx.trans hcx) (aO (a:=⟨D,0,none⟩) (by simp[T.get_set,h4]) ?_)
  have o1':Aa s1 D 0 (pkC ⟨0,0, .slice none 0 0,[]⟩):=o1
  refine aG CZ o1'.row rfl λs2 m2 n2 x2=> ?_
  refine aR (v:= .bool false) (by simp[T.get_set]) (aZ ?_)
  rw[show i=ps.length by omega,List.take_length]at ha
  exact q0 s2 (x1'.trans x2 hb0 (λ_ _ _=>trivial) λ_ _ h=>h.elim) ha
 |succ k ih=>
  intro i n tm s td hi hn hT hx ha h0 h3 h4 h6
  have hil:i<ps.length:=by omega
  have hb:=hx.bnd hb0
  obtain⟨bp,op,cp,ev,gp,ghp,g16,_,_⟩:=(hr.ext0 hx).at hil
  have hzi:=hz _ (List.getElem_mem hil)
  have hf:=Bo_ hil ha
  have hBs:=hB.ext0 hx
  have hCs: ∀j u,(fdC f)[j]?=some u->Own s C (0+j) u:=λj u e=>(hC j u e).ext0 hx
  refine LT_.u ?_ hT
  simp only[QX,RR,SS,h0,h6]
  rw[hr.len]
  try simp only[Ak]
  refine aI UR ?_
  refine Acm_.u ?_
  have a0:At (dSt s.mem s.next) bp (op+i*3+0) (.int .i64 ps[i].num):=(gp 0 _ rfl).same rfl rfl
  have a1:At (dSt s.mem s.next) bp (op+i*3+1) (.int .i64 ps[i].size):=(gp 1 _ rfl).same rfl rfl
  have c0:At (dSt s.mem s.next) C (0+0) (.int .i64 f.num):=(hCs 0 _ rfl).at'.same rfl rfl
  have c1:At (dSt s.mem s.next) C (0+1) f.v:=(hCs 1 _ rfl).at'.same rfl rfl
  have hx': ∀(l:List OpLog),(∀m∈l,m.wr=[])->Ext Any Non s0 ⟨(dSt s.mem s.next).mem,(dSt s.mem s.next).next,s.lim,rdsL s.lim l s.rd,wrsL s.lim l s.wr,s.cx⟩:=λl hl=>hx.then0 (Ext.draw (F:=Any) (Nat.le_refl _) (λ_ _=>rfl) hl λ_ _ _ _ _=>trivial) hb0
  have miss: ∀(n':Nat) (tm':T Value) (s':St) (td':List Item),n<=n'+6->skim 64 td'=IZ->Ext Any Non s0 s'->hitP f ps[i]=false->T.get tm' 0=some v->T.get tm' 3=some (.pointer (some ⟨C,0,none⟩))->T.get tm' 4=some (.pointer (some ⟨D,0,none⟩))->T.get tm' 6=some (.int .i64 (i:Nat))->T.get tm' 31=some (.bool false)->
    W (runF envS n' ⟨104,Vy,Dh,tm',td', .run, .normal,none⟩) s' Q:=by
   intro n' tm' s' td' hn' hT' x' ho g0 g3 g4 g6 g31
   rw[ho]at hf
   refine aH U8 ?_ hT' g31
   refine PW_.u ?_
   have ei:=eiW (i:=i) (by omega)
   simp only[UN,RR,SS,Aw,g6,ei]
   exact ih (i+1) _ _ s' _ (by omega) (by omega) Za_ x' hf (by simp[T.get_set,g0]) (by simp[T.get_set,g3]) (by simp[T.get_set,g4]) (by simp[T.get_set])
  simp only[GA_,RR,T.get_set,Nat.reduceEqDiff, ↓reduceIte,h0,h3,h6,ev,AJ,B5,B8,BU,Ag]
  rw[W_dq λs Q=>AL (s:=s) Bv hil Q]
  rw[W_dq λs Q=>Au (s:=s) Lq (by decide) Q]
  refine aC AT a0 λrd4 hr4=> ?_
  try simp only[Ag]
  rw[W_dq λs Q=>Au (s:=s) CV (by decide) Q]
  refine aC AT c0 λrd6 hr6=> ?_
  try simp only[Ag]
  rw[W_dq λs Q=>Di (s:=s) _ _]
  by_cases e1:ps[i].num=f.num
  ·simp only[decide_eq_true e1,Cs,El,Ha,if_t,Ag]
   rw[W_dq λs Q=>AL (s:=s) Bv hil Q]
   rw[W_dq λs Q=>Au (s:=s) Hv (by decide) Q]
   refine aC AT a1 λrd13 hr13=> ?_
   try simp only[Ag]
   rw[W_dq λs Q=>Au (s:=s) DX (by decide) Q]
   refine aC BW c1 λrd15 hr15=> ?_
   try simp only[Ag]
   rw[W_dq λs Q=>hBs.len' (s':=s) Al Q]
   rw[W_dq λs Q=>Di (s:=s) _ _]
   rw[AK]
   refine⟨CI (by simp) (by simp), ?_⟩
   refine aJ (VX ..) ?_
   simp only[SS, ↓reduceIte]
   have hh:hitP f ps[i]=decide (ps[i].size=(f.l.length:Nat)):=by unfold hitP;rw[decide_eq_true e1,Bool.true_and]
   by_cases e2:ps[i].size=(f.l.length:Nat)
   ·rw[decide_eq_true e2]at hh ⊢
    rw[hh]at hf
    have hfind:=S5 hf
    generalize hs1:(⟨(dSt s.mem s.next).mem,(dSt s.mem s.next).next,s.lim,_,_,s.cx⟩:St)=s1
    have m1:s1.mem=s.mem:=by rw[<-hs1];rfl
    have n1:s1.next=s.next:=by rw[<-hs1];rfl
    have y1:Ext Any Non s0 s1:=by rw[<-hs1];exact hx' _ (by simp)
    clear hs1
    refine aI U8 ?_
    refine TP_.u ?_
    have hb1:=y1.bnd hb0
    have hn01:=y1.nxt
    have a1:At (dSt s1.mem s1.next) bp (op+i*3+1) (.int .i64 ps[i].size):=(gp 1 _ rfl).same m1 n1
    have c0:At (dSt s1.mem s1.next) C (0+0) (.int .i64 f.num):=(hCs 0 _ rfl).at'.same m1 n1
    have a2:At (oSt s1.mem s1.next) bp (op+i*3+2) ps[i].v:=(gp 2 _ rfl).same m1 n1
    have l1:bp+(op+i*3+1)<s1.next:=a1.1
    have l2:bp+(op+i*3+2)<s1.next:=a2.1
    have l0:C+(0+0)<s1.next:=c0.1
    have hD1:An s1 D 0 3:=λj hj=>let ⟨u,hu⟩:=hD j hj;⟨u,hu.ext0 y1⟩
    have lD:D+3<=s1.next:=by
     obtain⟨u,hu⟩:=hD1 2 (by decide)
     have:=hu.1
     omega
    simp only[Y3,RR,T.get_set,Nat.reduceEqDiff, ↓reduceIte,h0,h3,h4,h6,ev,AJ,B5,B8,R9,QH,BU]
    rw[W_dq λs Q=>Au (s:=s) CV (by decide) Q]
    dsimp only
    try simp only[AJ]
    refine aC AT c0 λrd1 hr1=> ?_
    try simp only[Ag]
    rw[W_dq λs Q=>AL (s:=s) Bv hil Q]
    try simp only[AJ]
    rw[W_dq λs Q=>Au (s:=s) Hv (by decide) Q]
    try simp only[AJ]
    refine aC AT a1 λrd6 hr6=> ?_
    try simp only[AJ]
    refine aU (aK (s:=oSt s1.mem s1.next) (Nat.le_refl _) (r:=[]) Ho (by decide) rfl (Az (by decide)) λs7 n7 x7 o7=>⟨Non,x7,λrd7 hr7=> ?_⟩)
    have n7':s7.next=s1.next+1:=n7
    obtain rfl:=Ds_ λx hx=>(hr7 x hx).2
    try simp only[Ag]
    rw[W_dq λs Q=>AL (s:=s) Bv hil Q]
    try simp only[AJ]
    rw[W_dq λs Q=>Au (s:=s) DY (by decide) Q]
    try simp only[AJ]
    refine aC Cn ((a2.ext0 x7).same rfl rfl) λrd12 hr12=> ?_
    try simp only[AJ]
    obtain⟨F,hsrc⟩:=(((ghp.same (s':=oSt s1.mem s1.next) m1 n1).ext0 x7).same (s':=oSt s7.mem s7.next) rfl rfl).src g16
    refine W.dopG ?_
    rw[CC]
    refine W.appE (s:=oSt s7.mem s7.next) (b:=s1.next) (Nat.le_refl _) Gk (len:=0) (old:=[]) (.inl ⟨rfl,rfl,rfl⟩) hsrc.g (by decide) (by decide) (by omega) (D8 g16) (IX _) λs13 v13 b13 hb13 e13 x13=>⟨_,_,x13,λrd13 wr13 hr13 hw13=> ?_⟩
    have hnm: ∀y,¬MkF 18 0 s1.next y:=λy hy=>absurd hy.1 (by simp)
    obtain rfl:=Ds_ λx hx=>hnm x (hw13 x hx).2
    rw[List.nil_append,Nat.zero_add]at e13
    have hb13':s1.next<=b13:=by
     have h1:(oSt s7.mem s7.next).next=s7.next:=rfl
     rcases hb13 with rfl|h
     ·exact Nat.le_refl _
     ·omega
    have n13:s7.next<=s13.next:=x13.nxt
    have hh13:=EmS.hi e13 rfl
    obtain⟨wa,wn,wc,ew⟩:=hh13.slice
    try simp only[AJ]
    rw[ew]
    have hbld: ∀(s:St) (Q:Value->St->Prop),W (Bj envS 85 [(0, .int .i64 f.num),(1, .int .i64 ps[i].size),(2, .slice wa wn wc)]) s Q=Q (.agg (pkC ⟨f.num,ps[i].size, .slice wa wn wc,ps[i].hs⟩).toArray) s:=λs Q=>CA (MG f.num ps[i].size wa wn wc) Q
    refine Eq.mpr (W_dq hbld) ?_
    dsimp only
    rw[<-ew]
    try simp only[AJ]
    have hD13:An (oSt s13.mem s13.next) D 0 3:=λj hj=>by
     obtain⟨u,hu⟩:=hD1 j hj
     exact⟨u,((((hu.same (s':=oSt s1.mem s1.next) rfl rfl).ext0 x7).same (s':=oSt s7.mem s7.next) rfl rfl).ext x13 (hnm _)).same rfl rfl⟩
    refine W.dopG (W.store CZ (v:= .agg (pkC ⟨f.num,ps[i].size,v13,ps[i].hs⟩).toArray) rfl (Ir hh13.one) hD13 λs15 n15 x15 o15=>⟨In D 0 3,In D 0 3,x15,λrd15 wr15 hr15 hw15=> ?_⟩)
    have n15':s15.next=s13.next:=n15
    try simp only[Ag]
    rw[AK]
    refine⟨D3 ?_, ?_⟩
    ·simp only[List.reverse_cons,List.reverse_nil,List.nil_append,List.cons_append,allP,CF,List.take,DB]
     have f1: ∀x,x∈rd1-> ¬s1.next<=x:=λx hx=>by have:=hr1 x hx;omega
     have f6: ∀x,x∈rd6-> ¬s1.next<=x:=λx hx=>by have:=hr6 x hx;omega
     have f12: ∀x,x∈rd12-> ¬s1.next<=x:=λx hx=>by have:=hr12 x hx;omega
     simp+contextual [f1,f6,f12]
     exact⟨.inl rfl, .inl rfl, .inl rfl, .inl rfl, .inl rfl, .inl rfl⟩
    ·refine aJ (Aaj_ ..) ?_
     simp only[SS]
     generalize hs9:(⟨(dSt s15.mem s15.next).mem,(dSt s15.mem s15.next).next,s1.lim,_,_,s1.cx⟩:St)=s9
     have m9:s9.mem=s15.mem:=by rw[<-hs9];rfl
     have n9:s9.next=s15.next:=by rw[<-hs9];rfl
     have x9:Ext Any (In D 0 3) s1 s9:=by
      rw[<-hs9]
      refine aP (by show s1.next<=s15.next;omega) (λx hx hg=> ?_) ?_ λ_ _ _ _ _=>trivial
      ·have e15:T.get s15.mem x=T.get s13.mem x:=x15.mem x (by show x<s13.next;omega) hg
       have e13:T.get s13.mem x=T.get s7.mem x:=x13.mem x (by show x<s7.next;omega) (hnm x)
       have e7:T.get s7.mem x=T.get s1.mem x:=x7.mem x hx λh=>h
       exact e15.trans (e13.trans e7)
      ·simp only[List.mem_cons,List.not_mem_nil,or_false]
       rintro m (rfl|rfl|rfl|rfl|rfl|rfl|rfl|rfl|rfl|rfl|rfl|rfl|rfl|rfl|rfl|rfl) x hx hl<;>first|(cases hx;done)|(exact(hw15 x hx).2)
     have y9:Ext Any (In D 0 3) s0 s9:=(y1.weak hb0 (λ_ _ h=>h) λ_ _ h=>h.elim).trans x9 hb0 (λ_ _ _=>trivial) λ_ _ h=>h
     refine W.endG rfl (.inl Aan_) (by omega) O7 Ay_ (y9.cx.trans hcx) (aO (a:=⟨D,0,none⟩) (by simp[T.get_set,h4]) ?_)
     have o9:Aa s9 D 0 (pkC ⟨f.num,ps[i].size,v13,ps[i].hs⟩):=λj u e=>(o15 j u e).same m9 n9
     have lo13: ∀x,HiF v13 x->s1.next<=x:=λx hx=>by
      obtain⟨c2,evc,_⟩:=e13.row
      rw[evc]at hx
      have h1:b13+0<=x:=hx.1
      omega
     have hD3: ∀x,HiF v13 x-> ¬In D 0 3 x:=λx h1 h2=>by
      have:=lo13 x h1
      have:=h2.2
      omega
     have r9:HiR s9 v13 ps[i].hs:=(((hh13.same (s':=oSt s13.mem s13.next) rfl rfl).ext g16 x15 hD3)).same m9 n9
     have w9:HiW s9 v13:=((((EmS.hw e13 g16 rfl).same (s':=oSt s13.mem s13.next) rfl rfl).ext x15 hD3)).same m9 n9
     refine aG CZ o9.row rfl λs2 m2 n2 x2=> ?_
     refine aR (v:= .bool true) (by simp[T.get_set]) (aZ ?_)
     have:=q1 s2 ps[i] v13 (y9.trans x2 hb0 (λ_ _ _=>trivial) λ_ _ h=>h.elim) hfind (r9.same m2 n2) (w9.same m2 n2) g16 (λx hx=>by have:=lo13 x hx;omega)
     rw[e1]at this
     exact this
   ·rw[decide_eq_false e2]at hh ⊢
    exact miss _ _ _ _ (by omega) rfl (hx' _ (by simp)) hh (by simp[T.get_set,h0,ev]) (by simp[T.get_set,h3]) (by simp[T.get_set,h4]) (by simp[T.get_set,h6]) (by simp[T.get_set])
  ·have hh:hitP f ps[i]=false:=by unfold hitP;rw[decide_eq_false e1,Bool.false_and]
   simp only[decide_eq_false e1,Cs,El,Fj,if_f,Ag]
   rw[AK]
   refine⟨CI (by simp) (by simp), ?_⟩
   refine aJ (VX ..) ?_
   simp only[SS,reduceCtorEq, ↓reduceIte]
   exact miss _ _ _ _ (by omega) rfl (hx' _ (by simp)) hh (by simp[T.get_set,h0,ev]) (by simp[T.get_set,h3]) (by simp[T.get_set,h4]) (by simp[T.get_set,h6]) (by simp[T.get_set])
end
theorem OX_ {n:Nat}{v:Value}{ps:List PkI}{f:FdI}{s:St}{Q:Value->St->Prop}(hb:s.lim<=s.next)(hr:PkR s v ps)(hps:ps.length<=1000000)(hz: ∀p∈ps,p.hs.length<=400000)(hB:Bs s f.v f.l)(hn:10*ps.length+200<=n)
  (q0: ∀s1,Ext Any Non s s1->ps.find? (hitP f)=none->Q (.tuple #[.agg (pkC ⟨0,0, .slice none 0 0,[]⟩).toArray, .bool false]) s1)
  (q1: ∀s1 p w,Ext Any Non s s1->ps.find? (hitP f)=some p->HiR s1 w p.hs->HiW s1 w->(∀h∈p.hs,h.1.length=16)->(∀x,HiF w x->s.next<=x)->Q (.tuple #[.agg (pkC ⟨p.num,p.size,w,p.hs⟩).toArray, .bool true]) s1):
  W (Ab envS (runF envS n) 104 [v, .agg (fdC f).toArray]) s Q:=by
 refine Ait_ λtm h0 h1=> ?_
 have hr':PkR (s.cxN cxN) v ps:=hr.same rfl rfl
 refine Aho_.u ?_
 simp only[Ep_,RR,SS,h1]
 refine W.box λsa na xa oa=> ?_
 rw[C2]at oa
 have oa':Aa sa s.next 0 (fdC f):=oa
 have na':sa.next=s.next+3:=na
 refine W.alloc Jb λsb nb xb ob=> ?_
 have nb':sb.next=sa.next+4:=nb
 have xs:Ext Any Non (s.cxN cxN) sb:=(xa.any hb).then0 xb hb
 refine OH_.u ?_
 simp only[JP_,RR,SS]
 have hlt: ∀x,PkF v ps x->x<sa.next:=λx hx=>by have:=hr.lt x hx;omega
 refine OZ_ (s0:=sb) (C:=s.next) (D:=sa.next) (f:=f) (xs.bnd hb) (hr'.ext0 xs) hps hz xs.cx (λj u e=>(oa' j u e).ext0 xb) ((hB.same (s':=s.cxN cxN) rfl rfl).ext0 xs) (Aa.owned ob) (by omega) hlt (λs1 x1 hf=> ?_) (λs1 p w x1 hf h2 h3 h4 h5=> ?_) ps.length 0 _ _ sb _ (by omega) (by omega) rfl (Ext.refl _) rfl (by simp[T.get_set,h0]) (by simp[T.get_set];rfl) (by simp[T.get_set]) (by simp[T.get_set])
 ·exact q0 _ (xs.thenW x1 hb (by show s.next<=sa.next;omega)).cx' hf
 ·exact q1 _ p w (xs.thenW x1 hb (by show s.next<=sa.next;omega)).cx' hf (h2.same rfl rfl) (h3.same rfl rfl) h4 λx hx=>by have:=h5 x hx;omega
def Ia:Nat:=Ar Try.f21
def ZY:Code:=Try.f21.body.getD .skip
theorem Jm:envS.fn.get 21=some Try.f21:=by kernel_rfl
theorem AbF_:G1 envS 21 11 Ia ZY:=λh=>
 aM Jm (h _ (by kernel_rfl))
theorem QA:Try.f21.results.toList=[.tmp 2]:=by kernel_rfl
def Bu_:List Item:=skim 64 [.code ZY]
def UE:=nx Bu_
def QK:=nx UE
def FS_:=bt QK
def Cv_:=bf QK
def SN:=nx FS_
def MK_:=nx Cv_
def GU_:Rg:=λE call round tm=>
 mv (some (.int .i64 0)) λv2=>
 setF 2 v2 tm λtm1=>
 M.pure tm1
theorem VL_:RegEq 21 11 Ia Bu_ GU_:={}
def JD_:Rg:=λE call round tm=>
 mv (T.get tm 0) λv3=>
 bI E .lss 3 (.tmp 3) (.const (.int .i64 1)) (some v3) (some (.int .i64 1)) λv4=>
 mv (some v4) λv5=>
 sK v5 false (oS (T.get tm 0) λa=>M.pure a) λv6=>
 sK v5 false (oS (some v6) λa=>oS (some (.int .i64 1024)) λb=>Cl.get (aBin E .gtr 3 (.tmp 6) (.const (.int .i64 1024))) a b) λv7=>
 M.bind (M.on (some v5) λa=>M.on (some (.bool true)) λb=>M.on (some v7) λc=>A3 a b c) λv8=>
 setF 8 v8 tm λtm1=>
 M.pure tm1
theorem Aiq_:RegEq 21 11 Ia UE JD_:={}
theorem Ns:Ah QK=some 8:=by kernel_rfl
def R5:Rg:=λE call round tm=>
 mv (some (.int .i64 0)) λv2=>
 setF 2 v2 tm λtm1=>
 M.pure tm1
theorem JL_:RegEq 21 11 Ia FS_ R5:={}
def UV:Rg:=λE call round tm=>
 mv (T.get tm 0) λv9=>
 bI E .add 3 (.tmp 9) (.const (.int .i64 26)) (some v9) (some (.int .i64 26)) λv10=>
 mv (some v10) λv2=>
 setF 2 v2 tm λtm1=>
 M.pure tm1
theorem AbW_:RegEq 21 11 Ia Cv_ UV:={}
theorem Jy_: ∃k,SN= .code .ret::k:=⟨SN.tail,by kernel_rfl⟩
theorem YS_: ∃k,MK_= .code .ret::k:=⟨MK_.tail,by kernel_rfl⟩
def BY:Nat:=Ar Try.f25
abbrev YZ:Nat:=73
def Dl_:Code:=Try.f25.body.getD .skip
theorem Gh:envS.fn.get 25=some Try.f25:=by kernel_rfl
theorem Aax_:G1 envS 25 73 BY Dl_:=λh=>
 aM Gh (h _ (by kernel_rfl))
theorem IS:Try.f25.results.toList=[.tmp 2, .tmp 3, .tmp 4, .tmp 5]:=by kernel_rfl
def Lk_:List Item:=skim 64 [.code Dl_]
def TS:=nx Lk_
def GY_:=nx TS
def KH:=nx GY_
def Qw:=nx KH
def YM:=bt Qw
def YB:=bf Qw
def GZ_:=nx YM
def MQ:=nx YB
def JN_:=bt MQ
def EL_:=bf MQ
def BY_:=nx JN_
def Ar_:=nx EL_
def NG:=nx Ar_
def Yx:=bt NG
def SE:=bf NG
def Uw:=nx Yx
def RO:=nx SE
def Zy:=bt RO
def Vz:=bf RO
def ZQ:=nx Zy
def BZ_:=nx Vz
def Np:=nx BZ_
def Eq_:=bt Np
def KX_:=bf Np
def Jo:=nx Eq_
theorem Sb_:skim 64 KX_.tail=Jo:=by kernel_rfl
theorem Zg_:skim 64 Jo.tail=KH:=by kernel_rfl
def VM:Rg:=λE call round tm=>
 mv (some (.slice none 0 0)) λv2=>
 setF 2 v2 tm λtm1=>
 mv (some (.int .i64 0)) λv3=>
 setF 3 v3 tm1 λtm2=>
 mv (some (.int .i64 0)) λv4=>
 setF 4 v4 tm2 λtm3=>
 mv (some (.int .i64 0)) λv5=>
 setF 5 v5 tm3 λtm4=>
 M.pure tm4
theorem XQ_:RegEq 25 73 BY Lk_ VM:={}
def Tw:Rg:=λE call round tm=>
 mv (some (.slice none 0 0)) λv6=>
 setF 6 v6 tm λtm1=>
 M.pure tm1
theorem AdP_:RegEq 25 73 BY TS Tw:={}
def HY_:Rg:=λE call round tm=>
 mv (some (.int .i64 0)) λv7=>
 setF 7 v7 tm λtm1=>
 mv (some (.int .i64 0)) λv8=>
 setF 8 v8 tm1 λtm2=>
 M.pure tm2
theorem TC_:RegEq 25 73 BY GY_ HY_:={}
def QQ:Rg:=λE call round tm=>
 mv (T.get tm 7) λv14=>
 mv (T.get tm 0) λv15=>
 lN E .len [22] [(some v15)] λv16=>
 bI E .eql 3 (.tmp 14) (.tmp 16) (some v14) (some v16) λv17=>
 setF 17 v17 tm λtm1=>
 M.pure tm1
theorem AM_:RegEq 25 73 BY KH QQ:={}
theorem Nc:Ah Qw=some 17:=by kernel_rfl
def RQ:Rg:=λE call round tm=>
 mv (T.get tm 6) λv18=>
 mv (T.get tm 7) λv19=>
 mv (T.get tm 8) λv20=>
 mv (some v18) λv2=>
 setF 2 v2 tm λtm1=>
 mv (some v19) λv3=>
 setF 3 v3 tm1 λtm2=>
 mv (some v20) λv4=>
 setF 4 v4 tm2 λtm3=>
 mv (some (.int .i64 0)) λv5=>
 setF 5 v5 tm3 λtm4=>
 M.pure tm4
theorem Yj:RegEq 25 73 BY YM RQ:={}
def V3:Rg:=λE call round tm=>
 mv (T.get tm 0) λv21=>
 lN E .len [22] [(some v21)] λv22=>
 mv (T.get tm 7) λv23=>
 bI E .sub 3 (.tmp 22) (.tmp 23) (some v22) (some v23) λv24=>
 bI E .lss 3 (.tmp 24) (.const (.int .i64 6)) (some v24) (some (.int .i64 6)) λv25=>
 setF 25 v25 tm λtm1=>
 M.pure tm1
theorem AhU_:RegEq 25 73 BY YB V3:={}
theorem FU_: ∃k,GZ_= .code .ret::k:=⟨GZ_.tail,by kernel_rfl⟩
theorem Fk_:Ah MQ=some 25:=by kernel_rfl
def VO:Rg:=λE call round tm=>
 mv (T.get tm 6) λv26=>
 mv (T.get tm 7) λv27=>
 mv (T.get tm 8) λv28=>
 mv (some v26) λv2=>
 setF 2 v2 tm λtm1=>
 mv (some v27) λv3=>
 setF 3 v3 tm1 λtm2=>
 mv (some v28) λv4=>
 setF 4 v4 tm2 λtm3=>
 mv (some (.int .i64 1)) λv5=>
 setF 5 v5 tm3 λtm4=>
 M.pure tm4
theorem Tp_:RegEq 25 73 BY JN_ VO:={}
def Gc_:Rg:=λE call round tm=>
 mv (T.get tm 0) λv30=>
 mv (T.get tm 7) λv31=>
 cN call round 69 [(some v30),(some v31)] λv32=>
 mv (some v32) λv29=>
 eX 0 (some v29) λv33=>
 eX 1 (some v29) λv34=>
 mv (some v33) λv9=>
 setF 9 v9 tm λtm1=>
 mv (some v34) λv10=>
 setF 10 v10 tm1 λtm2=>
 M.pure tm2
theorem AjI_:RegEq 25 73 BY EL_ Gc_:={}
theorem Xc_: ∃k,BY_= .code .ret::k:=⟨BY_.tail,by kernel_rfl⟩
def OD:Rg:=λE call round tm=>
 mv (T.get tm 10) λv35=>
 M.bind (oS (some v35) λa=>kUn E.P .not a) λv36=>
 setF 36 v36 tm λtm1=>
 M.pure tm1
theorem Uj:RegEq 25 73 BY Ar_ OD:={}
theorem U4:Ah NG=some 36:=by kernel_rfl
def Me_:Rg:=λE call round tm=>
 mv (T.get tm 6) λv37=>
 mv (T.get tm 7) λv38=>
 mv (T.get tm 8) λv39=>
 mv (some v37) λv2=>
 setF 2 v2 tm λtm1=>
 mv (some v38) λv3=>
 setF 3 v3 tm1 λtm2=>
 mv (some v39) λv4=>
 setF 4 v4 tm2 λtm3=>
 mv (some (.int .i64 2)) λv5=>
 setF 5 v5 tm3 λtm4=>
 M.pure tm4
theorem XV_:RegEq 25 73 BY Yx Me_:={}
def Zr:Rg:=λE call round tm=>
 mv (T.get tm 0) λv40=>
 lN E .len [22] [(some v40)] λv41=>
 mv (T.get tm 7) λv42=>
 bI E .sub 3 (.tmp 41) (.tmp 42) (some v41) (some v42) λv43=>
 mv (T.get tm 9) λv44=>
 cN call round 21 [(some v44)] λv45=>
 bI E .lss 3 (.tmp 43) (.tmp 45) (some v43) (some v45) λv46=>
 setF 46 v46 tm λtm1=>
 M.pure tm1
theorem Aid_:RegEq 25 73 BY SE Zr:={}
theorem AcA_: ∃k,Uw= .code .ret::k:=⟨Uw.tail,by kernel_rfl⟩
theorem At_:Ah RO=some 46:=by kernel_rfl
def LM_:Rg:=λE call round tm=>
 mv (T.get tm 6) λv47=>
 mv (T.get tm 7) λv48=>
 mv (T.get tm 8) λv49=>
 mv (some v47) λv2=>
 setF 2 v2 tm λtm1=>
 mv (some v48) λv3=>
 setF 3 v3 tm1 λtm2=>
 mv (some v49) λv4=>
 setF 4 v4 tm2 λtm3=>
 mv (some (.int .i64 1)) λv5=>
 setF 5 v5 tm3 λtm4=>
 M.pure tm4
theorem Tf_:RegEq 25 73 BY Zy LM_:={}
def Lu_:Rg:=λE call round tm=>
 mv (T.get tm 0) λv51=>
 mv (T.get tm 7) λv52=>
 bI E .add 3 (.tmp 52) (.const (.int .i64 6)) (some v52) (some (.int .i64 6)) λv53=>
 mv (T.get tm 9) λv54=>
 cN call round 70 [(some v51),(some v53),(some v54)] λv55=>
 mv (some v55) λv50=>
 eX 0 (some v50) λv56=>
 eX 1 (some v50) λv57=>
 eX 2 (some v50) λv58=>
 M.bind (AI E 26) λv11=>
 setF 11 v11 tm λtm1=>
 M.bind (oS (some v11) λa=>oS (some v56) λb=>Ao E 26 a b) λ_=>
 mv (some v57) λv12=>
 mv (some v58) λv13=>
 setF 13 v13 tm1 λtm2=>
 M.pure tm2
theorem AgU_:RegEq 25 73 BY Vz Lu_:={}
theorem Vy_: ∃k,ZQ= .code .ret::k:=⟨ZQ.tail,by kernel_rfl⟩
def Gf_:Rg:=λE call round tm=>
 mv (T.get tm 13) λv59=>
 setF 59 v59 tm λtm1=>
 M.pure tm1
theorem Aeo_:RegEq 25 73 BY BZ_ Gf_:={}
theorem UH:Ah Np=some 59:=by kernel_rfl
def Gu_:Rg:=λE call round tm=>
 mv (T.get tm 6) λv60=>
 lD E 26 (T.get tm 11) λv61=>
 mv (T.get tm 7) λv62=>
 mv (T.get tm 9) λv63=>
 M.bind (oS (seqP [(0,(some v61)),(1,(some v62)),(2,(some v63))]) λps=>Bj E 35 ps) λv64=>
 M.bind (oS (seqP [(0,(some v64))]) λps=>AU E 36 1 ps) λv65=>
 lN E .append [36,36] [(some v60),(some v65)] λv66=>
 mv (some v66) λv6=>
 setF 6 v6 tm λtm1=>
 M.pure tm1
theorem UD_:RegEq 25 73 BY Eq_ Gu_:={}
def DJ_:Rg:=λE call round tm=>
 mv (T.get tm 8) λv67=>
 bI E .add 3 (.tmp 67) (.const (.int .i64 1)) (some v67) (some (.int .i64 1)) λv68=>
 mv (some v68) λv8=>
 setF 8 v8 tm λtm1=>
 M.pure tm1
theorem Uw_:RegEq 25 73 BY KX_ DJ_:={}
def Tb:Rg:=λE call round tm=>
 mv (T.get tm 7) λv69=>
 mv (T.get tm 9) λv70=>
 cN call round 21 [(some v70)] λv71=>
 bI E .add 3 (.tmp 69) (.tmp 71) (some v69) (some v71) λv72=>
 mv (some v72) λv7=>
 setF 7 v7 tm λtm1=>
 M.pure tm1
theorem Ob_:RegEq 25 73 BY Jo Tb:={}
def Ic:Nat:=Ar Try.f66
def EY_:Code:=Try.f66.body.getD .skip
theorem GI_:envS.fn.get 66=some Try.f66:=by kernel_rfl
theorem Zq_:G1 envS 66 30 Ic EY_:=λh=>
 aM GI_ (h _ (by kernel_rfl))
theorem AjD_:Try.f66.results.toList=[.tmp 2]:=by kernel_rfl
def AW_:List Item:=skim 64 [.code EY_]
def Be_:=nx AW_
def CQ_:=nx Be_
def Jg_:=nx CQ_
def U7:=nx Jg_
def Jb_:Rg:=λE call round tm=>
 mv (some (.slice none 0 0)) λv2=>
 setF 2 v2 tm λtm1=>
 M.pure tm1
theorem Aco_:RegEq 66 30 Ic AW_ Jb_:={}
def TU:Rg:=λE call round tm=>
 mv (T.get tm 0) λv5=>
 bI E .quo 3 (.tmp 5) (.const (.int .i64 256)) (some v5) (some (.int .i64 256)) λv6=>
 vB E 3 5 (some v6) λv7=>
 mv (T.get tm 0) λv8=>
 bI E .rem 3 (.tmp 8) (.const (.int .i64 256)) (some v8) (some (.int .i64 256)) λv9=>
 vB E 3 5 (some v9) λv10=>
 mv (T.get tm 0) λv11=>
 bI E .quo 3 (.tmp 11) (.const (.int .i64 256)) (some v11) (some (.int .i64 256)) λv12=>
 bI E .sub 3 (.const (.int .i64 255)) (.tmp 12) (some (.int .i64 255)) (some v12) λv13=>
 vB E 3 5 (some v13) λv14=>
 mv (T.get tm 0) λv15=>
 bI E .rem 3 (.tmp 15) (.const (.int .i64 256)) (some v15) (some (.int .i64 256)) λv16=>
 bI E .sub 3 (.const (.int .i64 255)) (.tmp 16) (some (.int .i64 255)) (some v16) λv17=>
 vB E 3 5 (some v17) λv18=>
 M.bind (oS (seqP [(0,(some v7)),(1,(some v10)),(2,(some v14)),(3,(some v18))]) λps=>AU E 22 4 ps) λv19=>
 mv (some v19) λv3=>
 setF 3 v3 tm λtm1=>
 M.pure tm1
theorem Us_:RegEq 66 30 Ic Be_ TU:={}
def Yd:Rg:=λE call round tm=>
 mv (T.get tm 3) λv20=>
 cN call round 108 [(some v20)] λv21=>
 mv (some v21) λv4=>
 setF 4 v4 tm λtm1=>
 M.pure tm1
theorem ZA_:RegEq 66 30 Ic CQ_ Yd:={}
def MC_:Rg:=λE call round tm=>
 mv (T.get tm 3) λv22=>
 mv (T.get tm 4) λv23=>
 vB E 51 5 (some v23) λv24=>
 mv (T.get tm 4) λv25=>
 bI E .shr 51 (.tmp 25) (.const (.int .u64 8)) (some v25) (some (.int .u64 8)) λv26=>
 vB E 51 5 (some v26) λv27=>
 M.bind (oS (seqP [(0,(some v24)),(1,(some v27))]) λps=>AU E 22 2 ps) λv28=>
 lN E .append [22,22] [(some v22),(some v28)] λv29=>
 mv (some v29) λv2=>
 setF 2 v2 tm λtm1=>
 M.pure tm1
theorem Pz_:RegEq 66 30 Ic Jg_ MC_:={}
theorem TN_: ∃k,U7= .code .ret::k:=⟨U7.tail,by kernel_rfl⟩
def Da:Nat:=Ar Try.f69
abbrev Is_:Nat:=45
def Fe_:Code:=Try.f69.body.getD .skip
theorem Le:envS.fn.get 69=some Try.f69:=by kernel_rfl
theorem DA_:G2 envS 69 45 Da Fe_:=λh=>
 aM Le (h _ (by kernel_rfl) (by kernel_rfl))
theorem PB:Try.f69.results.toList=[.tmp 4, .tmp 5]:=by kernel_rfl
def Um:List Item:=skim 64 [.code Fe_]
def Kx_:=nx Um
def Ov:=nx Kx_
def QD:=bt Ov
def QT:=bf Ov
def IS_:=nx QD
def Pc:=nx QT
def NI:=nx Pc
def Oa:=bt NI
def TQ:=bf NI
def Eu_:=nx Oa
def Tl:=nx TQ
def RI:Rg:=λE call round tm=>
 mv (some (.int .i64 0)) λv4=>
 setF 4 v4 tm λtm1=>
 mv (some (.bool false)) λv5=>
 setF 5 v5 tm1 λtm2=>
 M.pure tm2
theorem KO_:RegEq 69 45 Da Um RI:={}
def Pu:Rg:=λE call round tm=>
 mv (T.get tm 1) λv7=>
 bI E .lss 3 (.tmp 7) (.const (.int .i64 0)) (some v7) (some (.int .i64 0)) λv8=>
 mv (some v8) λv9=>
 sK v9 false (oS (T.get tm 1) λa=>M.pure a) λv10=>
 sK v9 false (oS (T.get tm 0) λa=>M.pure a) λv11=>
 sK v9 false (oS (seqO [(some v11)]) λl=>AS E .len [22] l) λv12=>
 sK v9 false (oS (some v12) λa=>oS (some (.int .i64 6)) λb=>Cl.get (aBin E .sub 3 (.tmp 12) (.const (.int .i64 6))) a b) λv13=>
 sK v9 false (oS (some v10) λa=>oS (some v13) λb=>Cl.get (aBin E .gtr 3 (.tmp 10) (.tmp 13)) a b) λv14=>
 M.bind (M.on (some v9) λa=>M.on (some (.bool true)) λb=>M.on (some v14) λc=>A3 a b c) λv15=>
 setF 15 v15 tm λtm1=>
 M.pure tm1
theorem Vr:RegEq 69 45 Da Kx_ Pu:={}
theorem MY:Ah Ov=some 15:=by kernel_rfl
def TN:Rg:=λE call round tm=>
 mv (some (.int .i64 0)) λv4=>
 setF 4 v4 tm λtm1=>
 mv (some (.bool false)) λv5=>
 setF 5 v5 tm1 λtm2=>
 M.pure tm2
theorem Ol_:RegEq 69 45 Da QD TN:={}
def Cp_:Rd:=λE call round tm=>
 PD (T.get tm 0) λp0=>
 PD (T.get tm 1) λp1=>
 ID E 22 (some p0.1) (some p1.1) λp2=>
 LD E 5 (some p2.1) λp3=>
 VB E 5 3 (some p3.1) λp4=>
 BI E .mul 3 (.const (.int .i64 256)) (.tmp 20) (some (.int .i64 256)) (some p4.1) λp5=>
 PD (T.get tm 0) λp6=>
 PD (T.get tm 1) λp7=>
 BI E .add 3 (.tmp 23) (.const (.int .i64 1)) (some p7.1) (some (.int .i64 1)) λp8=>
 ID E 22 (some p6.1) (some p8.1) λp9=>
 LD E 5 (some p9.1) λp10=>
 VB E 5 3 (some p10.1) λp11=>
 BI E .add 3 (.tmp 21) (.tmp 27) (some p5.1) (some p11.1) λp12=>
 fJ [p12,p11,p10,p9,p8,p7,p6,p5,p4,p3,p2,p1,p0] tm
theorem ZS_:DrawEq 69 45 Da QT [0,0,3,7,15,31,0,0,128,448,960,1984,4095,8191] Cp_:={}
theorem Wj_ (E:Env)(call round:Ac)(x16 x17 x18 x19 x20 x21 x22 x23 x24 x25 x26 x27 x28:Value)(tm:T Value)(s:St):AH call round (A7 E Da 45 (hdC QT)) [x28,x27,x26,x25,x24,x23,x22,x21,x20,x19,x18,x17,x16] tm s=(M.bind (oS (some x28) λa=>M.pure a) λv6=>setT 6 v6 tm λtm1=>M.pure tm1) s:=by kernel_rfl
theorem Ahs_: ∃k,IS_= .code .ret::k:=⟨IS_.tail,by kernel_rfl⟩
def CK_:Rd:=λE call round tm=>
 PD (T.get tm 6) λp0=>
 CN call round 21 [(some p0.1)] λp1=>
 BI E .eql 3 (.tmp 30) (.const (.int .i64 0)) (some p1.1) (some (.int .i64 0)) λp2=>
 PD (some p2.1) λp3=>
 SK p3.1 false (oS (T.get tm 0) λa=>M.pure a) λp4=>
 SK p3.1 false (oS (T.get tm 1) λa=>M.pure a) λp5=>
 SK p3.1 false (oS (T.get tm 1) λa=>M.pure a) λp6=>
 SK p3.1 false (oS (some p6.1) λa=>oS (some (.int .i64 6)) λb=>Cl.get (aBin E .add 3 (.tmp 35) (.const (.int .i64 6))) a b) λp7=>
 SK p3.1 false (M.on (some p4.1) λa=>M.on (onO (some p5.1) λv=>some (some v)) λb=>M.on (onO (some p7.1) λv=>some (some v)) λc=>AW E 22 a b c) λp8=>
 SK p3.1 false (oS (some p8.1) λa=>BZ E 22 9 a) λp9=>
 SK p3.1 false (oS (T.get tm 6) λa=>M.pure a) λp10=>
 SK p3.1 false (M.on (some (.func (.func 66) #[] #[])) λf=>M.on (seqO [(some p10.1)]) λl=>Bk call round f l) λp11=>
 SK p3.1 false (oS (some p11.1) λa=>BZ E 22 9 a) λp12=>
 SK p3.1 false (oS (some p9.1) λa=>oS (some p12.1) λb=>Cl.get (aBin E .neq 9 (.tmp 38) (.tmp 41)) a b) λp13=>
 fJ [p13,p12,p11,p10,p9,p8,p7,p6,p5,p4,p3,p2,p1,p0] tm
theorem Afl_:DrawEq 69 45 Da Pc [0,1,3,7,15,15,15,79,255,511,15,1039,3087,8191,16383] CK_:={}
theorem CO_ (E:Env)(call round:Ac)(x29 x30 x31 x32 x33 x34 x35 x36 x37 x38 x39 x40 x41 x42:Value)(tm:T Value)(s:St):AH call round (A7 E Da 45 (hdC Pc)) [x42,x41,x40,x39,x38,x37,x36,x35,x34,x33,x32,x31,x30,x29] tm s=(M.bind (M.on (some x32) λa=>M.on (some (.bool true)) λb=>M.on (some x42) λc=>A3 a b c) λv43=>setT 43 v43 tm λtm1=>M.pure tm1) s:=by kernel_rfl
theorem Mc:Ah NI=some 43:=by kernel_rfl
def AE_:Rg:=λE call round tm=>
 mv (some (.int .i64 0)) λv4=>
 setF 4 v4 tm λtm1=>
 mv (some (.bool false)) λv5=>
 setF 5 v5 tm1 λtm2=>
 M.pure tm2
theorem AlS_:RegEq 69 45 Da Oa AE_:={}
def ET_:Rg:=λE call round tm=>
 mv (T.get tm 6) λv44=>
 mv (some v44) λv4=>
 setF 4 v4 tm λtm1=>
 mv (some (.bool true)) λv5=>
 setF 5 v5 tm1 λtm2=>
 M.pure tm2
theorem Abm_:RegEq 69 45 Da TQ ET_:={}
theorem Aly_: ∃k,Eu_= .code .ret::k:=⟨Eu_.tail,by kernel_rfl⟩
theorem WE_: ∃k,Tl= .code .ret::k:=⟨Tl.tail,by kernel_rfl⟩
def CM:Nat:=Ar Try.f70
abbrev Dh_:Nat:=45
def Mg_:Code:=Try.f70.body.getD .skip
theorem OQ:envS.fn.get 70=some Try.f70:=by kernel_rfl
theorem AeO_:G3 envS 70 45 CM Mg_:=λh=>
 aM OQ (h _ (by kernel_rfl) (by kernel_rfl) (by kernel_rfl))
theorem Nv_:Try.f70.results.toList=[.cell 6 26, .tmp 7, .tmp 8]:=by kernel_rfl
def MP_:List Item:=skim 64 [.code Mg_]
def FH_:=nx MP_
def Fl_:=nx FH_
def Ig_:=nx Fl_
def NE:=nx Ig_
def Fj_:=bt NE
def T9:=bf NE
def Hh_:=nx Fj_
def KT:=nx T9
def NF:=nx KT
def GC_:=bt NF
def IW:=bf NF
def WW:=nx GC_
def WS:=nx IW
theorem XZ_:skim 64 WW.tail=KT:=by kernel_rfl
def WP:Rg:=λE call round tm=>
 M.bind (AI E 26) λv6=>
 setF 6 v6 tm λtm1=>
 mv (some (.slice none 0 0)) λv7=>
 setF 7 v7 tm1 λtm2=>
 mv (some (.bool false)) λv8=>
 setF 8 v8 tm2 λtm3=>
 M.pure tm3
theorem Ui_:RegEq 70 45 CM MP_ WP:={}
def KA_:Rg:=λE call round tm=>
 M.bind (AI E 26) λv9=>
 setF 9 v9 tm λtm1=>
 M.pure tm1
theorem SW_:RegEq 70 45 CM FH_ KA_:={}
def MO_:Rg:=λE call round tm=>
 mv (T.get tm 0) λv14=>
 mv (T.get tm 1) λv15=>
 mv (T.get tm 1) λv16=>
 mv (T.get tm 2) λv17=>
 bI E .add 3 (.tmp 16) (.tmp 17) (some v16) (some v17) λv18=>
 bI E .add 3 (.tmp 18) (.const (.int .i64 20)) (some v18) (some (.int .i64 20)) λv19=>
 M.bind (M.on (some v14) λa=>M.on (onO (some v15) λv=>some (some v)) λb=>M.on (onO (some v19) λv=>some (some v)) λc=>AW E 22 a b c) λv20=>
 cN call round 87 [(some v20)] λv21=>
 mv (some v21) λv13=>
 eX 0 (some v13) λv22=>
 eX 1 (some v13) λv23=>
 mv (some v22) λv10=>
 setF 10 v10 tm λtm1=>
 mv (some v23) λv11=>
 setF 11 v11 tm1 λtm2=>
 M.pure tm2
theorem Aba_:RegEq 70 45 CM Fl_ MO_:={}
def ME:Rg:=λE call round tm=>
 mv (T.get tm 11) λv24=>
 bI E .neq 27 (.tmp 24) (.const (.int .i64 0)) (some v24) (some (.int .i64 0)) λv25=>
 setF 25 v25 tm λtm1=>
 M.pure tm1
theorem Il_:RegEq 70 45 CM Ig_ ME:={}
theorem NC_:Ah NE=some 25:=by kernel_rfl
def U6:Rg:=λE call round tm=>
 lD E 26 (T.get tm 9) λv26=>
 M.bind (oS (T.get tm 6) λa=>oS (some v26) λb=>Ao E 26 a b) λ_=>
 mv (some (.slice none 0 0)) λv7=>
 setF 7 v7 tm λtm1=>
 mv (some (.bool false)) λv8=>
 setF 8 v8 tm1 λtm2=>
 M.pure tm2
theorem Zu_:RegEq 70 45 CM Fj_ U6:={}
def VZ:Rg:=λE call round tm=>
 mv (some (.int .i64 0)) λv12=>
 setF 12 v12 tm λtm1=>
 M.pure tm1
theorem AbO_:RegEq 70 45 CM T9 VZ:={}
theorem YG_: ∃k,Hh_= .code .ret::k:=⟨Hh_.tail,by kernel_rfl⟩
def Pp:Rg:=λE call round tm=>
 mv (T.get tm 12) λv27=>
 bI E .lss 3 (.tmp 27) (.const (.int .i64 16)) (some v27) (some (.int .i64 16)) λv28=>
 setF 28 v28 tm λtm1=>
 M.pure tm1
theorem Bh_:RegEq 70 45 CM KT Pp:={}
theorem Dg_:Ah NF=some 28:=by kernel_rfl
def It_:Rg:=λE call round tm=>
 mv (T.get tm 12) λv31=>
 mv (T.get tm 10) λv32=>
 mv (T.get tm 12) λv33=>
 iD E 22 (some v32) (some v33) λv34=>
 lD E 5 (some v34) λv35=>
 iD E 26 (T.get tm 9) (some v31) λv36=>
 M.bind (oS (some v36) λa=>oS (some v35) λb=>Ao E 5 a b) λ_=>
 M.pure tm
theorem AaJ_:RegEq 70 45 CM GC_ It_:={}
def MZ_:Rd:=λE call round tm=>
 LD E 26 (T.get tm 9) λp0=>
 PD (T.get tm 10) λp1=>
 M.bind (apartO (M.on (some p1.1) λa=>M.on (onO (some (.int .i64 16)) λv=>some (some v)) λb=>M.on (some none) λc=>AW E 22 a b c)) λp2=>
 PD (T.get tm 10) λp3=>
 M.bind (apartO (M.on (some p3.1) λa=>M.on (onO (some (.int .i64 16)) λv=>some (some v)) λb=>M.on (some none) λc=>AW E 22 a b c)) λp4=>
 CN call round 65 [(some p4.1)] λp5=>
 LD E 26 (T.get tm 9) λp6=>
 BI E .eql 26 (.tmp 42) (.tmp 43) (some p5.1) (some p6.1) λp7=>
 M.bind (apartO (oS (T.get tm 6) λa=>oS (some p0.1) λb=>Ao E 26 a b)) λp8=>
 PD (some p2.1) λp9=>
 setT 7 p9.1 tm λtm1=>
 M.pure (([p9.1,p7.1,p6.1,p5.1,p4.1,p3.1,p2.1,p1.1,p0.1],tm1),[p9.2,p8.2,p7.2,p6.2,p5.2,p4.2,p3.2,p2.2,p1.2,p0.2])
theorem Rg_:DrawEq 70 45 CM IW [0,0,2,0,8,24,0,120,57,319,1023] MZ_:={}
theorem Abr_ (E:Env)(call round:Ac)(x37 x38 x39 x40 x41 x42 x43 x44 x7:Value)(tm:T Value)(s:St):AH call round (A7 E CM 45 (hdC IW)) [x7,x44,x43,x42,x41,x40,x39,x38,x37] tm s=(M.bind (oS (some x44) λa=>M.pure a) λv8=>setT 8 v8 tm λtm1=>M.pure tm1) s:=by kernel_rfl
def Ap_:Rg:=λE call round tm=>
 mv (T.get tm 12) λv29=>
 bI E .add 3 (.tmp 29) (.const (.int .i64 1)) (some v29) (some (.int .i64 1)) λv30=>
 mv (some v30) λv12=>
 setF 12 v12 tm λtm1=>
 M.pure tm1
theorem TH_:RegEq 70 45 CM WW Ap_:={}
theorem TF_: ∃k,WS= .code .ret::k:=⟨WS.tail,by kernel_rfl⟩
def KQ:Nat:=Ar Try.f67
def Uy:Code:=Try.f67.body.getD .skip
theorem Vu:envS.fn.get 67=some Try.f67:=by kernel_rfl
theorem AjT_:G1 envS 67 22 KQ Uy:=λh=>
 aM Vu (h _ (by kernel_rfl))
theorem AgV_:Try.f67.results.toList=[.tmp 2]:=by kernel_rfl
def Ch_:List Item:=skim 64 [.code Uy]
def XV:=nx Ch_
def ZX:=nx XV
def Nk_:=nx ZX
def Hp_:Rg:=λE call round tm=>
 mv (some (.slice none 0 0)) λv2=>
 setF 2 v2 tm λtm1=>
 M.pure tm1
theorem Ok_:RegEq 67 22 KQ Ch_ Hp_:={}
def FP_:Rg:=λE call round tm=>
 mv (T.get tm 0) λv4=>
 cN call round 108 [(some v4)] λv5=>
 mv (some v5) λv3=>
 setF 3 v3 tm λtm1=>
 M.pure tm1
theorem Oj_:RegEq 67 22 KQ XV FP_:={}
def Hu_:Rg:=λE call round tm=>
 M.bind (oS (seqP []) λps=>AU E 22 0 ps) λv6=>
 mv (T.get tm 0) λv7=>
 lN E .append [22,22] [(some v6),(some v7)] λv8=>
 mv (T.get tm 3) λv9=>
 vB E 51 5 (some v9) λv10=>
 mv (T.get tm 3) λv11=>
 bI E .shr 51 (.tmp 11) (.const (.int .u64 8)) (some v11) (some (.int .u64 8)) λv12=>
 vB E 51 5 (some v12) λv13=>
 mv (T.get tm 3) λv14=>
 bI E .shr 51 (.tmp 14) (.const (.int .u64 16)) (some v14) (some (.int .u64 16)) λv15=>
 vB E 51 5 (some v15) λv16=>
 mv (T.get tm 3) λv17=>
 bI E .shr 51 (.tmp 17) (.const (.int .u64 24)) (some v17) (some (.int .u64 24)) λv18=>
 vB E 51 5 (some v18) λv19=>
 M.bind (oS (seqP [(0,(some v10)),(1,(some v13)),(2,(some v16)),(3,(some v19))]) λps=>AU E 22 4 ps) λv20=>
 lN E .append [22,22] [(some v8),(some v20)] λv21=>
 mv (some v21) λv2=>
 setF 2 v2 tm λtm1=>
 M.pure tm1
theorem TV_:RegEq 67 22 KQ ZX Hu_:={}
theorem QA_: ∃k,Nk_= .code .ret::k:=⟨Nk_.tail,by kernel_rfl⟩
def Cb:Nat:=Ar Try.f108
abbrev KK:Nat:=35
def Yn:Code:=Try.f108.body.getD .skip
theorem Eb_:envS.fn.get 108=some Try.f108:=by kernel_rfl
theorem Op_:G1 envS 108 35 Cb Yn:=λh=>
 aM Eb_ (h _ (by kernel_rfl))
theorem Oq_:Try.f108.results.toList=[.tmp 2]:=by kernel_rfl
def LN_:List Item:=skim 64 [.code Yn]
def XS:=nx LN_
def Ka_:=nx XS
def Jp:=nx Ka_
def MF:=nx Jp
def AB_:=bt MF
def Qu:=bf MF
def I8:=nx AB_
def Bc_:=nx Qu
def R4:=nx I8
def Wq:=bt R4
def Pg:=bf R4
def Hl_:=nx Wq
theorem Ahy_:skim 64 Pg.tail=Jp:=by kernel_rfl
def El_:=nx Hl_
def Mz:=nx El_
def MS_:=bt Mz
def OP:=bf Mz
theorem Acr_:skim 64 MS_.tail=OP:=by kernel_rfl
theorem EN_:skim 64 OP.tail=I8:=by kernel_rfl
def Li_:Rg:=λE call round tm=>
 mv (some (.int .u32 0)) λv2=>
 setF 2 v2 tm λtm1=>
 M.pure tm1
theorem Rw_:RegEq 108 35 Cb LN_ Li_:={}
def Jm_:Rg:=λE call round tm=>
 mv (some (.int .u32 4294967295)) λv3=>
 setF 3 v3 tm λtm1=>
 M.pure tm1
theorem AgC_:RegEq 108 35 Cb XS Jm_:={}
def XO:Rg:=λE call round tm=>
 mv (some (.int .i64 0)) λv4=>
 setF 4 v4 tm λtm1=>
 M.pure tm1
theorem AhP_:RegEq 108 35 Cb Ka_ XO:={}
def RW:Rg:=λE call round tm=>
 mv (T.get tm 4) λv7=>
 mv (T.get tm 0) λv8=>
 lN E .len [22] [(some v8)] λv9=>
 bI E .lss 3 (.tmp 7) (.tmp 9) (some v7) (some v9) λv10=>
 setF 10 v10 tm λtm1=>
 M.pure tm1
theorem BS_:RegEq 108 35 Cb Jp RW:={}
theorem WQ:Ah MF=some 10:=by kernel_rfl
def Xf:Rg:=λE call round tm=>
 mv (some (.int .i64 0)) λv5=>
 setF 5 v5 tm λtm1=>
 M.pure tm1
theorem Ahd_:RegEq 108 35 Cb AB_ Xf:={}
def Zw:Rg:=λE call round tm=>
 mv (T.get tm 3) λv33=>
 M.bind (oS (some v33) λa=>kUn E.P .xor a) λv34=>
 mv (some v34) λv2=>
 setF 2 v2 tm λtm1=>
 M.pure tm1
theorem QM_:RegEq 108 35 Cb Qu Zw:={}
def Ob:Rg:=λE call round tm=>
 mv (T.get tm 5) λv13=>
 bI E .lss 3 (.tmp 13) (.const (.int .i64 8)) (some v13) (some (.int .i64 8)) λv14=>
 setF 14 v14 tm λtm1=>
 M.pure tm1
theorem Gj_:RegEq 108 35 Cb I8 Ob:={}
theorem Tr_: ∃k,Bc_= .code .ret::k:=⟨Bc_.tail,by kernel_rfl⟩
theorem BX_:Ah R4=some 14:=by kernel_rfl
def ZN:Rg:=λE call round tm=>
 mv (T.get tm 3) λv17=>
 bI E .rem 51 (.tmp 17) (.const (.int .u32 2)) (some v17) (some (.int .u32 2)) λv18=>
 mv (T.get tm 0) λv19=>
 mv (T.get tm 4) λv20=>
 iD E 22 (some v19) (some v20) λv21=>
 lD E 5 (some v21) λv22=>
 mv (T.get tm 5) λv23=>
 bI E .shr 5 (.tmp 22) (.tmp 23) (some v22) (some v23) λv24=>
 vB E 5 51 (some v24) λv25=>
 bI E .rem 51 (.tmp 25) (.const (.int .u32 2)) (some v25) (some (.int .u32 2)) λv26=>
 bI E .neq 51 (.tmp 18) (.tmp 26) (some v18) (some v26) λv27=>
 mv (some v27) λv6=>
 setF 6 v6 tm λtm1=>
 M.pure tm1
theorem AiG_:RegEq 108 35 Cb Wq ZN:={}
def UJ:Rg:=λE call round tm=>
 mv (T.get tm 4) λv11=>
 bI E .add 3 (.tmp 11) (.const (.int .i64 1)) (some v11) (some (.int .i64 1)) λv12=>
 mv (some v12) λv4=>
 setF 4 v4 tm λtm1=>
 M.pure tm1
theorem Tv_:RegEq 108 35 Cb Pg UJ:={}
def Wu:Rg:=λE call round tm=>
 mv (T.get tm 3) λv28=>
 bI E .shr 51 (.tmp 28) (.const (.int .u64 1)) (some v28) (some (.int .u64 1)) λv29=>
 mv (some v29) λv3=>
 setF 3 v3 tm λtm1=>
 M.pure tm1
theorem Abx_:RegEq 108 35 Cb Hl_ Wu:={}
def IK_:Rg:=λE call round tm=>
 mv (T.get tm 6) λv30=>
 setF 30 v30 tm λtm1=>
 M.pure tm1
theorem AbI_:RegEq 108 35 Cb El_ IK_:={}
theorem Mh_:Ah Mz=some 30:=by kernel_rfl
def S0:Rg:=λE call round tm=>
 mv (T.get tm 3) λv31=>
 bI E .xor 51 (.tmp 31) (.const (.int .u32 3988292384)) (some v31) (some (.int .u32 3988292384)) λv32=>
 mv (some v32) λv3=>
 setF 3 v3 tm λtm1=>
 M.pure tm1
theorem PQ_:RegEq 108 35 Cb MS_ S0:={}
def OK:Rg:=λE call round tm=>
 mv (T.get tm 5) λv15=>
 bI E .add 3 (.tmp 15) (.const (.int .i64 1)) (some v15) (some (.int .i64 1)) λv16=>
 mv (some v16) λv5=>
 setF 5 v5 tm λtm1=>
 M.pure tm1
theorem Un:RegEq 108 35 Cb OP OK:={}
def Fd:Nat:=Ar Try.f87
def Gx_:Code:=Try.f87.body.getD .skip
theorem On:envS.fn.get 87=some Try.f87:=by kernel_rfl
theorem Ou_:G1 envS 87 22 Fd Gx_:=λh=>
 aM On (h _ (by kernel_rfl))
theorem Ax_:Try.f87.results.toList=[.tmp 2, .tmp 3]:=by kernel_rfl
def WR:List Item:=skim 64 [.code Gx_]
def ZH:=nx WR
def Fh_:=nx ZH
def KY_:=bf Fh_
def OV:=nx KY_
def QU:=nx OV
def CA_:=bt QU
def IG_:=bf QU
def NA_:=nx CA_
def LZ_:=nx IG_
def EZ_:Rg:=λE call round tm=>
 mv (some (.slice none 0 0)) λv2=>
 setF 2 v2 tm λtm1=>
 mv (some (.int .i64 0)) λv3=>
 setF 3 v3 tm1 λtm2=>
 M.pure tm2
theorem AbS_:RegEq 87 22 Fd WR EZ_:={}
def BA_:Rg:=λE call round tm=>
 mv (T.get tm 0) λv5=>
 lN E .len [22] [(some v5)] λv6=>
 bI E .lss 3 (.tmp 6) (.const (.int .i64 4)) (some v6) (some (.int .i64 4)) λv7=>
 setF 7 v7 tm λtm1=>
 M.pure tm1
theorem Alv_:RegEq 87 22 Fd ZH BA_:={}
theorem YC_:Ah Fh_=some 7:=by kernel_rfl
def EF_:Rg:=λE call round tm=>
 M.bind (oS (seqP []) λps=>AU E 22 0 ps) λv8=>
 mv (T.get tm 0) λv9=>
 mv (T.get tm 0) λv10=>
 lN E .len [22] [(some v10)] λv11=>
 bI E .sub 3 (.tmp 11) (.const (.int .i64 4)) (some v11) (some (.int .i64 4)) λv12=>
 M.bind (M.on (some v9) λa=>M.on (some none) λb=>M.on (onO (some v12) λv=>some (some v)) λc=>AW E 22 a b c) λv13=>
 lN E .append [22,22] [(some v8),(some v13)] λv14=>
 mv (some v14) λv4=>
 setF 4 v4 tm λtm1=>
 M.pure tm1
theorem Aea_:RegEq 87 22 Fd KY_ EF_:={}
def Ky_:Rd:=λE call round tm=>
 PD (T.get tm 4) λp0=>
 CN call round 67 [(some p0.1)] λp1=>
 VB E 22 9 (some p1.1) λp2=>
 PD (T.get tm 0) λp3=>
 VB E 22 9 (some p3.1) λp4=>
 fJ [p4,p3,p2,p1,p0] tm
theorem AhQ_:DrawEq 87 22 Fd OV [0,1,3,0,8,31] Ky_:={}
theorem Qm_ (E:Env)(call round:Ac)(x15 x16 x17 x18 x19:Value)(tm:T Value)(s:St):AH call round (A7 E Fd 22 (hdC OV)) [x19,x18,x17,x16,x15] tm s=(M.bind (oS (some x17) λa=>oS (some x19) λb=>Cl.get (aBin E .neq 9 (.tmp 17) (.tmp 19)) a b) λv20=>setT 20 v20 tm λtm1=>M.pure tm1) s:=by kernel_rfl
theorem JX_:Ah QU=some 20:=by kernel_rfl
def Sh:Rg:=λE call round tm=>
 mv (some (.slice none 0 0)) λv2=>
 setF 2 v2 tm λtm1=>
 mv (some (.int .i64 4)) λv3=>
 setF 3 v3 tm1 λtm2=>
 M.pure tm2
theorem Tu_:RegEq 87 22 Fd CA_ Sh:={}
def Ek_:Rg:=λE call round tm=>
 mv (T.get tm 4) λv21=>
 mv (some v21) λv2=>
 setF 2 v2 tm λtm1=>
 mv (some (.int .i64 0)) λv3=>
 setF 3 v3 tm1 λtm2=>
 M.pure tm2
theorem Alj_:RegEq 87 22 Fd IG_ Ek_:={}
theorem SC_: ∃k,NA_= .code .ret::k:=⟨NA_.tail,by kernel_rfl⟩
theorem Abj_: ∃k,LZ_= .code .ret::k:=⟨LZ_.tail,by kernel_rfl⟩
def recB (b:List Nat):List Nat:=CS b.length++gput (idB b++b)
