import Derived.Test.YtofanlcjeohcjaaIBk26
import Derived.Test.YtofanlcjeohcjaaIBk15
import Derived.Test.YtofanlcjeohcjaaIBk07
import Derived.KernelRfl
import Derived.Test.YtofanlcjeohcjaaIBk16
noncomputable section
namespace Go.Proofs.Ytofanlcjeohcjaa.Am
open Go.RowKit
theorem CN_: ∀(k:Nat) (st:Rd),(rPs k st).1.length<=k/\ ∀p∈(rPs k st).1,p.2.2.length<=20000
 |0,_=>⟨Nat.le_refl _,λp hp=>by cases hp⟩
 |_+1,none=>⟨Nat.zero_le _,λp hp=>by cases hp⟩
 |k+1,some r=>by
  obtain⟨h1,h2⟩:=CN_ k (rPk (some r)).2
  have hl: ∀(k:Nat) (st:Rd),(rHs k st).1.length<=k:=by
   intro k
   induction k with
   |zero=>exact λ_=>Nat.le_refl _
   |succ k ih=>
    intro st
    cases st with
    |none=>exact Nat.zero_le _
    |some r=>
     show((rH (some r)).1::(rHs k (rH (some r)).2).1).length<=_
     rw[List.length_cons]
     exact Nat.succ_le_succ (ih _)
  refine⟨by show((rPk (some r)).1::(rPs k (rPk (some r)).2).1).length<=_;rw[List.length_cons];omega,λp hp=> ?_⟩
  have hp':p∈(rPk (some r)).1::(rPs k (rPk (some r)).2).1:=hp
  rcases List.mem_cons.1 hp' with rfl|hp
  ·exact Nat.le_trans (hl _ _) (F5 _ _ _)
  ·exact h2 p hp
theorem Ew_ {B:Nat}: ∀(os:List PkI),(∀p∈os,p.hs.length<=B)->Bb os<=os.length*B
 |[],_=>Nat.zero_le _
 |p::os,h=>by
  have h1:=h p (by simp)
  have h2:=Ew_ os λx hx=>h x (by simp[hx])
  have e:Bb (p::os)=p.hs.length+Bb os:=by unfold Bb;simp
  rw[e,List.length_cons,Nat.succ_mul]
  omega
section
variable {R:Nat}{v:Value}{l:List Nat}{Q:Value×FrameMode->St->Prop}{s0:St}
theorem OB_ {cnt:Nat}{HS:List KeyP}{ST:Rd}(hb0:s0.lim<=s0.next)(hz:l.length<=1000000000)(hby:Byt l)(hcnt:cnt<=500)(hR:R+4<s0.next)(hv: ∀x,BsF v x->x<s0.next):
  ∀(k i n:Nat) (st:Rd) (os:List PkI) (vo:Value) (bo:Nat) (tm:T Value) (s:St) (td:List Item),i+k=cnt->20*k+803000<=n->os.length<=i->skim 64 td=G1->Ext Any (RdG R) s0 s->RdI s R v l st->PsO s0 s os vo bo->
  os.map PkI.key++(rPs k st).1=HS->(rPs k st).2=ST->T.get tm 6=some (.pointer (some ⟨R,0,none⟩))->T.get tm 7=some vo->T.get tm 18=some (.int .i64 (cnt:Nat))->T.get tm 19=some (.int .i64 (i:Nat))->
  (∀(n1:Nat) (os:List PkI) (vo:Value) (bo:Nat) (tm1:T Value) (s1:St) (td1:List Item),n-(20*k+10)<=n1->skim 64 td1=Hu->Ext Any (RdG R) s0 s1->RdI s1 R v l ST->PsO s0 s1 os vo bo->os.map PkI.key=HS->T.get tm1 6=some (.pointer (some ⟨R,0,none⟩))->T.get tm1 7=some vo->
   W (runF envS n1 ⟨39,PM,CC,tm1,td1, .run, .normal,none⟩) s1 Q)->
  W (runF envS n ⟨39,PM,CC,tm,td, .run, .normal,none⟩) s Q:=by
 intro k
 induction k with
 |zero=>
  intro i n st os vo bo tm s td hi hn hil hT' hx hr ho hHS hST g6 g7 g18 g19 q
  refine Fz_.w hT' (by omega) ?_
  simp only[Rc,Ac,W_oS,Aa,Ab,Bg,g18,g19]
  refine W.cond (v:=false) JU_ IY_ (by simp[aA];omega) (by omega) (λh=>by cases h) λ_=> ?_
  have e1:os.map PkI.key=HS:=by rw[<-hHS];exact(List.append_nil _).symm
  have e2:st=ST:=hST
  subst e2
  exact q _ os vo bo _ s _ (by omega) No_ hx hr ho e1 (by simp[aA,g6]) (by simp[aA,g7])
 |succ k ih=>
  intro i n st os vo bo tm s td hi hn hil hT' hx hr ho hHS hST g6 g7 g18 g19 q
  have hb:=hx.bnd hb0
  refine Fz_.w hT' (by omega) ?_
  simp only[Rc,Ac,W_oS,Aa,Ab,Bg,g18,g19]
  refine W.cond (v:=true) JU_ IY_ (by simp[aA];omega) (by omega) (λ_=> ?_) λh=>by cases h
  refine AhO_.w YZ_ (by omega) ?_
  simp only[HE_,Ac,W_oS,W_on,Aa,W_mv,Ab,aA,Ag,Af,Ae,Ah,Nat.reduceEqDiff, ↓reduceIte,g6]
  refine VF hb hr (by omega) λe p s1 x1 he=> ?_
  have hx1:Ext Any (RdG R) s0 s1:=hx.onG x1 hb0 λ_ _ h=>h.elim
  simp only[Ut (cs:= #[.int .i64 e, .int .i64 p]) (v:= .int .i64 e) JV (.inl ⟨rfl,rfl⟩),Co]
  cases st with
  |none=>
   have he0:e≠0:=λh0=>(he.1 h0) rfl
   refine W.cond (v:=true) XZ EZ_ (by simp[aA,he0]) (by omega) (λ_=> ?_) λh=>by cases h
   have e1:os.map PkI.key=HS:=by rw[<-hHS];exact(List.append_nil _).symm
   have e2:none=ST:=hST
   subst e2
   exact q _ os vo bo _ s1 _ (by omega) MY_ hx1 (hr.ext0 x1) (ho.ext0 x1) e1 (by simp[aA,g6]) (by simp[aA,g7])
  |some r=>
   have he0:e=0:=he.2 (by simp)
   refine W.cond (v:=false) XZ EZ_ (by simp[aA,he0]) (by omega) (λh=>by cases h) λ_=> ?_
   have hHS':os.map PkI.key++((rPk (some r)).1::(rPs k (rPk (some r)).2).1)=HS:=hHS
   have hST':(rPs k (rPk (some r)).2).2=ST:=hST
   have nG: ∀y,s0.next<=y-> ¬RdG R y:=λy hy hg=>by rcases hg with hg|hg|hg<;>omega
   refine AiS_.w Aas_ (by omega) ?_
   simp only[WQ,Ac,W_oS,W_on,Aa,W_mv,Ab,aA,Ag,Af,Aw,Av,Ae,Ah,Nat.reduceEqDiff, ↓reduceIte,g6,g7]
   refine YI_ (hx1.bnd hb0) (hr.ext0 x1) hz hby (by omega) λs2 p x2 r2 hk hi2 hf2=> ?_
   have hx2:Ext Any (RdG R) s0 s2:=hx1.onG x2 hb0 λ_ _ h=>h
   have ho2:PsO s0 s2 os vo bo:=(ho.ext0 x1).ext x2 nG
   have h16: ∀h∈p.hs,h.1.length=16:=by
    have:p.hs=(rPk (some r)).1.2.2:=by rw[<-hk];rfl
    rw[this]
    exact Fr_ _ _
   have n1:s0.next<=s1.next:=hx1.nxt
   refine RS_ (p:=p) hb0 hx2 ho2 hi2 h16 (λx hx=>⟨by have:=hf2 x hx;omega,λhm=>by have h1:=hf2 x hx;have h2:=(ho.ext0 x1).mo.lt x hm;omega⟩) (by omega) λs3 v3 b3 x3 x23 ho3=> ?_
   have r3:RdI s3 R v l (rPk (some r)).2:=r2.ext x23 λy hy hg=>by
    have h1:=hg.2.1
    have h2:=ho.no
    rcases hy with hy|hy
    ·omega
    ·have:=hv y hy
     omega
   refine Ags_.w AfV_ (by omega) ?_
   have ei:wrap64 ((i:Nat)+1:Int)=((i+1:Nat):Int):=by
    rw[Bq (by omega) (by omega)];simp
   simp only[DH_,Ac,W_oS,Aa,W_mv,Ab,aA,Nat.reduceEqDiff, ↓reduceIte,BG,g19,ei]
   refine ih (i+1) _ (rPk (some r)).2 (os++[p]) v3 b3 _ s3 _ (by omega) (by omega) (by simp;omega) TM_ x3 r3 ho3 ?_ hST' (by simp[aA,g6]) (by simp[aA]) (by simp[aA,g18]) (by simp[aA]) λn1 os' vo' bo' tm1 s1' td1 a1=>q n1 os' vo' bo' tm1 s1' td1 (by omega)
   rw[List.map_append,List.append_assoc]
   show os.map PkI.key++([p.key]++_)=HS
   rw[hk]
   exact hHS'
end
theorem PkI.key_inj {p o:PkI}(h:p.key=o.key):p.num=o.num/\p.size=o.size/\p.hs=o.hs:=by
 have h1:(p.num,p.size,p.hs)=(o.num,o.size,o.hs):=h
 injection h1 with h1 h2
 injection h2 with h2 h3
 exact⟨h1,h2,h3⟩
theorem YQ: ∀(os ps:List PkI),os.map PkI.key=ps.map PkI.key->os.length=ps.length/\Bb os=Bb ps/\os.all B1=ps.all B1/\ ∀pr,CD pr os=CD pr ps
 |[],[],_=>⟨rfl,rfl,rfl,λ_=>rfl⟩
 |[],_::_,h=>by simp at h
 |_::_,[],h=>by simp at h
 |o::os,p::ps,h=>by
  rw[List.map_cons,List.map_cons]at h
  injection h with h1 h2
  obtain⟨g1,g2,g3⟩:=PkI.key_inj h1
  obtain⟨k1,k2,k3,k4⟩:=YQ os ps h2
  have et: ∀(x:PkI) (l:List PkI),Bb (x::l)=x.hs.length+Bb l:=λx l=>by unfold Bb;simp
  have eb:B1 o=B1 p:=by unfold B1;rw[g1,g2,g3]
  refine⟨by rw[List.length_cons,List.length_cons,k1],by rw[et,et,g3,k2],by rw[List.all_cons,List.all_cons,eb,k3],λpr=> ?_⟩
  show((match pr with|none=>true|some x=>decide (x<o.num))&&B2 o.size 0 o.hs&&CD (some o.num) os)=((match pr with|none=>true|some x=>decide (x<p.num))&&B2 p.size 0 p.hs&&CD (some p.num) ps)
  rw[g1,g2,g3,k4]
theorem Yv_ {os ps:List PkI}(h:os.map PkI.key=ps.map PkI.key):Cm os=Cm ps:=by
 obtain⟨h1,h2,h3,h4⟩:=YQ os ps h
 unfold Cm
 rw[h1,h2,h3,h4]
section
variable {n:Nat}{v:Value}{l:List Nat}{s:St}{Q:Value->St->Prop}
theorem Aaf_ (hbd:s.lim<=s.next)(h:Bs s v l)(hz:l.length<4)(hn:30<=n)(q2:Q (.tuple #[.slice none 0 0, .int .i64 4]) s):W (Ay envS (runF envS n) 81 [v]) s Q:=by
 refine CG_ λtm h0=> ?_
 have hc:Bs (s.cxN cxN) v l:=h.same rfl rfl
 refine ZM.w rfl (by omega) ?_
 simp only[SX,Aa,W_mv,Ab]
 refine Hh_.w EY_ (by omega) ?_
 simp only[U7,Ac,W_oS,Aa,W_mv,Ab,aA,Ag,Af,Ae,reduceCtorEq, ↓reduceIte,h0]
 rw[hc.len' BE]
 try simp only[Ec]
 refine Ze.w Gu_ (by omega) ?_
 have ed:decide (wrap64 ((l.length:Nat)-4:Int)<0)=true:=by
  rw[Bq (by omega) (by omega)];simp;omega
 simp only[NP,Ac,W_oS,W_on,Aa,W_mv,Ab,aA,Ag,Af,Ae,Ai,As,Ak,Aq,Aj,reduceCtorEq, ↓reduceIte,Bg,h0,ed]
 refine W.cond (v:=true) MP Oq (by simp[aA]) (by omega) (λ_=> ?_) λh=>by cases h
 refine Vl.w Rx (by omega) ?_
 simp only[LZ,Aa,W_mv,Ab]
 refine aG (rs:=[2,3]) (vs:=[.slice none 0 0, .int .i64 4]) Ql (.inl Vg) (by omega) JL Nr rfl (by simp[aA]) ?_
 exact q2
def IxOk (l:List Nat)(ks:List KeyP):Prop:=GOk l/\rAll (l.take (l.length-4))=(ks,some [])
theorem Lo (hb:s.lim<=s.next)(hB:Bs s v l)(hby:Byt l)(hz:l.length<=900000)(hn:410000000<=n)
  (q1: ∀(os:List PkI) vo s1,IxOk l (os.map PkI.key)->Cm os=0->Ext Any Non s s1->PkR s1 vo os->(∀x,PkF vo os x->s.next<=x)->os.length<=500->Bb os<=10000000->Q (.tuple #[vo, .int .i64 0]) s1)
  (q2: ∀s1,(∀os:List PkI,Cm os=0-> ¬IxOk l (os.map PkI.key))->Ext Any Non s s1->Q (.tuple #[.slice none 0 0, .int .i64 4]) s1):
  W (Ay envS (runF envS n) 39 [v]) s Q:=by
 have hb0:(s.cxN cxN).lim<=(s.cxN cxN).next:=hb
 refine Yp_ λtm g0=> ?_
 refine AcN_.w rfl (by omega) ?_
 simp only[HZ_,Aa,W_mv,Ab]
 refine Abh_.w QG_ (by omega) ?_
 simp only[Ye,Ac,W_oS,W_on,Aa,W_mv,Ab,aA,Ag,Af,Ae,Ah,reduceCtorEq, ↓reduceIte,g0]
 have bad: ∀(n':Nat) (tm':T Value) (s1:St) (td':List Item),20<=n'->skim 64 td'=Jt->Ext Any Non (s.cxN cxN) s1->T.get tm' 5=some (.int .i64 4)->(∀os:List PkI,Cm os=0-> ¬IxOk l (os.map PkI.key))->
   W (runF envS n' ⟨39,PM,CC,tm',td', .run, .normal,none⟩) s1 λp s1=>Q p.1 (s1.cxN s.cx):=by
  intro n' tm' s1 td' hn' hT' hx g5 hno
  refine GL_.w hT' (by omega) ?_
  simp only[Sd,Ac,W_oS,Aa,W_mv,Ab,Co,g5]
  refine W.cond (v:=true) FA_ YR (by simp[aA]) (by omega) (λ_=> ?_) λh=>by cases h
  refine Xy_.w Xq_ (by omega) ?_
  simp only[Hu_,Aa,W_mv,Ab]
  refine aG (rs:=[2,3]) (vs:=[.slice none 0 0, .int .i64 4]) Or_ (.inl Tv_) (by omega) Pj S7 hx.cx (by simp[aA]) ?_
  exact q2 _ hno hx.cx'
 have hB':Bs (s.cxN cxN) v l:=hB.same rfl rfl
 by_cases h4:l.length<4
 ·refine Aaf_ hb0 hB' h4 (by omega) ?_
  rw[BS (k:=0) rfl,BS (k:=1) rfl]
  exact bad _ _ _ _ (by omega) QX (Ext.refl _) (by simp[aA]) λos _ h=>by have:=h.1.1;omega
 have hBn:Bn (s.cxN cxN) v l:=by
  rcases hB' with⟨_,rfl⟩|h
  ·simp at h4
  ·exact h
 refine Wd_ hb0 hBn hby hz (by omega) (λhg s1 w x1 hw=> ?_) λhg s1 x1=> ?_
 ·have y1:Ext Any Non (s.cxN cxN) s1:=x1.any hb0
  obtain⟨body,hbody⟩: ∃b,l.take (l.length-4)=b:=⟨_,rfl⟩
  rw[hbody]at hw
  have hbb:Byt body:=λx hx=>hby x (by rw[<-hbody]at hx;exact List.mem_of_mem_take hx)
  have hbl:body.length<=l.length:=by rw[<-hbody,List.length_take];omega
  rw[BS (k:=0) rfl,BS (k:=1) rfl]
  refine GL_.w QX (by omega) ?_
  simp only[Sd,Ac,W_oS,Aa,W_mv,Ab,aA,↓reduceIte,Co]
  refine W.cond (v:=false) FA_ YR (by simp[aA]) (by omega) (λh=>by cases h) λ_=> ?_
  refine LJ_.w AkX_ (by omega) ?_
  simp only[Ea_,Ac,W_on,Aa,W_mv,Ab,aA,Ag,Af,Ae,Ah,Nat.reduceEqDiff, ↓reduceIte]
  refine Aex_ (y1.bnd hb0) hw.bn.bs (by omega) (by omega) λs2 w2 R x2 hRn hwn hr=> ?_
  have y2:=y1.then0 x2 hb0
  have n12:s1.next<=s2.next:=x2.nxt
  have n01:s.next<=s1.next:=y1.nxt
  refine Agw_.w Agp_ (by omega) ?_
  simp only[CW_,Aa,W_mv,Ab]
  refine Ts_.w Vw_ (by omega) ?_
  simp only[GR_,Ac,W_on,Aa,W_mv,Ab,aA,Ag,Af,Ae,Ah,Nat.reduceEqDiff, ↓reduceIte]
  refine YG (hi:=500) (y2.bnd hb0) hr (by omega) hbb (by omega) λs3 x3 r3=> ?_
  refine OB_ (s0:=s2) (R:=R) (v:=w2) (l:=body) (HS:=(rAll body).1) (ST:=(rAll body).2) (cnt:=(rInt 0 500 (some body)).1) (y2.bnd hb0) (by omega) hbb (F5 _ _ _) hr.rt hr.lt _ 0 _ _ [] (.slice none 0 0) s2.next _ s3 _ (Nat.zero_add _) (by have:=F5 0 500 (some body);omega) (by simp) Uw_ x3 r3 ⟨.inl ⟨rfl,rfl,rfl⟩,Nat.le_refl _,λo ho=>by cases ho⟩ rfl rfl (by simp[aA]) (by simp[aA]) (by simp[aA]) (by simp[aA]) λn4 os vo bo tm4 s4 td4 hn4 hT4 x4 r4 ho hk g6 g7=> ?_
  have y4:Ext Any Non (s.cxN cxN) s4:=y2.trans x4 hb0 (λ_ _ _=>trivial) λy hy hg=>by
   have h1:y<s.next:=hy
   rcases hg with hg|hg|hg<;>omega
  obtain⟨hl1,hl2⟩:=CN_ (rInt 0 500 (some body)).1 (rInt 0 500 (some body)).2
  have hosl:os.length<=500:=by
   have h1:(rAll body).1.length<=(rInt 0 500 (some body)).1:=hl1
   have:=F5 0 500 (some body)
   rw[<-hk,List.length_map]at h1
   omega
  have hosz: ∀p∈os,p.hs.length<=20000:=λp hp=>by
   have:p.key∈(rAll body).1:=by rw[<-hk];exact List.mem_map_of_mem hp
   exact hl2 _ this
  have htot:Bb os<=10000000:=by
   have h1:=Ew_ os hosz
   have h2:os.length*20000<=500*20000:=Nat.mul_le_mul_right _ hosl
   omega
  obtain⟨hrow,hrf⟩:=ho.rows
  have hcnt:=F5 0 500 (some body)
  refine AkJ_.w hT4 (by omega) ?_
  simp only[GH_,Ac,W_oS,W_on,Aa,W_mv,Ab,Ag,Af,Ae,Ah,g6]
  refine MN_ (y4.bnd hb0) r4 (by omega) (by omega) λe p s5 x5 he=> ?_
  have y5:=y4.then0 x5 hb0
  simp only[Ai,Ak,Aj,Ut (cs:= #[.int .i64 e, .int .i64 p]) (v:= .int .i64 e) JV (.inl ⟨rfl,rfl⟩),Co]
  have finB: ∀(n':Nat) (tm':T Value) (s6:St) (td':List Item),20<=n'->skim 64 td'=F4->Ext Any Non (s.cxN cxN) s6->T.get tm' 39=some (.bool true)->(∀os:List PkI,Cm os=0-> ¬IxOk l (os.map PkI.key))->
    W (runF envS n' ⟨39,PM,CC,tm',td', .run, .normal,none⟩) s6 λp s1=>Q p.1 (s1.cxN s.cx):=by
   intro n' tm' s6 td' hn' hT' hx g39 hno
   refine W.cond (v:=true) hT' Do_ g39 (by omega) (λ_=> ?_) λh=>by cases h
   refine AgC_.w QK_ (by omega) ?_
   simp only[BO_,Aa,W_mv,Ab]
   refine aG (rs:=[2,3]) (vs:=[.slice none 0 0, .int .i64 4]) Oh_ (.inl Ale_) (by omega) Pj S7 hx.cx (by simp[aA]) ?_
   exact q2 _ hno hx.cx'
  by_cases he0:e=0
  ·have hST:(rAll body).2=some []:=he.1 he0
   have ed:decide (e=0)=true:=decide_eq_true he0
   simp only[ed,Bool.not_true,An,W_oS,W_on,Aa,Ah,An,Al,reduceCtorEq, ↓reduceIte,g7]
   refine JC (y5.bnd hb0) (hrow.ext0 x5) (by omega) (by omega) (by omega) λs6 x6=> ?_
   have y6:=y5.then0 x6 hb0
   simp only[Co]
   by_cases hc:Cm os=0
   ·refine W.cond (v:=false) SQ Do_ (by simp[aA,hc]) (by omega) (λh=>by cases h) λ_=> ?_
    refine VZ_.w AcK_ (by omega) ?_
    simp only[Km_,Aa,W_mv,Ab,aA,Nat.reduceEqDiff, ↓reduceIte,g7]
    refine aG (rs:=[2,3]) (vs:=[vo, .int .i64 0]) XW_ (.inl Tw_) (by omega) Pj S7 y6.cx (by simp[aA]) ?_
    refine q1 os vo _ ⟨hg, ?_⟩ hc y6.cx' (((hrow.ext0 x5).ext0 x6).same rfl rfl) (λx hx=>by have:=hrf x hx;omega) hosl htot
    rw[hbody]
    exact Prod.ext hk.symm hST
   ·refine finB _ _ s6 _ (by omega) SQ y6 (by simp[aA,hc]) λos' hc' h=> ?_
    have h1:=h.2
    rw[hbody]at h1
    have h2:os'.map PkI.key=os.map PkI.key:=by rw[hk,h1]
    rw[Yv_ h2]at hc'
    exact hc hc'
  ·have ed:decide (e=0)=false:=decide_eq_false he0
   simp only[ed,Bool.not_false,As,Aa,As,Aq, ↓reduceIte]
   refine finB _ _ s5 _ (by omega) SQ y5 (by simp[aA]) λos' hc' h=> ?_
   have h1:=h.2
   rw[hbody]at h1
   exact he0 (he.2 (by rw[h1]))
 ·have y1:Ext Any Non (s.cxN cxN) s1:=x1.any hb0
  rw[BS (k:=0) rfl,BS (k:=1) rfl]
  exact bad _ _ _ _ (by omega) QX y1 (by simp[aA]) λos _ h=>hg h.1
end
def Qa:Nat:=Ba Try.f75
def Jy_:Code:=Try.f75.body.getD .skip
theorem Wl:envS.fn.get 75=some Try.f75:=by kernel_rfl
theorem OY_ {n:Nat}{s:St}{Q:Value->St->Prop}(h: ∀tm,W (runF envS n ⟨75,3,Qa,tm,[.code Jy_], .run, .normal,none⟩) (s.cxN cxN) λp s1=>Q p.1 (s1.cxN s.cx)):W (Ay envS (runF envS n) 75 []) s Q:=
 W.call (by kernel_rfl) (by kernel_rfl) Wl (by kernel_rfl) rfl rfl (by simp) (h _)
theorem Mn_:Try.f75.results.toList=[.tmp 0]:=by kernel_rfl
def R6:List Item:=skim 64 [.code Jy_]
def Nc:List Item:=skim 64 R6.tail
theorem MW_:skim 64 R6.tail=Nc:=by kernel_rfl
def Q6:List Item:=skim 64 Nc.tail
theorem Ajn_:skim 64 Nc.tail=Q6:=by kernel_rfl
def Fo_ (E:Env)(call round:Ad)(tm:T Value):M (T Value):=
 mv (some (.pointer none)) λv0=>
 setF 0 v0 tm λtm1=>
 M.pure tm1
theorem PE_:RegEq 75 3 Qa R6 Fo_:=⟨by kernel_rfl,λ_ _ _ _ _ _ _ _ _=>by kernel_rfl⟩
def VO (E:Env)(call round:Ad)(tm:T Value):M (T Value):=
 M.bind (oS (seqP [(0,(some (.bool true)))]) λps=>C3 E 149 ps) λv1=>
 M.bind (oS (some v1) λa=>kBox a) λv2=>
 mv (some v2) λv0=>
 setF 0 v0 tm λtm1=>
 M.pure tm1
theorem Vq_:RegEq 75 3 Qa Nc VO:=⟨by kernel_rfl,λ_ _ _ _ _ _ _ _ _=>by kernel_rfl⟩
theorem NJ_: ∃k,Q6= .code .ret::k:=⟨Q6.tail,by kernel_rfl⟩
def DL:Nat:=Ba Try.f113
abbrev JK_:Nat:=19
def FJ_:Code:=Try.f113.body.getD .skip
theorem IS_:envS.fn.get 113=some Try.f113:=by kernel_rfl
theorem Tt_ {a0:Value}{n:Nat}{s:St}{Q:Value->St->Prop}(h: ∀tm,T.get tm 0=some a0->W (runF envS n ⟨113,19,DL,tm,[.code FJ_], .run, .normal,none⟩) (s.cxN cxN) λp s1=>Q p.1 (s1.cxN s.cx)):W (Ay envS (runF envS n) 113 [a0]) s Q:=
 W.call (by kernel_rfl) (by kernel_rfl) IS_ (by kernel_rfl) rfl rfl (by simp) (h _ (by kernel_rfl))
theorem NM_:Try.f113.results.toList=[.tmp 2]:=by kernel_rfl
def QO:List Item:=skim 64 [.code FJ_]
def PZ:List Item:=skim 64 QO.tail
theorem AjE_:skim 64 QO.tail=PZ:=by kernel_rfl
def N9:List Item:=skim 64 PZ.tail
theorem AdS_:skim 64 PZ.tail=N9:=by kernel_rfl
def Ls:List Item:=skim 64 (brF N9)
theorem AfW_:skim 64 (brF N9)=Ls:=by kernel_rfl
def Lx:List Item:=skim 64 Ls.tail
theorem Ade_:skim 64 Ls.tail=Lx:=by kernel_rfl
def G4:List Item:=skim 64 Lx.tail
theorem AeD_:skim 64 Lx.tail=G4:=by kernel_rfl
def Hi:List Item:=skim 64 G4.tail
theorem Ug:skim 64 G4.tail=Hi:=by kernel_rfl
def Ml:List Item:=skim 64 (brT Hi)
theorem Adc_:skim 64 (brT Hi)=Ml:=by kernel_rfl
def Jg:List Item:=skim 64 (brF Hi)
theorem VT:skim 64 (brF Hi)=Jg:=by kernel_rfl
def TG:List Item:=skim 64 Ml.tail
theorem Uc_:skim 64 Ml.tail=TG:=by kernel_rfl
def QB:List Item:=skim 64 Jg.tail
theorem AaI_:skim 64 Jg.tail=QB:=by kernel_rfl
theorem VR_:skim 64 TG.tail=G4:=by kernel_rfl
def BA_ (E:Env)(call round:Ad)(tm:T Value):M (T Value):=
 mv (some (.int .i64 0)) λv2=>
 setF 2 v2 tm λtm1=>
 M.pure tm1
theorem Vh_:RegEq 113 19 DL QO BA_:=⟨by kernel_rfl,λ_ _ _ _ _ _ _ _ _=>by kernel_rfl⟩
def Em_ (E:Env)(call round:Ad)(tm:T Value):M (T Value):=
 mv (T.get tm 0) λv4=>
 M.bind (oS (some v4) λa=>oS (some (.int .i64 0)) λb=>Cl.get (aBin E .lss 3 (.tmp 4) (.const (.int .i64 0))) a b) λv5=>
 mv (some v5) λv6=>
 M.bind (M.chk (isK v6) (aC (isB v6 false) (oS (T.get tm 0) λa=>M.pure a) (M.pure undef))) λv7=>
 M.bind (M.chk (isK v6) (aC (isB v6 false) (oS (some v7) λa=>oS (some (.int .i64 2147483647)) λb=>Cl.get (aBin E .gtr 3 (.tmp 7) (.const (.int .i64 2147483647))) a b) (M.pure undef))) λv8=>
 M.bind (M.on (some v6) λa=>M.on (some (.bool true)) λb=>M.on (some v8) λc=>Bp a b c) λv9=>
 setF 9 v9 tm λtm1=>
 M.pure tm1
theorem AfF_:RegEq 113 19 DL PZ Em_:=⟨by kernel_rfl,λ_ _ _ _ _ _ _ _ _=>by kernel_rfl⟩
theorem WZ_:A5 N9=some 9:=by kernel_rfl
def GG_ (E:Env)(call round:Ad)(tm:T Value):M (T Value):=
 mv (some (.int .i64 1)) λv3=>
 setF 3 v3 tm λtm1=>
 M.pure tm1
theorem PL_:RegEq 113 19 DL Ls GG_:=⟨by kernel_rfl,λ_ _ _ _ _ _ _ _ _=>by kernel_rfl⟩
def AC_ (E:Env)(call round:Ad)(tm:T Value):M (T Value):=
 mv (T.get tm 0) λv10=>
 M.bind (oS (some v10) λa=>oS (some (.int .u64 7)) λb=>Cl.get (aBin E .shr 3 (.tmp 10) (.const (.int .u64 7))) a b) λv11=>
 mv (some v11) λv0=>
 setF 0 v0 tm λtm1=>
 M.pure tm1
theorem Akj_:RegEq 113 19 DL Lx AC_:=⟨by kernel_rfl,λ_ _ _ _ _ _ _ _ _=>by kernel_rfl⟩
def Qd (E:Env)(call round:Ad)(tm:T Value):M (T Value):=
 mv (T.get tm 0) λv12=>
 M.bind (oS (some v12) λa=>oS (some (.int .i64 0)) λb=>Cl.get (aBin E .gtr 3 (.tmp 12) (.const (.int .i64 0))) a b) λv13=>
 setF 13 v13 tm λtm1=>
 M.pure tm1
theorem Dy_:RegEq 113 19 DL G4 Qd:=⟨by kernel_rfl,λ_ _ _ _ _ _ _ _ _=>by kernel_rfl⟩
theorem T3:A5 Hi=some 13:=by kernel_rfl
def Wo (E:Env)(call round:Ad)(tm:T Value):M (T Value):=
 mv (T.get tm 3) λv16=>
 M.bind (oS (some v16) λa=>oS (some (.int .i64 1)) λb=>Cl.get (aBin E .add 3 (.tmp 16) (.const (.int .i64 1))) a b) λv17=>
 mv (some v17) λv3=>
 setF 3 v3 tm λtm1=>
 M.pure tm1
theorem LI_:RegEq 113 19 DL Ml Wo:=⟨by kernel_rfl,λ_ _ _ _ _ _ _ _ _=>by kernel_rfl⟩
def ER_ (E:Env)(call round:Ad)(tm:T Value):M (T Value):=
 mv (T.get tm 3) λv18=>
 mv (some v18) λv2=>
 setF 2 v2 tm λtm1=>
 M.pure tm1
theorem AaE_:RegEq 113 19 DL Jg ER_:=⟨by kernel_rfl,λ_ _ _ _ _ _ _ _ _=>by kernel_rfl⟩
def Jv_ (E:Env)(call round:Ad)(tm:T Value):M (T Value):=
 mv (T.get tm 0) λv14=>
 M.bind (oS (some v14) λa=>oS (some (.int .u64 7)) λb=>Cl.get (aBin E .shr 3 (.tmp 14) (.const (.int .u64 7))) a b) λv15=>
 mv (some v15) λv0=>
 setF 0 v0 tm λtm1=>
 M.pure tm1
theorem AdJ_:RegEq 113 19 DL TG Jv_:=⟨by kernel_rfl,λ_ _ _ _ _ _ _ _ _=>by kernel_rfl⟩
theorem PX_: ∃k,QB= .code .ret::k:=⟨QB.tail,by kernel_rfl⟩
def CM:Nat:=Ba Try.f76
abbrev Dz_:Nat:=61
def DI_:Code:=Try.f76.body.getD .skip
theorem Jm_:envS.fn.get 76=some Try.f76:=by kernel_rfl
theorem YV_ {a0 a1:Value}{n:Nat}{s:St}{Q:Value->St->Prop}(h: ∀tm,T.get tm 0=some a0->T.get tm 1=some a1->W (runF envS n ⟨76,61,CM,tm,[.code DI_], .run, .normal,none⟩) (s.cxN cxN) λp s1=>Q p.1 (s1.cxN s.cx)):W (Ay envS (runF envS n) 76 [a0,a1]) s Q:=
 W.call (by kernel_rfl) (by kernel_rfl) Jm_ (by kernel_rfl) rfl rfl (by simp) (h _ (by kernel_rfl) (by kernel_rfl))
theorem WC_:Try.f76.results.toList=[]:=by kernel_rfl
def VH:List Item:=skim 64 [.code DI_]
def Nm:List Item:=skim 64 VH.tail
theorem SZ_:skim 64 VH.tail=Nm:=by kernel_rfl
def P1:List Item:=skim 64 (brF Nm)
theorem Nb_:skim 64 (brF Nm)=P1:=by kernel_rfl
def LQ:List Item:=skim 64 P1.tail
theorem Oi_:skim 64 P1.tail=LQ:=by kernel_rfl
def Mw:List Item:=skim 64 LQ.tail
theorem AkF_:skim 64 LQ.tail=Mw:=by kernel_rfl
def PX:List Item:=skim 64 Mw.tail
theorem OM_:skim 64 Mw.tail=PX:=by kernel_rfl
def IC:List Item:=skim 64 PX.tail
theorem OZ_:skim 64 PX.tail=IC:=by kernel_rfl
def GD:List Item:=skim 64 IC.tail
theorem Gx_:skim 64 IC.tail=GD:=by kernel_rfl
def NE:List Item:=skim 64 (brT GD)
theorem Afd_:skim 64 (brT GD)=NE:=by kernel_rfl
def I5:List Item:=skim 64 (brF GD)
theorem SL_:skim 64 (brF GD)=I5:=by kernel_rfl
def Mq:List Item:=skim 64 NE.tail
theorem Acj_:skim 64 NE.tail=Mq:=by kernel_rfl
def Kk:List Item:=skim 64 I5.tail
theorem XL_:skim 64 I5.tail=Kk:=by kernel_rfl
def Ud:List Item:=skim 64 Mq.tail
theorem AdT_:skim 64 Mq.tail=Ud:=by kernel_rfl
def Tf:List Item:=skim 64 (brT Kk)
theorem AbC_:skim 64 (brT Kk)=Tf:=by kernel_rfl
def KN:List Item:=skim 64 (brF Kk)
theorem AbK_:skim 64 Ud.tail=IC:=by kernel_rfl
theorem AiE_:skim 64 Tf.tail=KN:=by kernel_rfl
def SX_:List Item:=skim 64 KN.tail
theorem AjC_:skim 64 KN.tail=SX_:=by kernel_rfl
def Bw_ (E:Env)(call round:Ad)(tm:T Value):M (T Value):=
 mv (T.get tm 0) λv7=>
 M.bind (oS (some v7) λa=>oS (some (.pointer none)) λb=>Cl.get (aBin E .eql 104 (.tmp 7) (.const (.pointer none))) a b) λv8=>
 mv (some v8) λv9=>
 M.bind (M.chk (isK v9) (aC (isB v9 false) (oS (T.get tm 0) λa=>M.pure a) (M.pure undef))) λv10=>
 M.bind (M.chk (isK v9) (aC (isB v9 false) (oS (some v10) λa=>kNil a) (M.pure undef))) λv11=>
 M.bind (M.chk (isK v9) (aC (isB v9 false) (oS (some v11) λa=>kFld E 149 a 0) (M.pure undef))) λv12=>
 M.bind (M.chk (isK v9) (aC (isB v9 false) (oS (some v12) λa=>AD E 4 a) (M.pure undef))) λv13=>
 M.bind (M.chk (isK v9) (aC (isB v9 false) (oS (some v13) λa=>kUn E.P .not a) (M.pure undef))) λv14=>
 M.bind (M.on (some v9) λa=>M.on (some (.bool true)) λb=>M.on (some v14) λc=>Bp a b c) λv15=>
 setF 15 v15 tm λtm1=>
 M.pure tm1
theorem Sm_:RegEq 76 61 CM VH Bw_:=⟨by kernel_rfl,λ_ _ _ _ _ _ _ _ _=>by kernel_rfl⟩
theorem Si_:A5 Nm=some 15:=by kernel_rfl
def Gt_ (E:Env)(call round:Ad)(tm:T Value):M (T Value):=
 mv (T.get tm 1) λv16=>
 M.bind (M.on (some (.func (.func 113) #[] #[])) λf=>M.on (seqO [(some v16)]) λl=>AW call round f l) λv17=>
 mv (some v17) λv4=>
 setF 4 v4 tm λtm1=>
 M.pure tm1
theorem Lp_:RegEq 76 61 CM P1 Gt_:=⟨by kernel_rfl,λ_ _ _ _ _ _ _ _ _=>by kernel_rfl⟩
def Kb_ (E:Env)(call round:Ad)(tm:T Value):M (T Value):=
 mv (T.get tm 0) λv18=>
 mv (T.get tm 0) λv19=>
 M.bind (oS (some v19) λa=>kNil a) λv20=>
 M.bind (oS (some v20) λa=>kFld E 149 a 1) λv21=>
 M.bind (oS (some v21) λa=>AD E 4 a) λv22=>
 mv (some v22) λv23=>
 M.bind (M.chk (isK v23) (aC (isB v23 false) (oS (T.get tm 4) λa=>M.pure a) (M.pure undef))) λv24=>
 M.bind (M.chk (isK v23) (aC (isB v23 false) (oS (some v24) λa=>oS (some (.int .i64 0)) λb=>Cl.get (aBin E .eql 3 (.tmp 24) (.const (.int .i64 0))) a b) (M.pure undef))) λv25=>
 M.bind (M.on (some v23) λa=>M.on (some (.bool true)) λb=>M.on (some v25) λc=>Bp a b c) λv26=>
 M.bind (oS (some v18) λa=>kNil a) λv27=>
 M.bind (oS (some v27) λa=>kFld E 149 a 1) λv28=>
 M.bind (oS (some v28) λa=>oS (some v26) λb=>Bo E 4 a b) λ_=>
 M.pure tm
theorem AhB_:RegEq 76 61 CM LQ Kb_:=⟨by kernel_rfl,λ_ _ _ _ _ _ _ _ _=>by kernel_rfl⟩
def HJ_ (E:Env)(call round:Ad)(tm:T Value):M (T Value):=
 M.bind (BV E 150) λv5=>
 setF 5 v5 tm λtm1=>
 M.pure tm1
theorem AbL_:RegEq 76 61 CM Mw HJ_:=⟨by kernel_rfl,λ_ _ _ _ _ _ _ _ _=>by kernel_rfl⟩
def JB_ (E:Env)(call round:Ad)(tm:T Value):M (T Value):=
 mv (T.get tm 4) λv29=>
 setF 29 v29 tm λtm1=>
 mv (some (.int .i64 0)) λv30=>
 setF 30 v30 tm1 λtm2=>
 M.pure tm2
theorem WA_:RegEq 76 61 CM PX JB_:=⟨by kernel_rfl,λ_ _ _ _ _ _ _ _ _=>by kernel_rfl⟩
def S5 (E:Env)(call round:Ad)(tm:T Value):M (T Value):=
 M.bind (oS (T.get tm 30) λa=>oS (T.get tm 29) λb=>Cl.get (aBin E .lss 3 (.tmp 30) (.tmp 29)) a b) λv31=>
 setF 31 v31 tm λtm1=>
 M.pure tm1
theorem Yp:RegEq 76 61 CM IC S5:=⟨by kernel_rfl,λ_ _ _ _ _ _ _ _ _=>by kernel_rfl⟩
theorem JG_:A5 GD=some 31:=by kernel_rfl
def Xc (E:Env)(call round:Ad)(tm:T Value):M (T Value):=
 mv (T.get tm 30) λv32=>
 mv (some v32) λv6=>
 setF 6 v6 tm λtm1=>
 M.pure tm1
theorem AhM_:RegEq 76 61 CM NE Xc:=⟨by kernel_rfl,λ_ _ _ _ _ _ _ _ _=>by kernel_rfl⟩
def HA_ (E:Env)(call round:Ad)(tm:T Value):M (T Value):=
 mv (T.get tm 4) λv44=>
 M.bind (oS (some v44) λa=>oS (some (.int .i64 0)) λb=>Cl.get (aBin E .gtr 3 (.tmp 44) (.const (.int .i64 0))) a b) λv45=>
 setF 45 v45 tm λtm1=>
 M.pure tm1
theorem Pu_:RegEq 76 61 CM I5 HA_:=⟨by kernel_rfl,λ_ _ _ _ _ _ _ _ _=>by kernel_rfl⟩
def Bx_ (E:Env)(call round:Ad)(tm:T Value):M (T Value):=
 mv (T.get tm 6) λv33=>
 M.bind (oS (some (.int .i64 4)) λa=>oS (some v33) λb=>Cl.get (aBin E .sub 3 (.const (.int .i64 4)) (.tmp 33)) a b) λv34=>
 mv (T.get tm 1) λv35=>
 mv (T.get tm 6) λv36=>
 M.bind (oS (some (.int .i64 7)) λa=>oS (some v36) λb=>Cl.get (aBin E .mul 3 (.const (.int .i64 7)) (.tmp 36)) a b) λv37=>
 M.bind (oS (some v35) λa=>oS (some v37) λb=>Cl.get (aBin E .shr 3 (.tmp 35) (.tmp 37)) a b) λv38=>
 M.bind (oS (some v38) λa=>oS (some (.int .i64 127)) λb=>Cl.get (aBin E .and 3 (.tmp 38) (.const (.int .i64 127))) a b) λv39=>
 M.bind (oS (some v39) λa=>Cy E 3 5 a) λv40=>
 M.bind (oS (some v40) λa=>oS (some (.int .u8 128)) λb=>Cl.get (aBin E .or 5 (.tmp 40) (.const (.int .u8 128))) a b) λv41=>
 M.bind (oS (T.get tm 5) λa=>oS (some v34) λb=>Bt E 150 a b) λv42=>
 M.bind (oS (some v42) λa=>oS (some v41) λb=>Bo E 5 a b) λ_=>
 M.pure tm
theorem Xo_:RegEq 76 61 CM Mq Bx_:=⟨by kernel_rfl,λ_ _ _ _ _ _ _ _ _=>by kernel_rfl⟩
theorem Lf_:A5 Kk=some 45:=by kernel_rfl
def BP_ (E:Env)(call round:Ad)(tm:T Value):M (T Value):=
 M.bind (oS (T.get tm 30) λa=>oS (some (.int .i64 1)) λb=>Cl.get (aBin E .add 3 (.tmp 30) (.const (.int .i64 1))) a b) λv43=>
 mv (some v43) λv30=>
 setF 30 v30 tm λtm1=>
 M.pure tm1
theorem AaB_:RegEq 76 61 CM Ud BP_:=⟨by kernel_rfl,λ_ _ _ _ _ _ _ _ _=>by kernel_rfl⟩
def Bg_ (E:Env)(call round:Ad)(tm:T Value):M (T Value):=
 M.bind (oS (T.get tm 5) λa=>oS (some (.int .i64 4)) λb=>Bt E 150 a b) λv46=>
 M.bind (oS (some v46) λa=>AD E 5 a) λv47=>
 M.bind (oS (some v47) λa=>oS (some (.int .u8 127)) λb=>Cl.get (aBin E .and 5 (.tmp 47) (.const (.int .u8 127))) a b) λv48=>
 M.bind (oS (T.get tm 5) λa=>oS (some (.int .i64 4)) λb=>Bt E 150 a b) λv49=>
 M.bind (oS (some v49) λa=>oS (some v48) λb=>Bo E 5 a b) λ_=>
 M.pure tm
theorem ZK_:RegEq 76 61 CM Tf Bg_:=⟨by kernel_rfl,λ_ _ _ _ _ _ _ _ _=>by kernel_rfl⟩
def Av_ (E:Env)(call round:Ad)(tm:T Value):M ((Rho×T Value)×List OpLog):=
 M.bind (apartO (oS (T.get tm 0) λa=>M.pure a)) λp0=>
 M.bind (apartO (oS (T.get tm 0) λa=>M.pure a)) λp1=>
 M.bind (apartO (oS (some p1.1) λa=>kNil a)) λp2=>
 M.bind (apartO (oS (some p2.1) λa=>kFld E 149 a 2)) λp3=>
 M.bind (apartO (oS (some p3.1) λa=>AD E 22 a)) λp4=>
 M.bind (apartO (oS (T.get tm 4) λa=>M.pure a)) λp5=>
 M.bind (apartO (oS (some (.int .i64 5)) λa=>oS (some p5.1) λb=>Cl.get (aBin E .sub 3 (.const (.int .i64 5)) (.tmp 55)) a b)) λp6=>
 M.bind (apartO (M.on (T.get tm 5) λa=>M.on (onO (some p6.1) λv=>some (some v)) λb=>M.on (some none) λc=>B8 E 150 a b c)) λp7=>
 M.bind (apartO (oS (seqO [(some p4.1),(some p7.1)]) λl=>A6 E .append [22,22] l)) λp8=>
 M.bind (apartO (oS (some p0.1) λa=>kNil a)) λp9=>
 M.bind (apartO (oS (some p9.1) λa=>kFld E 149 a 2)) λp10=>
 M.pure (([p10.1,p9.1,p8.1,p7.1,p6.1,p5.1,p4.1,p3.1,p2.1,p1.1,p0.1],tm),[p10.2,p9.2,p8.2,p7.2,p6.2,p5.2,p4.2,p3.2,p2.2,p1.2,p0.2])
theorem Wp_:DrawEq 76 61 CM KN [0,0,2,6,14,0,32,96,254,511,1023,2047] Av_:=⟨by kernel_rfl,by kernel_rfl,λ_ _ _ _ _ _ _ _ _=>by kernel_rfl⟩
theorem AgP_ (E:Env)(call round:Ad)(x50 x51 x52 x53 x54 x55 x56 x57 x58 x59 x60:Value)(tm:T Value)(s:St):Bm call round (BM E CM 61 (hdC KN)) [x60,x59,x58,x57,x56,x55,x54,x53,x52,x51,x50] tm s=(M.bind (oS (some x60) λa=>oS (some x58) λb=>Bo E 22 a b) λ_=>M.pure tm) s:=by kernel_rfl
def Jy:Nat:=Ba Try.f77
def DW_:Code:=Try.f77.body.getD .skip
theorem Ar_:envS.fn.get 77=some Try.f77:=by kernel_rfl
theorem AeF_ {a0 a1:Value}{n:Nat}{s:St}{Q:Value->St->Prop}(h: ∀tm,T.get tm 0=some a0->T.get tm 1=some a1->W (runF envS n ⟨77,21,Jy,tm,[.code DW_], .run, .normal,none⟩) (s.cxN cxN) λp s1=>Q p.1 (s1.cxN s.cx)):W (Ay envS (runF envS n) 77 [a0,a1]) s Q:=
 W.call (by kernel_rfl) (by kernel_rfl) Ar_ (by kernel_rfl) rfl rfl (by simp) (h _ (by kernel_rfl) (by kernel_rfl))
theorem OC_:Try.f77.results.toList=[]:=by kernel_rfl
def VC:List Item:=skim 64 [.code DW_]
def MW:List Item:=skim 64 VC.tail
theorem Agj_:skim 64 VC.tail=MW:=by kernel_rfl
def Jc:List Item:=skim 64 MW.tail
theorem MZ_:skim 64 MW.tail=Jc:=by kernel_rfl
def NQ:List Item:=skim 64 (brT Jc)
theorem Aiu_:skim 64 (brT Jc)=NQ:=by kernel_rfl
def AcQ_:List Item:=skim 64 (brF Jc)
theorem MF_:skim 64 NQ.tail=AcQ_:=by kernel_rfl
def Zx (E:Env)(call round:Ad)(tm:T Value):M (T Value):=
 M.bind (oS (T.get tm 1) λa=>kBox a) λv3=>
 setF 3 v3 tm λtm1=>
 M.pure tm1
theorem Xk_:RegEq 77 21 Jy VC Zx:=⟨by kernel_rfl,λ_ _ _ _ _ _ _ _ _=>by kernel_rfl⟩
def Cb_ (E:Env)(call round:Ad)(tm:T Value):M (T Value):=
 mv (T.get tm 0) λv4=>
 M.bind (oS (some v4) λa=>oS (some (.pointer none)) λb=>Cl.get (aBin E .neq 104 (.tmp 4) (.const (.pointer none))) a b) λv5=>
 mv (some v5) λv6=>
 M.bind (M.chk (isK v6) (aC (isB v6 true) (oS (T.get tm 0) λa=>M.pure a) (M.pure undef))) λv7=>
 M.bind (M.chk (isK v6) (aC (isB v6 true) (oS (some v7) λa=>kNil a) (M.pure undef))) λv8=>
 M.bind (M.chk (isK v6) (aC (isB v6 true) (oS (some v8) λa=>kFld E 149 a 0) (M.pure undef))) λv9=>
 M.bind (M.chk (isK v6) (aC (isB v6 true) (oS (some v9) λa=>AD E 4 a) (M.pure undef))) λv10=>
 M.bind (M.on (some v6) λa=>M.on (some v10) λb=>M.on (some (.bool false)) λc=>Bp a b c) λv11=>
 setF 11 v11 tm λtm1=>
 M.pure tm1
theorem SA_:RegEq 77 21 Jy MW Cb_:=⟨by kernel_rfl,λ_ _ _ _ _ _ _ _ _=>by kernel_rfl⟩
theorem Aky_:A5 Jc=some 11:=by kernel_rfl
def HG_ (E:Env)(call round:Ad)(tm:T Value):M ((Rho×T Value)×List OpLog):=
 M.bind (apartO (oS (T.get tm 0) λa=>M.pure a)) λp0=>
 M.bind (apartO (oS (T.get tm 0) λa=>M.pure a)) λp1=>
 M.bind (apartO (oS (some p1.1) λa=>kNil a)) λp2=>
 M.bind (apartO (oS (some p2.1) λa=>kFld E 149 a 2)) λp3=>
 M.bind (apartO (oS (some p3.1) λa=>AD E 22 a)) λp4=>
 M.bind (apartO (M.on (T.get tm 3) λa=>M.on (some none) λb=>M.on (some none) λc=>B8 E 26 a b c)) λp5=>
 M.bind (apartO (oS (seqO [(some p4.1),(some p5.1)]) λl=>A6 E .append [22,22] l)) λp6=>
 M.bind (apartO (oS (some p0.1) λa=>kNil a)) λp7=>
 M.bind (apartO (oS (some p7.1) λa=>kFld E 149 a 2)) λp8=>
 M.pure (([p8.1,p7.1,p6.1,p5.1,p4.1,p3.1,p2.1,p1.1,p0.1],tm),[p8.2,p7.2,p6.2,p5.2,p4.2,p3.2,p2.2,p1.2,p0.2])
theorem Vg_:DrawEq 77 21 Jy NQ [0,0,2,6,14,0,62,127,255,511] HG_:=⟨by kernel_rfl,by kernel_rfl,λ_ _ _ _ _ _ _ _ _=>by kernel_rfl⟩
theorem Wn_ (E:Env)(call round:Ad)(x12 x13 x14 x15 x16 x17 x18 x19 x20:Value)(tm:T Value)(s:St):Bm call round (BM E Jy 21 (hdC NQ)) [x20,x19,x18,x17,x16,x15,x14,x13,x12] tm s=(M.bind (oS (some x20) λa=>oS (some x18) λb=>Bo E 22 a b) λ_=>M.pure tm) s:=by kernel_rfl
def JR:Nat:=Ba Try.f78
def Yc:Code:=Try.f78.body.getD .skip
theorem AP_:envS.fn.get 78=some Try.f78:=by kernel_rfl
theorem YW_ {a0:Value}{n:Nat}{s:St}{Q:Value->St->Prop}(h: ∀tm,T.get tm 0=some a0->W (runF envS n ⟨78,24,JR,tm,[.code Yc], .run, .normal,none⟩) (s.cxN cxN) λp s1=>Q p.1 (s1.cxN s.cx)):W (Ay envS (runF envS n) 78 [a0]) s Q:=
 W.call (by kernel_rfl) (by kernel_rfl) AP_ (by kernel_rfl) rfl rfl (by simp) (h _ (by kernel_rfl))
theorem AaJ_:Try.f78.results.toList=[.tmp 2, .tmp 3]:=by kernel_rfl
def Uw:List Item:=skim 64 [.code Yc]
def K6:List Item:=skim 64 Uw.tail
theorem AiN_:skim 64 Uw.tail=K6:=by kernel_rfl
def Mi:List Item:=skim 64 K6.tail
theorem Afo_:skim 64 K6.tail=Mi:=by kernel_rfl
def Lj:List Item:=skim 64 (brF Mi)
theorem PY_:skim 64 (brF Mi)=Lj:=by kernel_rfl
def OL:List Item:=skim 64 Lj.tail
theorem QC_:skim 64 Lj.tail=OL:=by kernel_rfl
def KX:List Item:=skim 64 (brF OL)
theorem Po_:skim 64 (brF OL)=KX:=by kernel_rfl
def Vk:List Item:=skim 64 KX.tail
theorem Ow_:skim 64 KX.tail=Vk:=by kernel_rfl
def Iw_ (E:Env)(call round:Ad)(tm:T Value):M (T Value):=
 mv (some (.slice none 0 0)) λv2=>
 setF 2 v2 tm λtm1=>
 mv (some (.int .i64 0)) λv3=>
 setF 3 v3 tm1 λtm2=>
 M.pure tm2
theorem Th_:RegEq 78 24 JR Uw Iw_:=⟨by kernel_rfl,λ_ _ _ _ _ _ _ _ _=>by kernel_rfl⟩
def BH_ (E:Env)(call round:Ad)(tm:T Value):M (T Value):=
 mv (T.get tm 0) λv5=>
 M.bind (oS (some v5) λa=>oS (some (.pointer none)) λb=>Cl.get (aBin E .eql 104 (.tmp 5) (.const (.pointer none))) a b) λv6=>
 mv (some v6) λv7=>
 M.bind (M.chk (isK v7) (aC (isB v7 false) (oS (T.get tm 0) λa=>M.pure a) (M.pure undef))) λv8=>
 M.bind (M.chk (isK v7) (aC (isB v7 false) (oS (some v8) λa=>kNil a) (M.pure undef))) λv9=>
 M.bind (M.chk (isK v7) (aC (isB v7 false) (oS (some v9) λa=>kFld E 149 a 0) (M.pure undef))) λv10=>
 M.bind (M.chk (isK v7) (aC (isB v7 false) (oS (some v10) λa=>AD E 4 a) (M.pure undef))) λv11=>
 M.bind (M.chk (isK v7) (aC (isB v7 false) (oS (some v11) λa=>kUn E.P .not a) (M.pure undef))) λv12=>
 M.bind (M.on (some v7) λa=>M.on (some (.bool true)) λb=>M.on (some v12) λc=>Bp a b c) λv13=>
 mv (some v13) λv4=>
 setF 4 v4 tm λtm1=>
 M.pure tm1
theorem SE_:RegEq 78 24 JR K6 BH_:=⟨by kernel_rfl,λ_ _ _ _ _ _ _ _ _=>by kernel_rfl⟩
theorem Vb_:A5 Mi=some 4:=by kernel_rfl
def X2 (E:Env)(call round:Ad)(tm:T Value):M (T Value):=
 mv (T.get tm 0) λv15=>
 M.bind (oS (some v15) λa=>kNil a) λv16=>
 M.bind (oS (some v16) λa=>kFld E 149 a 1) λv17=>
 M.bind (oS (some v17) λa=>AD E 4 a) λv18=>
 mv (some v18) λv14=>
 setF 14 v14 tm λtm1=>
 M.pure tm1
theorem Age_:RegEq 78 24 JR Lj X2:=⟨by kernel_rfl,λ_ _ _ _ _ _ _ _ _=>by kernel_rfl⟩
theorem Qi_:A5 OL=some 14:=by kernel_rfl
def BE_ (E:Env)(call round:Ad)(tm:T Value):M (T Value):=
 mv (T.get tm 0) λv19=>
 M.bind (oS (some v19) λa=>kNil a) λv20=>
 M.bind (oS (some v20) λa=>kFld E 149 a 2) λv21=>
 M.bind (oS (some v21) λa=>AD E 22 a) λv22=>
 M.bind (oS (seqO [(some (.slice none 0 0)),(some v22)]) λl=>A6 E .append [22,22] l) λv23=>
 mv (some v23) λv2=>
 setF 2 v2 tm λtm1=>
 mv (some (.int .i64 0)) λv3=>
 setF 3 v3 tm1 λtm2=>
 M.pure tm2
theorem AbX_:RegEq 78 24 JR KX BE_:=⟨by kernel_rfl,λ_ _ _ _ _ _ _ _ _=>by kernel_rfl⟩
theorem AjJ_: ∃k,Vk= .code .ret::k:=⟨Vk.tail,by kernel_rfl⟩
theorem Ty:fldN envS 149 0=some (0,1,false):=by kernel_rfl
theorem Ii_:fldN envS 149 1=some (1,1,false):=by kernel_rfl
theorem Kf:fldN envS 149 2=some (2,1,false):=by kernel_rfl
theorem XU:ptrT envS 104=true:=by kernel_rfl
theorem VE_:GP envS 149 [(0, .bool true)]=some [.bool true, .bool false, .slice none 0 0]:=by kernel_rfl
theorem Tw:arrN envS 150=some (5,1):=by kernel_rfl
theorem AfD_:D8 envS 150=some (u8l [0,0,0,0,0]):=by kernel_rfl
theorem UH_ {E:Env}{s:St}{t:Nat}{xo yo:Operand}{n:Nat}(hn:7*n<=9223372036854775807)(Q:Value->St->Prop):W (Cl.get (aBin E .mul t xo yo) (.int .i64 7) (.int .i64 (n:Nat))) s Q=Q (.int .i64 (7*n:Nat)) s:=Y3 (m:=7) hn Q
def digs:Nat->Nat->Nat
 |0,_=>0
 |f+1,m=>if m=0 then 0 else 1+digs f (m/128)
theorem Ahi_ {m:Nat}(h:m<=2147483647):1+digs 5 (m/128)=BQ m:=by
 unfold BQ
 simp only[digs]
 repeat' split
 all_goals omega
section
variable {n:Nat}{s:St}{Q:Value->St->Prop}
theorem Aer_ {QQ:Value×FrameMode->St->Prop}{N:Nat}(hcx:s.cx=cxN)(q:QQ (.int .i64 (N:Nat), .run) s): ∀(f m k n:Nat) (tm:T Value) (td:List Item),m<128^f->f<=5->k+f<=100->20*f+20<=n->skim 64 td=G4->k+digs f m=N->T.get tm 0=some (.int .i64 (m:Nat))->T.get tm 3=some (.int .i64 (k:Nat))->
  W (runF envS n ⟨113,JK_,DL,tm,td, .run, .normal,none⟩) s QQ:=by
 have fin: ∀(k n:Nat) (tm:T Value) (td:List Item),10<=n->skim 64 td=Jg->k=N->T.get tm 3=some (.int .i64 (k:Nat))->W (runF envS n ⟨113,JK_,DL,tm,td, .run, .normal,none⟩) s QQ:=by
  intro k n tm td hn hT' hk g3
  subst hk
  refine AaE_.w hT' (by omega) ?_
  simp only[ER_,Aa,W_mv,Ab,g3]
  exact aG (rs:=[2]) (vs:=[.int .i64 (k:Nat)]) AaI_ (.inl PX_) (by omega) IS_ NM_ hcx (by simp[aA]) q
 intro f
 induction f with
 |zero=>
  intro m k n tm td hm hf hk hn hT' hN g0 g3
  have hm0:m=0:=by rw[Nat.pow_zero]at hm;omega
  subst hm0
  refine Dy_.w hT' (by omega) ?_
  simp only[Qd,Ac,W_oS,Aa,W_mv,Ab,CT,g0]
  refine W.cond (v:=false) Ug T3 (by simp[aA]) (by omega) (λh=>by cases h) λ_=> ?_
  exact fin k _ _ _ (by omega) VT hN (by simp[aA,g3])
 |succ f ih=>
  intro m k n tm td hm hf hk hn hT' hN g0 g3
  refine Dy_.w hT' (by omega) ?_
  simp only[Qd,Ac,W_oS,Aa,W_mv,Ab,CT,g0]
  by_cases hm0:m=0
  ·subst hm0
   refine W.cond (v:=false) Ug T3 (by simp[aA]) (by omega) (λh=>by cases h) λ_=> ?_
   exact fin k _ _ _ (by omega) VT hN (by simp[aA,g3])
  ·refine W.cond (v:=true) Ug T3 (by simp[aA];omega) (by omega) (λ_=> ?_) λh=>by cases h
   refine LI_.w Adc_ (by omega) ?_
   have ei:wrap64 ((k:Nat)+1:Int)=((k+1:Nat):Int):=by
    rw[Bq (by omega) (by omega)];simp
   simp only[Wo,Ac,W_oS,Aa,W_mv,Ab,aA,Nat.reduceEqDiff, ↓reduceIte,BG,g3,ei]
   refine AdJ_.w Uc_ (by omega) ?_
   simp only[Jv_,Ac,W_oS,Aa,W_mv,Ab,aA,reduceCtorEq, ↓reduceIte,g0]
   rw[WS]
   have hm':m/128<128^f:=by
    rw[Nat.pow_succ]at hm
    exact Nat.div_lt_of_lt_mul (by rw[Nat.mul_comm];exact hm)
   have hN':k+(if m=0 then 0 else 1+digs f (m/128))=N:=hN
   rw[if_neg hm0]at hN'
   exact ih (m/128) (k+1) _ _ _ hm' (by omega) (by omega) (by omega) VR_ (by omega) (by simp[aA]) (by simp[aA])
theorem AbT_ {m:Nat}(hm:m<=2147483647)(hn:200<=n)(q:Q (.int .i64 (BQ m:Nat)) s):W (Ay envS (runF envS n) 113 [.int .i64 (m:Nat)]) s Q:=by
 refine Tt_ λtm g0=> ?_
 refine Vh_.w rfl (by omega) ?_
 simp only[BA_,Aa,W_mv,Ab]
 refine AfF_.w AjE_ (by omega) ?_
 have e1:decide (((m:Nat):Int)<0)=false:=decide_eq_false (by omega)
 have e2:decide ((2147483647:Int)<((m:Nat):Int))=false:=decide_eq_false (by omega)
 simp only[Em_,Ac,W_oS,W_on,Aa,W_mv,Ab,aA,Ai,An,Ak,Al,Aj,reduceCtorEq, ↓reduceIte,Bg,CT,g0,e1,e2,Bool.false_eq_true]
 refine W.cond (v:=false) AdS_ WZ_ (by simp[aA]) (by omega) (λh=>by cases h) λ_=> ?_
 refine PL_.w AfW_ (by omega) ?_
 simp only[GG_,Aa,W_mv,Ab]
 refine Akj_.w Ade_ (by omega) ?_
 simp only[AC_,Ac,W_oS,Aa,W_mv,Ab,aA,reduceCtorEq, ↓reduceIte,g0]
 rw[WS]
 refine Aer_ (N:=BQ m) rfl ?_ 5 (m/128) 1 _ _ _ (Nat.lt_of_le_of_lt (show m/128<=16777216 by omega) (by decide)) (Nat.le_refl _) (by omega) (by omega) AeD_ (Ahi_ hm) (by simp[aA]) (by simp[aA])
 exact q
end
structure WrI (s0 s:St)(A:Nat)(v:Value)(acc:List Nat)(bk:Nat):Prop where
 x:Ext Any Non s0 s
 o0:Own s A 0 (.bool true)
 o1:Own s A 1 (.bool false)
 o2:Own s A 2 v
 ml:MkS s 1 acc.length (u8l acc) v bk
 hA:s0.next<=A
 hAt:A+3<=s.next
 hb:s0.next<=bk
 dj: ∀x,MkF 1 acc.length bk x-> ¬(A<=x/\x<A+3)
theorem WrI.ext {F G:Nat->Prop}{s0 s s':St}{A:Nat}{v:Value}{acc:List Nat}{bk:Nat}(h:WrI s0 s A v acc bk)(hb0:s0.lim<=s0.next)(x:Ext F G s s')(hG: ∀y,G y->s.next<=y):WrI s0 s' A v acc bk:=by
 have a:=h.hAt
 have ne: ∀y,y<s.next-> ¬G y:=λy hy hg=>by have:=hG y hg;omega
 exact⟨h.x.onG x hb0 λy hy hg=>absurd (hG y hg) (by have:=h.x.nxt;omega),h.o0.ext x (ne _ (by omega)),h.o1.ext x (ne _ (by omega)),h.o2.ext x (ne _ (by omega)),h.ml.ext x λy hy=>ne y (h.ml.lt y hy),h.hA,Nat.le_trans a x.nxt,h.hb,h.dj⟩
theorem WrI.ext0 {F:Nat->Prop}{s0 s s':St}{A:Nat}{v:Value}{acc:List Nat}{bk:Nat}(h:WrI s0 s A v acc bk)(hb0:s0.lim<=s0.next)(x:Ext F Non s s'):WrI s0 s' A v acc bk:=h.ext hb0 x λ_ h=>h.elim
abbrev WrG (A:Nat)(acc:List Nat)(bk:Nat):Nat->Prop:=λx=>(A<=x/\x<A+3)\/MkF 1 acc.length bk x
section
variable {n:Nat}{s:St}{Q:Value->St->Prop}
theorem AcC_ (hb:s.lim<=s.next)(hn:20<=n)(q: ∀s1,WrI s s1 s.next (.slice none 0 0) [] s1.next->s1.next=s.next+4->Q (.pointer (some ⟨s.next,0,none⟩)) s1):W (Ay envS (runF envS n) 75 []) s Q:=by
 have hb0:(s.cxN cxN).lim<=(s.cxN cxN).next:=hb
 refine OY_ λtm=> ?_
 refine PE_.w rfl (by omega) ?_
 simp only[Fo_,Aa,W_mv,Ab]
 refine Vq_.w MW_ (by omega) ?_
 simp only[VO,Ac,W_oS,Aa,W_mv,Ab,Aw,Av,Ae,J4 VE_]
 refine W.box λs1 n1 x1 o1=> ?_
 have n1':s1.next=s.next+4:=n1
 have y1:Ext Any Non (s.cxN cxN) s1:=x1.any hb0
 have o1':AC s1 s.next 0 [.bool true, .bool false, .slice none 0 0]:=o1
 refine aG (rs:=[0]) (vs:=[.pointer (some ⟨s.next,0,none⟩)]) Ajn_ (.inl NJ_) (by omega) Wl Mn_ y1.cx (by simp[aA];rfl) ?_
 have c1:(s1.cxN s.cx).next=s1.next:=rfl
 exact q _ ⟨y1.cx',(o1' 0 _ rfl).same rfl rfl,(o1' 1 _ rfl).same rfl rfl,(o1' 2 _ rfl).same rfl rfl, .inl ⟨rfl,rfl,rfl⟩,Nat.le_refl _,by omega,by omega,λx hx=>absurd hx.1 (Nat.lt_irrefl 0)⟩ n1'
end
def dgI (m i t:Nat):Nat:=if t<i then(m>>>(7*t))%128+128 else 0
def arrI (m i:Nat):List Nat:=[dgI m i 4,dgI m i 3,dgI m i 2,dgI m i 1,dgI m i 0]
theorem Agt_ (m:Nat){i:Nat}(h:i<5):(arrI m i).set (4-i) ((m>>>(7*i))%128+128)=arrI m (i+1):=by
 have:i=0\/i=1\/i=2\/i=3\/i=4:=by omega
 rcases this with rfl|rfl|rfl|rfl|rfl<;>simp[arrI,dgI]
theorem KI_ {m:Nat}(h:m<=2147483647):((arrI m (BQ m)).set 4 (dgI m (BQ m) 0%128)).drop (5-BQ m)=numB m:=by
 have hb:=E6 m
 have e0:((m>>>(7*0))%128+128)%128=m%128:=by simp
 have e1:m>>>(7*1)=m/128:=by rw[Nat.shiftRight_eq_div_pow]
 have e2:m>>>(7*2)=m/128/128:=by rw[Nat.shiftRight_eq_div_pow,Nat.div_div_eq_div_mul]
 have e3:m>>>(7*3)=m/128/128/128:=by rw[Nat.shiftRight_eq_div_pow,Nat.div_div_eq_div_mul,Nat.div_div_eq_div_mul]
 have e4:m>>>(7*4)=m/128/128/128/128:=by rw[Nat.shiftRight_eq_div_pow,Nat.div_div_eq_div_mul,Nat.div_div_eq_div_mul,Nat.div_div_eq_div_mul]
 unfold numB
 generalize BQ m=k at *
 have:k=1\/k=2\/k=3\/k=4\/k=5:=by omega
 rcases this with rfl|rfl|rfl|rfl|rfl<;>simp only[arrI,dgI,hiB,e0,e1,e2,e3,e4,Nat.lt_irrefl,if_true,if_false,Nat.reduceLT,Nat.reduceSub,List.set_cons_succ,List.set_cons_zero,List.drop_succ_cons,List.drop_zero,List.nil_append,List.cons_append]<;>rfl
theorem Bk_ {b:Nat}{s:St}(Q:Value->St->Prop):W (Bt envS 150 (.pointer (some ⟨b,0,none⟩)) (.int .i64 4)) s Q=Q (.pointer (some ⟨b,0+4*1,none⟩)) s:=Bq_ (k:=4) Tw (by decide) Q
section
variable {A B:Nat}{Q:Value×FrameMode->St->Prop}{s0:St}{v:Value}{acc:List Nat}{bk m:Nat}
structure WrA (s0 s:St)(A B:Nat)(v:Value)(acc:List Nat)(bk:Nat)(arr:List Nat):Prop where
 w:WrI s0 s A v acc bk
 r:AC s B 0 (u8l arr)
 hB:A+3<=B
 hm: ∀x,MkF 1 acc.length bk x->x<B
theorem WrA.put {G:Nat->Prop}{s s':St}{arr:List Nat}{k x:Nat}(h:WrA s0 s A B v acc bk arr)(hb0:s0.lim<=s0.next)(hk:k<arr.length)(hn:s'.next=s.next)(e:Ext G (In B k 1) s s')(ho:Own s' B k (u8 x)):WrA s0 s' A B v acc bk (arr.set k x):=by
 have a:=h.w.hA
 have c:=h.hB
 have ne: ∀y,y<B-> ¬In B k 1 y:=λy hy hg=>by have:=hg.1;omega
 refine⟨⟨h.w.x.onG e hb0 λy hy hg=>absurd hg (ne y (by omega)),h.w.o0.ext e (ne _ (by omega)),h.w.o1.ext e (ne _ (by omega)),h.w.o2.ext e (ne _ (by omega)),h.w.ml.ext e λy hy=>ne y (h.hm y hy),a,by rw[hn];exact h.w.hAt,h.w.hb,h.w.dj⟩,λj u hu=> ?_,c,h.hm⟩
 rw[List.getElem?_map]at hu
 obtain⟨z,hz,rfl⟩:=Option.map_eq_some_iff.1 hu
 by_cases hj:j=k
 ·subst hj
  rw[List.getElem?_set_self hk]at hz
  cases hz
  rw[Nat.zero_add]
  exact ho
 ·rw[List.getElem?_set_ne (λe=>hj e.symm)]at hz
  exact(h.r j _ (by rw[List.getElem?_map,hz];rfl)).ext e λhg=>by have h1:=hg.1;have h2:=hg.2;omega
theorem WrA.ext0 {F:Nat->Prop}{s s':St}{arr:List Nat}(h:WrA s0 s A B v acc bk arr)(hb0:s0.lim<=s0.next)(x:Ext F Non s s'):WrA s0 s' A B v acc bk arr:=⟨h.w.ext0 hb0 x,h.r.ext0 x,h.hB,h.hm⟩
theorem AgU_ {k0:Nat}(hb0:s0.lim<=s0.next)(hk5:k0<=5)(hm:m<=2147483647):
  ∀(k i n:Nat) (tm:T Value) (s:St) (td:List Item),i+k=k0->20*k+20<=n->skim 64 td=IC->WrA s0 s A B v acc bk (arrI m i)->
  T.get tm 0=some (.pointer (some ⟨A,0,none⟩))->T.get tm 1=some (.int .i64 (m:Nat))->T.get tm 4=some (.int .i64 (k0:Nat))->T.get tm 5=some (.pointer (some ⟨B,0,none⟩))->T.get tm 29=some (.int .i64 (k0:Nat))->T.get tm 30=some (.int .i64 (i:Nat))->
  (∀(n1:Nat) (tm1:T Value) (s1:St) (td1:List Item),n-(20*k+10)<=n1->skim 64 td1=I5->s.next=s1.next->Ext Any (In B 0 5) s s1->WrA s0 s1 A B v acc bk (arrI m k0)->T.get tm1 0=some (.pointer (some ⟨A,0,none⟩))->T.get tm1 4=some (.int .i64 (k0:Nat))->T.get tm1 5=some (.pointer (some ⟨B,0,none⟩))->W (runF envS n1 ⟨76,Dz_,CM,tm1,td1, .run, .normal,none⟩) s1 Q)->
  W (runF envS n ⟨76,Dz_,CM,tm,td, .run, .normal,none⟩) s Q:=by
 intro k
 induction k with
 |zero=>
  intro i n tm s td hi hn hT' h g0 g1 g4 g5 g29 g30 q
  have:i=k0:=by omega
  subst this
  refine Yp.w hT' (by omega) ?_
  simp only[S5,Ac,W_oS,Aa,Ab,Bg,g29,g30]
  refine W.cond (v:=false) Gx_ JG_ (by simp[aA]) (by omega) (λh=>by cases h) λ_=> ?_
  exact q _ _ s _ (by omega) SL_ rfl (Ext.refl _) h (by simp[aA,g0]) (by simp[aA,g4]) (by simp[aA,g5])
 |succ k ih=>
  intro i n tm s td hi hn hT' h g0 g1 g4 g5 g29 g30 q
  have hi5:i<5:=by omega
  have hb:=h.w.x.bnd hb0
  refine Yp.w hT' (by omega) ?_
  simp only[S5,Ac,W_oS,Aa,Ab,Bg,g29,g30]
  refine W.cond (v:=true) Gx_ JG_ (by simp[aA];omega) (by omega) (λ_=> ?_) λh=>by cases h
  refine AhM_.w Afd_ (by omega) ?_
  simp only[Xc,Aa,W_mv,Ab,aA,Nat.reduceEqDiff, ↓reduceIte,g30]
  refine Xo_.w Acj_ (by omega) ?_
  have e4:wrap64 (4-((i:Nat):Int))=((4-i:Nat):Int):=by
   rw[Bq (by omega) (by omega)];omega
  simp only[Bx_,Ac,W_oS,Aa,W_mv,aA,Nat.reduceEqDiff, ↓reduceIte,Ec,g1,g5,e4]
  rw[UH_ (by omega)]
  rw[Hw (show 7*i<=btOf .i64 by show 7*i<=64;omega)]
  rw[Aii_]
  rw[MA Adb_ Uo,wrap_u8,show m>>>(7*i)%128%256=m>>>(7*i)%128 by omega]
  rw[Lx_ (Nat.mod_lt _ (by decide))]
  rw[Bq_ Tw (show 4-i<5 by omega)]
  have oK: ∃u,Own s B (0+(4-i)*1) u:=by
   obtain⟨u,hu⟩:=AC.owned h.r (4-i) (by show 4-i<5;omega)
   exact⟨u,by rw[Nat.mul_one];exact hu⟩
  obtain⟨u,hu⟩:=oK
  refine aI (b:=B) (o:=0+(4-i)*1) ER rfl hu λs1 n1 x1 o1=> ?_
  rw[show 0+(4-i)*1=4-i by omega]at x1 o1
  have h1:=h.put hb0 (k:=4-i) (show 4-i<5 by omega) n1 x1 o1
  rw[Agt_ m hi5]at h1
  refine AaB_.w AdT_ (by omega) ?_
  have ei:wrap64 ((i:Nat)+1:Int)=((i+1:Nat):Int):=by
   rw[Bq (by omega) (by omega)];simp
  simp only[BP_,Ac,W_oS,Aa,W_mv,Ab,aA,Nat.reduceEqDiff, ↓reduceIte,BG,g30,ei]
  refine ih (i+1) _ _ s1 _ (by omega) (by omega) AbK_ h1 (by simp[aA,g0]) (by simp[aA,g1]) (by simp[aA,g4]) (by simp[aA,g5]) (by simp[aA,g29]) (by simp[aA]) λn2 tm2 s2 td2 a1 a2 a3 a4=> ?_
  exact q n2 tm2 s2 td2 (by omega) a2 (by rw[<-n1];exact a3) ((x1.weak hb (λ_ _ _=>trivial) λy _ hg=>⟨by have:=hg.1;omega,by have:=hg.2;omega⟩).trans a4 hb (λ_ _ _=>trivial) λ_ _ h=>h)
end
theorem WrI.cxs {s0 s:St}{A:Nat}{v:Value}{acc:List Nat}{bk:Nat}(h:WrI s0 s A v acc bk)(c:Ctx):WrI (s0.cxN c) (s.cxN c) A v acc bk:=⟨h.x.cxs c c,h.o0.same rfl rfl,h.o1.same rfl rfl,h.o2.same rfl rfl,h.ml.same rfl rfl,h.hA,h.hAt,h.hb,h.dj⟩
theorem WrI.back {s0 s s1:St}{A:Nat}{v v':Value}{acc acc':List Nat}{bk bk':Nat}(h:WrI s0 s A v acc bk)(k:WrI (s0.cxN cxN) s1 A v' acc' bk'):WrI s0 (s1.cxN s.cx) A v' acc' bk':=by
 have e:s.cx=s0.cx:=h.x.cx
 rw[e]
 exact k.cxs s0.cx
theorem WrI.turn {F G:Nat->Prop}{s0 s s':St}{A:Nat}{v:Value}{acc:List Nat}{bk:Nat}(h:WrI s0 s A v acc bk)(hb0:s0.lim<=s0.next)(x:Ext F G s s')(hG: ∀y,G y->y=A+1\/s.next<=y)(o:Own s' A 1 (.bool false)):WrI s0 s' A v acc bk:=by
 have a:=h.hAt
 have c:=h.hA
 have ne: ∀y,y<s.next->y≠A+1-> ¬G y:=λy hy h1 hg=>by have:=hG y hg;omega
 exact⟨h.x.onG x hb0 λy hy hg=>absurd (hG y hg) (by have:=h.x.nxt;omega),h.o0.ext x (ne _ (by omega) (by omega)),o,h.o2.ext x (ne _ (by omega) (by omega)),h.ml.ext x λy hy=>ne y (h.ml.lt y hy) (λe=>h.dj y hy (by omega)),h.hA,Nat.le_trans a x.nxt,h.hb,h.dj⟩
section
variable {n A:Nat}{Q:Value->St->Prop}{s0 s:St}{v:Value}{acc:List Nat}{bk m:Nat}
theorem GS (hb0:s0.lim<=s0.next)(h:WrI s0 s A v acc bk)(hm:m<=2147483647)(hz:acc.length<=1000000)(hn:600<=n)(q: ∀u s1 v' bk',WrI s0 s1 A v' (acc++numB m) bk'->s.next<=bk'->Ext Any (WrG A acc bk) s s1->Q u s1):
  W (Ay envS (runF envS n) 76 [.pointer (some ⟨A,0,none⟩), .int .i64 (m:Nat)]) s Q:=by
 have hbx:(s0.cxN cxN).lim<=(s0.cxN cxN).next:=hb0
 have hx:WrI (s0.cxN cxN) (s.cxN cxN) A v acc bk:=h.cxs cxN
 have hbs:(s.cxN cxN).lim<=(s.cxN cxN).next:=hx.x.bnd hbx
 obtain⟨k,hk⟩: ∃k,BQ m=k:=⟨_,rfl⟩
 have hk1:1<=k/\k<=5:=by rw[<-hk];exact E6 m
 have hAt:=h.hAt
 refine YV_ λtm g0 g1=> ?_
 refine Sm_.w rfl (by omega) ?_
 simp only[Bw_,Ac,W_oS,W_on,Aa,W_mv,Ab,Ai,An,Ak,Al,Aj,Ao,reduceCtorEq, ↓reduceIte,g0,My XU,A8 Ty (by decide)]
 refine aD Fi hx.o0.at' ?_
 have y1:Ext Any Non (s.cxN cxN) ((s.cxN cxN).rdN (A+(0+0))):=(Ext.refl (F:=Any) (G:=Non) _).thenRd hbs _
 simp only[DW,Bool.not_true]
 refine W.cond (v:=false) SZ_ Si_ (by simp[aA]) (by omega) (λh=>by cases h) λ_=> ?_
 refine Lp_.w Nb_ (by omega) ?_
 simp only[Gt_,Ac,W_on,Aa,W_mv,Ab,aA,Ag,Af,Ae,Ah,Nat.reduceEqDiff, ↓reduceIte,g1]
 refine AbT_ hm (by omega) ?_
 rw[hk]
 refine AhB_.w Oi_ (by omega) ?_
 simp only[Kb_,Ac,W_oS,W_on,Aa,W_mv,aA,Ao,reduceCtorEq, ↓reduceIte,g0,A8 Ii_ (by decide)]
 have h1:=hx.ext0 hbx y1
 refine aD Fi h1.o1.at' ?_
 have y2:=y1.thenRd hbs (A+(0+1))
 have h2:=hx.ext0 hbx y2
 have ek:decide (((k:Nat):Int)=0)=false:=decide_eq_false (by omega)
 simp only[W_oS,Aa,Ai,An,Ak,Al,Aj, ↓reduceIte,EU,ek,Bool.false_eq_true]
 refine aI (b:=A) (o:=0+1) Fi rfl h2.o1 λs3 n3 x3 o3=> ?_
 have y3:Ext Any (WrG A acc bk) (s.cxN cxN) s3:=(y2.weak hbs (λ_ _ h=>h) λ_ _ h=>h.elim).onG x3 hbs λy _ hy=> .inl (by have h1:=hy.1;have h2:=hy.2;omega)
 have n3':s3.next=s.next:=n3
 have h3:WrI (s0.cxN cxN) s3 A v acc bk:=h2.turn hbx x3 (λy hy=> .inl (by have h1:=hy.1;have h2:=hy.2;omega)) o3
 refine AbL_.w AkF_ (by omega) ?_
 simp only[HJ_,Ac,Aa,Ab]
 refine W.alloc AfD_ λs4 n4 x4 o4=> ?_
 have n4':s4.next=s3.next+6:=n4
 have h4:=h3.ext0 hbx x4
 have y4:=y3.onG x4 hbs λ_ _ h=>h.elim
 refine WA_.w OM_ (by omega) ?_
 simp only[JB_,Aa,W_mv,Ab,aA,Nat.reduceEqDiff, ↓reduceIte]
 refine AgU_ (s0:=s0.cxN cxN) (A:=A) (B:=s3.next) (v:=v) (acc:=acc) (bk:=bk) (m:=m) (k0:=k) hbx hk1.2 hm k 0 _ _ s4 _ (Nat.zero_add _) (by omega) OZ_ ⟨h4,o4,by omega,λx hx=>by have:=h3.ml.lt x hx;omega⟩ (by simp[aA,g0]) (by simp[aA,g1]) (by simp[aA]) (by simp[aA]) (by simp[aA]) (by simp[aA]) λn7 tm7 s7 td7 hn7 hT7 n7' x7 h7 k0 k4 k5=> ?_
 have y7:Ext Any (WrG A acc bk) (s.cxN cxN) s7:=y4.onG x7 hbs λy hy hg=>by
  have h1:=hg.1
  have h2:y<s.next:=hy
  omega
 refine Pu_.w hT7 (by omega) ?_
 simp only[HA_,Ac,W_oS,Aa,W_mv,Ab,CT,k4]
 refine W.cond (v:=true) XL_ Lf_ (by simp[aA];omega) (by omega) (λ_=> ?_) λh=>by cases h
 refine ZK_.w AbC_ (by omega) ?_
 simp only[Bg_,Ac,W_oS,Aa,aA,Nat.reduceEqDiff, ↓reduceIte,k5,Bk_]
 have a4:Own s7 s3.next (0+4*1) (u8 (dgI m k 0)):=h7.r 4 _ rfl
 refine aD (b:=s3.next) (o:=0+4*1) ER a4.at' ?_
 have y8:=y7.thenRd' hbs (s3.next+(0+4*1))
 have h8:WrA (s0.cxN cxN) (s7.rdN (s3.next+(0+4*1))) A s3.next v acc bk (arrI m k):=h7.ext0 hbx (Ext.rdN (F:=Any) (G:=Non) s7 _ λ_=>trivial)
 rw[Ge_]
 refine aI (b:=s3.next) (o:=0+4*1) ER rfl (a4.same rfl rfl) λs9 n9 x9 o9=> ?_
 have y9:Ext Any (WrG A acc bk) (s.cxN cxN) s9:=y8.onG x9 hbs λy hy hg=>by
  have h1:=hg.1
  have h2:y<s.next:=hy
  omega
 have h9:=h8.put hbx (k:=4) (show 4<5 by decide) n9 x9 o9
 have n9':s9.next=s7.next:=n9
 obtain⟨arr,harr⟩: ∃a,(arrI m k).set 4 (dgI m k 0%128)=a:=⟨_,rfl⟩
 rw[harr]at h9
 have hend:arr.drop (5-k)=numB m:=by rw[<-harr,<-hk];exact KI_ hm
 have hb9:=h9.w.x.bnd hbx
 refine Wp_.w AiE_ (by omega) ?_
 simp only[Av_,aA,Nat.reduceEqDiff, ↓reduceIte,k0,k4,k5,BW,Br,CY,CS Kf (by decide)]
 refine aH (b:=A) (o:=0+2) CO (h9.w.o2.same (s':=dSt s9.mem s9.next) rfl rfl).at' λrd1 hr1=> ?_
 have e5:wrap64 (5-((k:Nat):Int))=((5-k:Nat):Int):=by
  rw[Bq (by omega) (by omega)];omega
 simp only[Br]
 rw[W_dq λs Q=>Ec (s:=s) 5 ((k:Nat):Int),e5]
 simp only[Dz,Ae]
 rw[W_dq λs Q=>KU (s:=s) (lo:=some (.int .i64 ((5-k:Nat):Int))) (hi:=none) (l:=5-k) (h:=5) Tw (Ct (by decide)) rfl rfl (by omega) (Nat.le_refl _) Q]
 rw[if_neg (show ¬5=5-k by omega),show 5-(5-k)=k by omega]
 have rowA:Row (oSt s9.mem s9.next) s3.next (0+(5-k)*1) (u8l (numB m)):=by
  rw[<-hend,Nat.mul_one]
  have:=(AC.drop (n:=5-k) h9.r).row
  have e:(u8l arr).drop (5-k)=u8l (arr.drop (5-k)):=by rw[u8l,<-List.map_drop]
  rw[e]at this
  exact λi u hu=>(this i u hu).same rfl rfl
 have lnB:(numB m).length=k:=by rw[ME,hk]
 simp only[Ag,Af,Ae,BW]
 refine W.dopG ?_
 rw[Ee]
 refine W.appU (s:=oSt s9.mem s9.next) (Nat.le_refl _) ES (h9.w.ml.same (s':=oSt s9.mem s9.next) rfl rfl) (FY (n:=k) (c:=k) rowA (by rw[Bu,lnB,Nat.mul_one])).g (by omega) (by decide) (by decide) (by omega) (by rw[Bu,lnB,Nat.mul_one]) (DI _) λsa va ba hba mka xa=>⟨_,_,xa,λrda wra hra hwa=> ?_⟩
 have na:s9.next<=sa.next:=xa.nxt
 have hba':s9.next<=ba:=hba
 simp only[CY,CS Kf (by decide)]
 rw[Aa]
 have hwM: ∀x∈wra,x<s9.next/\MkF 1 acc.length bk x:=hwa
 refine⟨NV ?_, ?_⟩
 ·simp only[List.reverse_cons,List.reverse_nil,List.nil_append,List.cons_append,allP,E9,List.take,IZ]
  have lts: ∀x,s9.next<=x-> ¬x<s9.next:=λx h=>by omega
  have w2: ∀x∈wra,x≠A+(0+2):=λx hx e=>h9.w.dj x (hwM x hx).2 (by omega)
  simp+contextual [lts]
  all_goals first
   |trivial
   |(repeat' first
     |exact .inl rfl
     |apply And.intro
     |(intro x hx;have:=w2 x;have:=hr1 x;simp_all;omega)
     |(intro x hx hy;have:=w2 x;have:=hr1 x;simp_all;omega))
 ·refine W.cast (AgP_ _ _ _ _ _ _ _ _ _ _ _ _ _ _ _ _) ?_
  simp only[Ac,W_oS,Aa]
  generalize hsF:(⟨(dSt sa.mem sa.next).mem,(dSt sa.mem sa.next).next,s9.lim,_,_,s9.cx⟩:St)=sF
  have mF:sF.mem=sa.mem:=by rw[<-hsF];rfl
  have nF:sF.next=sa.next:=by rw[<-hsF];rfl
  have xF:Ext (λ_=>True) (MkF 1 acc.length bk) s9 sF:=by
   rw[<-hsF]
   refine aU (by show s9.next<=sa.next;omega) (λx hx hg=>xa.mem x hx hg) ?_ λ_ _ _ _ _=>trivial
   simp only[List.mem_cons,List.not_mem_nil,or_false]
   rintro m (rfl|rfl|rfl|rfl|rfl|rfl|rfl|rfl|rfl|rfl|rfl) x hx hl<;>first|(cases hx;done)|exact(hwM x hx).2
  have nM: ∀y,A<=y/\y<A+3-> ¬MkF 1 acc.length bk y:=λy hy hm=>h9.w.dj y hm hy
  have mkF:MkS sF 1 (acc.length+k) (u8l acc++u8l (numB m)) va ba:=mka.same mF nF
  have yF:Ext Any (WrG A acc bk) (s.cxN cxN) sF:=y9.onG xF hbs λ_ _ h=> .inr h
  refine aI (b:=A) (o:=0+2) CO (by obtain⟨p,c,e⟩:=mkF.sl;rw[e];rfl) (h9.w.o2.ext xF (nM _ (by omega))) λsG nG xG oG=> ?_
  have yG:Ext Any (WrG A acc bk) (s.cxN cxN) sG:=yF.onG xG hbs λy _ hy=> .inl (by have h1:=hy.1;have h2:=hy.2;omega)
  have nG':sG.next=sF.next:=nG
  have hAx:=h.hA
  have nn:s.next<=s9.next:=y9.nxt
  refine W.endG AjC_ (.inr (by kernel_rfl)) (by omega) Jm_ WC_ yG.cx (aM ?_)
  refine q _ _ va ba (h.back ⟨?_, ?_, ?_,oG, ?_,h.hA,by omega,by have:=h.x.nxt;show s0.next<=ba;omega, ?_⟩) (by omega) yG.cx'
  ·refine hx.x.onG yG hbx λy hy hg=> ?_
   have hy':y<s0.next:=hy
   rcases hg with hg|hg
   ·omega
   ·have h1:=hg.2.1
    have:=h.hb
    omega
  ·exact(h9.w.o0.ext xF (nM _ (by omega))).ext xG λhg=>by have h1:=hg.1;omega
  ·exact(h9.w.o1.ext xF (nM _ (by omega))).ext xG λhg=>by have h1:=hg.1;omega
  ·rw[List.length_append,lnB,u8l,List.map_append]
   refine mkF.ext xG λy hy hg=> ?_
   have h1:=hy.2.1
   have h2:=hg.2
   omega
  ·intro x hx'
   have h1:=hx'.2.1
   omega
end
theorem Zp_ (a:Addr)(s:St):Cl.get (aBin envS .neq 104 (.tmp 4) (.const (.pointer none))) (.pointer (some a)) (.pointer none) s= .some (.bool true) s:=by kernel_rfl
section
variable {n A:Nat}{Q:Value->St->Prop}{s0 s:St}{v:Value}{acc:List Nat}{bk:Nat}
theorem Tq_ {id:List Nat}(hb0:s0.lim<=s0.next)(h:WrI s0 s A v acc bk)(hid:id.length=16)(hz:acc.length<=1000000)(hn:100<=n)(q: ∀u s1 v' bk',WrI s0 s1 A v' (acc++id) bk'->s.next<=bk'->Ext Any (WrG A acc bk) s s1->Q u s1):
  W (Ay envS (runF envS n) 77 [.pointer (some ⟨A,0,none⟩), .agg (u8l id).toArray]) s Q:=by
 have hbx:(s0.cxN cxN).lim<=(s0.cxN cxN).next:=hb0
 have hx:WrI (s0.cxN cxN) (s.cxN cxN) A v acc bk:=h.cxs cxN
 have hbs:(s.cxN cxN).lim<=(s.cxN cxN).next:=hx.x.bnd hbx
 have hAt:=h.hAt
 refine AeF_ λtm g0 g1=> ?_
 refine Xk_.w rfl (by omega) ?_
 simp only[Zx,Ac,W_oS,Aa,Ab,g1]
 refine W.box λs1 n1 x1 o1=> ?_
 rw[Dx]at o1
 have n1':s1.next=s.next+17:=by
  rw[n1,Dx,Bu,hid]
  rfl
 have y1:Ext Any Non (s.cxN cxN) s1:=x1.any hbs
 have h1:=hx.ext0 hbx y1
 refine SA_.w Agj_ (by omega) ?_
 simp only[Cb_,Ac,W_oS,W_on,Aa,W_mv,Ab,aA,reduceCtorEq, ↓reduceIte,g0]
 rw[Bd (Zp_ _ s1)]
 simp only[W_oS,Aa,Ai,Ap,Ak,Al,Aj,Ao, ↓reduceIte,A8 Ty (by decide)]
 refine aD Fi h1.o0.at' ?_
 have y2:=y1.thenRd hbs (A+(0+0))
 have h2:=hx.ext0 hbx y2
 refine W.cond (v:=true) MZ_ Aky_ (by simp[aA]) (by omega) (λ_=> ?_) λh=>by cases h
 obtain⟨s9,hs9⟩: ∃s9,s9=s1.rdN (A+(0+0)):=⟨_,rfl⟩
 rw[<-hs9]
 have n9:s9.next=s1.next:=by rw[hs9];rfl
 have y9:Ext Any Non (s.cxN cxN) s9:=by rw[hs9];exact y2
 have h9:WrI (s0.cxN cxN) s9 A v acc bk:=by rw[hs9];exact h2
 have r9:AC s9 s.next 0 (u8l id):=λi u e=>by rw[hs9];exact(o1 i u e).same rfl rfl
 have hb9:=h9.x.bnd hbx
 refine Vg_.w Aiu_ (by omega) ?_
 simp only[HG_,aA,Nat.reduceEqDiff, ↓reduceIte,g0,BW,Dz,Br,CY,CS Kf (by decide)]
 refine aH (b:=A) (o:=0+2) CO (h9.o2.same (s':=dSt s9.mem s9.next) rfl rfl).at' λrd1 hr1=> ?_
 simp only[Dz]
 rw[W_dq λs Q=>KU (s:=s) (lo:=none) (hi:=none) (l:=0) (h:=16) TJ (Ct (by decide)) rfl rfl (Nat.zero_le _) (Nat.le_refl _) Q]
 have rowA:Row (oSt s9.mem s9.next) s.next 0 (u8l id):=λi u hu=>(r9.row i u hu).same rfl rfl
 simp only[Ag,Af,Ae,BW]
 refine W.dopG ?_
 rw[Ee]
 refine W.appU (s:=oSt s9.mem s9.next) (Nat.le_refl _) ES (h9.ml.same (s':=oSt s9.mem s9.next) rfl rfl) (FY (n:=16) (c:=16) rowA (by rw[Bu,hid])).g (by decide) (by decide) (by decide) (by omega) (by rw[Bu,hid]) (DI _) λsa va ba hba mka xa=>⟨_,_,xa,λrda wra hra hwa=> ?_⟩
 have na:s9.next<=sa.next:=xa.nxt
 have hba':s9.next<=ba:=hba
 simp only[CY,CS Kf (by decide)]
 rw[Aa]
 have hwM: ∀x∈wra,x<s9.next/\MkF 1 acc.length bk x:=hwa
 refine⟨NV ?_, ?_⟩
 ·simp only[List.reverse_cons,List.reverse_nil,List.nil_append,List.cons_append,allP,E9,List.take,IZ]
  have lts: ∀x,s9.next<=x-> ¬x<s9.next:=λx h=>by omega
  have w2: ∀x∈wra,x≠A+(0+2):=λx hx e=>h9.dj x (hwM x hx).2 (by omega)
  simp+contextual [lts]
  all_goals first
   |trivial
   |(repeat' first
     |exact .inl rfl
     |apply And.intro
     |(intro x hx;have:=w2 x;have:=hr1 x;simp_all;omega)
     |(intro x hx hy;have:=w2 x;have:=hr1 x;simp_all;omega))
 ·refine W.cast (Wn_ _ _ _ _ _ _ _ _ _ _ _ _ _ _) ?_
  simp only[Ac,W_oS,Aa]
  generalize hsF:(⟨(dSt sa.mem sa.next).mem,(dSt sa.mem sa.next).next,s9.lim,_,_,s9.cx⟩:St)=sF
  have mF:sF.mem=sa.mem:=by rw[<-hsF];rfl
  have nF:sF.next=sa.next:=by rw[<-hsF];rfl
  have xF:Ext (λ_=>True) (MkF 1 acc.length bk) s9 sF:=by
   rw[<-hsF]
   refine aU (by show s9.next<=sa.next;omega) (λx hx hg=>xa.mem x hx hg) ?_ λ_ _ _ _ _=>trivial
   simp only[List.mem_cons,List.not_mem_nil,or_false]
   rintro m (rfl|rfl|rfl|rfl|rfl|rfl|rfl|rfl|rfl) x hx hl<;>first|(cases hx;done)|exact(hwM x hx).2
  have nM: ∀y,A<=y/\y<A+3-> ¬MkF 1 acc.length bk y:=λy hy hm=>h9.dj y hm hy
  have mkF:MkS sF 1 (acc.length+16) (u8l acc++u8l id) va ba:=mka.same mF nF
  have yF:Ext Any (WrG A acc bk) (s.cxN cxN) sF:=(y9.weak hbs (λ_ _ h=>h) λ_ _ h=>h.elim).onG xF hbs λ_ _ h=> .inr h
  refine aI (b:=A) (o:=0+2) CO (by obtain⟨p,c,e⟩:=mkF.sl;rw[e];rfl) (h9.o2.ext xF (nM _ (by omega))) λsG nG xG oG=> ?_
  have yG:Ext Any (WrG A acc bk) (s.cxN cxN) sG:=yF.onG xG hbs λy _ hy=> .inl (by have h1:=hy.1;have h2:=hy.2;omega)
  have nG':sG.next=sF.next:=nG
  have hAx:=h.hA
  have nn:s.next<=s9.next:=y9.nxt
  refine W.endG MF_ (.inr (by kernel_rfl)) (by omega) Ar_ OC_ yG.cx (aM ?_)
  refine q _ _ va ba (h.back ⟨?_, ?_, ?_,oG, ?_,h.hA,by omega,by have:=h.x.nxt;show s0.next<=ba;omega, ?_⟩) (by omega) yG.cx'
  ·refine hx.x.onG yG hbx λy hy hg=> ?_
   have hy':y<s0.next:=hy
   rcases hg with hg|hg
   ·omega
   ·have h1:=hg.2.1
    have:=h.hb
    omega
  ·exact(h9.o0.ext xF (nM _ (by omega))).ext xG λhg=>by have h1:=hg.1;omega
  ·exact(h9.o1.ext xF (nM _ (by omega))).ext xG λhg=>by have h1:=hg.1;omega
  ·rw[List.length_append,hid,u8l,List.map_append]
   refine mkF.ext xG λy hy hg=> ?_
   have h1:=hy.2.1
   have h2:=hg.2
   omega
  ·intro x hx'
   have h1:=hx'.2.1
   omega
theorem US_ (hb0:s0.lim<=s0.next)(h:WrI s0 s A v acc bk)(hz:acc.length<=1000000)(hn:60<=n)(q: ∀s1 w wb,Ext Any Non s s1->MkS s1 1 acc.length (u8l acc) w wb->s.next<=wb->Q (.tuple #[w, .int .i64 0]) s1):
  W (Ay envS (runF envS n) 78 [.pointer (some ⟨A,0,none⟩)]) s Q:=by
 have hbx:(s0.cxN cxN).lim<=(s0.cxN cxN).next:=hb0
 have hx:WrI (s0.cxN cxN) (s.cxN cxN) A v acc bk:=h.cxs cxN
 have hbs:(s.cxN cxN).lim<=(s.cxN cxN).next:=hx.x.bnd hbx
 refine YW_ λtm g0=> ?_
 refine Th_.w rfl (by omega) ?_
 simp only[Iw_,Aa,W_mv,Ab]
 refine SE_.w AiN_ (by omega) ?_
 simp only[BH_,Ac,W_oS,W_on,Aa,W_mv,Ab,aA,Ai,An,Ak,Al,Aj,Ao,reduceCtorEq, ↓reduceIte,g0,My XU,A8 Ty (by decide)]
 refine aD Fi hx.o0.at' ?_
 have y1:Ext Any Non (s.cxN cxN) ((s.cxN cxN).rdN (A+(0+0))):=(Ext.refl (F:=Any) (G:=Non) _).thenRd hbs _
 have h1:=hx.ext0 hbx y1
 simp only[DW,Bool.not_true]
 refine W.cond (v:=false) Afo_ Vb_ (by simp[aA]) (by omega) (λh=>by cases h) λ_=> ?_
 refine Age_.w PY_ (by omega) ?_
 simp only[X2,Ac,W_oS,Aa,W_mv,Ab,aA,Ao,reduceCtorEq, ↓reduceIte,g0,A8 Ii_ (by decide)]
 refine aD Fi h1.o1.at' ?_
 have y2:=y1.thenRd hbs (A+(0+1))
 have h2:=hx.ext0 hbx y2
 refine W.cond (v:=false) QC_ Qi_ (by simp[aA]) (by omega) (λh=>by cases h) λ_=> ?_
 refine AbX_.w Po_ (by omega) ?_
 simp only[BE_,Ac,W_oS,Aa,W_mv,Ab,aA,Ag,Af,Ae,Ao,reduceCtorEq, ↓reduceIte,g0,A8 Kf (by decide)]
 refine aD CO h2.o2.at' ?_
 have y3:=y2.thenRd hbs (A+(0+2))
 have h3:=hx.ext0 hbx y3
 obtain⟨s3,hs3⟩: ∃s3,s3=(((s.cxN cxN).rdN (A+(0+0))).rdN (A+(0+1))).rdN (A+(0+2)):=⟨_,rfl⟩
 rw[<-hs3]at y3 h3 ⊢
 have n3:s3.next=s.next:=by rw[hs3];rfl
 rw[Ee]
 have hbsv:Bs s3 v acc:=h3.ml.bs (by unfold capU;omega)
 refine W.appV (s:=s3) (len:=0) (old:=[]) (b:=s.next) (y3.bnd hbs) ES (.inl ⟨rfl,rfl,rfl⟩) (Bs.src hbsv).g (by decide) (by decide) (by omega) (by rw[Bu];omega) (DI _) λs4 w wb hwb mk x4=> ?_
 have y4:Ext Any Non (s.cxN cxN) s4:=y3.onG x4 hbs λy hy hg=>absurd hg.1 (by decide)
 rw[List.nil_append,Nat.zero_add]at mk
 refine aG (rs:=[2,3]) (vs:=[w, .int .i64 0]) Ow_ (.inl AjJ_) (by omega) AP_ AaJ_ y4.cx (by simp[aA]) ?_
 refine q _ w wb y4.cx' (mk.same rfl rfl) ?_
 rcases hwb with⟨h,_⟩|h
 ·omega
 ·omega
end
theorem LY_:D8 envS 35=some (List.replicate 16 (.int .u8 0)++[.int .i64 0, .int .i64 0]):=by kernel_rfl
section
variable {A:Nat}{Q:Value×FrameMode->St->Prop}{s0:St}
theorem Hn_ {s:St}{v:Value}{acc:List Nat}{bk B w:Nat}(h:WrI s0 s A v acc bk)(hB:(∀y,MkF 1 acc.length bk y->y<B)\/B+w<=bk)(hA:A+3<=B){k:Nat}(hk:k<w): ¬WrG A acc bk (B+k):=λhg=>by
 rcases hg with hg|hg
 ·omega
 ·rcases hB with hB|hB
  ·have:=hB _ hg
   omega
  ·have:=hg.2.1
   omega
theorem Sd_ {vh vp:Value}{hs:List HdI}{ACC:List Nat}{i0 pl:Int}(hb0:s0.lim<=s0.next)(hi:HiR s0 vh hs)(h16: ∀h∈hs,h.1.length=16)(ok: ∀h∈hs,okH h)(hz:ACC.length<=900000)(hl:hs.length<=1000000):
  ∀(k j n:Nat) (acc:List Nat) (v:Value) (bk:Nat) (tm:T Value) (s:St) (td:List Item),j+k=hs.length->60*k+1000<=n->skim 64 td=If->WrI s0 s A v acc bk->acc++BT (hs.drop j)=ACC->
  T.get tm 5=some (.pointer (some ⟨A,0,none⟩))->T.get tm 42=some vh->T.get tm 43=some (.int .i64 (hs.length:Nat))->T.get tm 44=some (.int .i64 (j:Nat))->T.get tm 22=some vp->T.get tm 23=some (.int .i64 pl)->T.get tm 24=some (.int .i64 i0)->
  (∀(n1:Nat) (v1:Value) (bk1:Nat) (tm1:T Value) (s1:St) (td1:List Item),n-(60*k+10)<=n1->skim 64 td1=NM->WrI s0 s1 A v1 ACC bk1->T.get tm1 5=some (.pointer (some ⟨A,0,none⟩))->T.get tm1 22=some vp->T.get tm1 23=some (.int .i64 pl)->T.get tm1 24=some (.int .i64 i0)->W (runF envS n1 ⟨37,O9,BO,tm1,td1, .run, .normal,none⟩) s1 Q)->
  W (runF envS n ⟨37,O9,BO,tm,td, .run, .normal,none⟩) s Q:=by
 intro k
 induction k with
 |zero=>
  intro j n acc v bk tm s td hj hn hT' h hACC g5 g42 g43 g44 g22 g23 g24 q
  refine Bu_.w hT' (by omega) ?_
  simp only[Sa,Ac,W_oS,Aa,Ab,Bg,g43,g44]
  refine W.cond (v:=false) W4 Zv (by simp[aA];omega) (by omega) (λh=>by cases h) λ_=> ?_
  rw[List.drop_of_length_le (by omega)]at hACC
  have e:acc=ACC:=by rw[<-hACC];exact(List.append_nil acc).symm
  subst e
  exact q _ v bk _ s _ (by omega) WH_ h (by simp[aA,g5]) (by simp[aA,g22]) (by simp[aA,g23]) (by simp[aA,g24])
 |succ k ih=>
  intro j n acc v bk tm s td hj hn hT' h hACC g5 g42 g43 g44 g22 g23 g24 q
  have hjl:j<hs.length:=by omega
  have hb:=h.x.bnd hb0
  have hd:hs.drop j=hs[j]::hs.drop (j+1):=(List.getElem_cons_drop ..).symm
  rw[hd]at hACC
  obtain⟨b,o,c,ev,ga,_⟩:=(hi.ext0 h.x).at h16 hjl
  have hm:=List.getElem_mem hjl
  have g16:=h16 _ hm
  obtain⟨_,ok1,ok2,ok3,ok4⟩:=ok _ hm
  generalize hs[j]=hh at *
  have hACC':acc++(hh.1++(numB hh.2.1.toNat++numB hh.2.2.toNat)++BT (hs.drop (j+1)))=ACC:=hACC
  obtain⟨aa,ha⟩: ∃a:Nat,hh.2.1=a:=⟨hh.2.1.toNat,(Int.toNat_of_nonneg ok1).symm⟩
  obtain⟨zz,hzz⟩: ∃a:Nat,hh.2.2=a:=⟨hh.2.2.toNat,(Int.toNat_of_nonneg (by omega)).symm⟩
  rw[ha,hzz,Int.toNat_natCast,Int.toNat_natCast]at hACC'
  have hlens:(acc.length+(16+((numB aa).length+(numB zz).length))+(BT (hs.drop (j+1))).length)=ACC.length:=by
   rw[<-hACC']
   simp only[List.length_append,g16]
   omega
  refine Bu_.w hT' (by omega) ?_
  simp only[Sa,Ac,W_oS,Aa,Ab,Bg,g43,g44]
  refine W.cond (v:=true) W4 Zv (by simp[aA];omega) (by omega) (λ_=> ?_) λh=>by cases h
  refine Ajk_.w Ajo_ (by omega) ?_
  simp only[Gz_,Ac,W_oS,Aa,Ab,aA,Nat.reduceEqDiff, ↓reduceIte,g42,ev,g44,BX D5 hjl]
  refine aJ Fu ga (C6 g16) λs1 m1 n1 x1=> ?_
  refine W.alloc LY_ λs2 n2 x2 o2=> ?_
  have n2':s2.next=s1.next+19:=n2
  have h1:=h.ext0 hb0 x1
  have h2:=h1.ext0 hb0 x2
  have hA1:=h1.hAt
  refine W.store (b:=s1.next) (o:=0) Fu (v:= .agg (A9 hh).toArray) (C6 g16) (Qn _) (λi hi=>AC.owned o2 i (by simp;omega)) λs3 n3 x3 o3=> ?_
  rw[Dx]at o3
  have n3':s3.next=s2.next:=n3
  have h3:WrI s0 s3 A v acc bk:=by
   have h3':=h1.ext (s':=s3) (F:=Any) (G:=In s1.next 0 18) hb0 ((x2.weak (h1.x.bnd hb0) (λ_ _ h=>h.elim) λ_ _ h=>h.elim).trans x3 (h1.x.bnd hb0) (λ_ _ _=>trivial) λ_ _ h=>h) λy hy=>by have:=hy.1;omega
   exact h3'
  have r3:AC s3 s1.next 0 (A9 hh):=o3
  have keep: ∀{F:Nat->Prop} {s s':St} {v:Value} {acc:List Nat} {bk:Nat},WrI s0 s A v acc bk->((∀y,MkF 1 acc.length bk y->y<s1.next)\/s1.next+18<=bk)->AC s s1.next 0 (A9 hh)->Ext F (WrG A acc bk) s s'->AC s' s1.next 0 (A9 hh):=λhw hB r x=>r.ext x λi hi=>by
   rw[C6 g16]at hi
   rw[Nat.zero_add]
   exact Hn_ hw hB hA1 hi
  have get16: ∀{s:St},AC s s1.next 0 (A9 hh)->Own s s1.next 16 (.int .i64 (aa:Nat))/\Own s s1.next 17 (.int .i64 (zz:Nat)):=λr=>by
   obtain⟨e1,e2⟩:=IW g16
   rw[ha]at e1
   rw[hzz]at e2
   exact⟨r 16 _ e1,r 17 _ e2⟩
  have hMk: ∀y,MkF 1 acc.length bk y->y<s1.next:=h1.ml.lt
  have hb3:=h3.x.bnd hb0
  refine TU_.w AgB_ (by omega) ?_
  simp only[Zt,Ac,W_oS,W_on,Aa,W_mv,aA,Ag,Af,Ae,Ah,Nat.reduceEqDiff, ↓reduceIte,g5,A8 IW_ (by decide)]
  have rid:Row s3 s1.next (0+0) (u8l hh.1):=λi u e=>by
   have hi16:i<16:=by
    have:=(List.getElem?_eq_some_iff.1 e).1
    rw[Bu,g16]at this
    exact this
   have:(A9 hh)[i]?=some u:=by
    unfold A9
    rw[List.getElem?_append_left (by rw[Bu,g16];exact hi16)]
    exact e
   exact(r3 i u this).at'
  refine aJ (b:=s1.next) (o:=0+0) J1 rid (by rw[Bu,g16]) λs4 m4 n4 x4=> ?_
  have h4:=h3.ext0 hb0 x4
  have r4:AC s4 s1.next 0 (A9 hh):=r3.ext0 x4
  have n4':s4.next=s3.next:=n4
  refine Tq_ hb0 h4 g16 (by omega) (by omega) λu s5 v5 bk5 h5 hbk5 x5=> ?_
  have r5:=keep h4 (.inl hMk) r4 x5
  refine Acg_.w AhW_ (by omega) ?_
  simp only[ZW,Ac,W_oS,W_on,Aa,W_mv,aA,Ag,Af,Ae,Ah,Nat.reduceEqDiff, ↓reduceIte,g5,A8 Il_ (by decide)]
  refine aD (b:=s1.next) (o:=0+16) Be (get16 r5).1.at' ?_
  have x6:Ext Any Non s5 (s5.rdN (s1.next+(0+16))):=Ext.rdN (F:=Any) (G:=Non) s5 _ λ_=>trivial
  have h6:=h5.ext0 hb0 x6
  have r6:AC (s5.rdN (s1.next+(0+16))) s1.next 0 (A9 hh):=r5.ext0 x6
  have n6:(s5.rdN (s1.next+(0+16))).next=s5.next:=rfl
  have n45:s4.next<=s5.next:=x5.nxt
  refine GS hb0 h6 (by omega) (by rw[List.length_append,g16];omega) (by omega) λu7 s7 v7 bk7 h7 hbk7 x7=> ?_
  have r7:=keep h6 (.inr (by omega)) r6 x7
  have n57:s5.next<=s7.next:=x7.nxt
  refine Wy_.w OA_ (by omega) ?_
  simp only[YH,Ac,W_oS,W_on,Aa,W_mv,aA,Ag,Af,Ae,Ah,Nat.reduceEqDiff, ↓reduceIte,g5,A8 Ef_ (by decide)]
  refine aD (b:=s1.next) (o:=0+17) Be (get16 r7).2.at' ?_
  have x8:Ext Any Non s7 (s7.rdN (s1.next+(0+17))):=Ext.rdN (F:=Any) (G:=Non) s7 _ λ_=>trivial
  have h8:=h7.ext0 hb0 x8
  refine GS hb0 h8 (by omega) (by rw[List.length_append,List.length_append,g16];omega) (by omega) λu9 s9 v9 bk9 h9 _ _=> ?_
  refine ZE_.w AjQ_ (by omega) ?_
  have ei:wrap64 ((j:Nat)+1:Int)=((j+1:Nat):Int):=by
   rw[Bq (by omega) (by omega)];simp
  simp only[GF_,Ac,W_oS,Aa,W_mv,Ab,aA,Nat.reduceEqDiff, ↓reduceIte,BG,g44,ei]
  refine ih (j+1) _ (((acc++hh.1)++numB aa)++numB zz) v9 bk9 _ s9 _ (by omega) (by omega) Mo_ h9 ?_ (by simp[aA,g5]) (by simp[aA,g42,ev]) (by simp[aA,g43]) (by simp[aA]) (by simp[aA,g22]) (by simp[aA,g23]) (by simp[aA,g24]) λn1 v1 bk1 tm1 s1' td1 a1=>q n1 v1 bk1 tm1 s1' td1 (by omega)
  rw[<-hACC']
  simp only[List.append_assoc]
end
def NewO (s s':St)(v:Value)(l:List Nat):Prop:= ∃nb c,v= .slice (some ⟨nb,0,none⟩) l.length c/\l.length<=c%capU/\Cq c 1=true/\AC s' nb 0 (u8l l)/\s.next<=nb
theorem Te_ {n:Nat}{s:St}{b o c:Nat}{parts:List (Value×List Nat)}{Q:Value->St->Prop}(hbd:s.lim<=s.next)(hp:Parts s b o parts)(h0:0<tot parts)(ht:tot parts<=1000000)(hlen:parts.length<=4611686018427387904)(hn:13*parts.length+60<=n)
  (q: ∀s1 v,Ext (D2 b o parts) Non s s1->NewO s s1 v (fl parts)->Q v s1):W (Ay envS (runF envS n) 63 [.slice (some ⟨b,o,none⟩) parts.length c]) s Q:=by
 refine Cs_ λtm hk0=> ?_
 have hpc:Parts (s.cxN cxN) b o parts:=hp.same rfl rfl
 refine Wd.w rfl (by omega) ?_
 simp only[RL,Aa,W_mv,Ab]
 refine Z6.w VL (by omega) ?_
 simp only[TA,Aa,W_mv,Ab]
 refine YP.w GD_ (by omega) ?_
 simp only[U9,Ac,W_oS,Aa,W_mv,Ab,aA,Ag,Af,Ae,reduceCtorEq, ↓reduceIte,hk0,Cc HO]
 refine VY (c:=c) ht hlen (F:=D2 b o parts) (λ_ h=>h) (s0:=s.cxN cxN) hbd hpc parts.length 0 _ _ _ _ (by omega) (by omega) An_ (Ext.refl _) rfl rfl (by simp[aA,hk0]) (by simp[aA]) (by simp[aA]) (by simp[aA]) (by simp[aA,tot]) λn1 tm1 s1 td1 hn1 hT1 hx1 hm1 hnx1 g0 g3=> ?_
 refine CK_.w hT1 (by omega) ?_
 simp only[Ux,Ac,W_on,Aa,W_mv,Ab,Ag,Af,Ae,Ah,g3]
 have hb1:s1.lim<=s1.next:=hx1.bnd hbd
 refine Ie_ hb1 (by omega) h0 ht λs2 v nb hr x2=> ?_
 obtain⟨rfl,hnew,hown⟩:=hr
 have hx2:Ext (D2 b o parts) Non (s.cxN cxN) s2:=hx1.step x2 hbd (λ_ _ h=>h.elim) λ_ h=>h.elim
 have hnb:s.next<=nb:=by
  have:s1.next=s.next:=hnx1
  omega
 have hcc:=Pr (q:=(nb+tot parts*1)*1024+1) (Ct (n:=tot parts) (by omega))
 have hok:=Hz (m:=nb+tot parts*1) (sz:=1) (Ct (n:=tot parts) (by omega)) (by decide)
 generalize hC:capU*((nb+tot parts*1)*1024+1)+tot parts=C at *
 refine CE_.w W9 (by omega) ?_
 simp only[R5,Ac,W_oS,Aa,W_mv,Ab,aA,Ag,Af,Ae,reduceCtorEq, ↓reduceIte,g0,Cc HO]
 refine Zy (c:=c) ht hlen (F:=D2 b o parts) (λ_ h=>h) (s0:=s.cxN cxN) hbd hpc (nb:=nb) (cc:=C) hnb hcc parts.length 0 _ _ _ _ (by omega) (by omega) HS_ hx2 (by have:=hown.owned;rwa [List.length_replicate]at this) (λi v e=>by simp[fl]at e) (by simp[aA]) (by simp[aA]) (by simp[aA]) (by simp[aA,tot]) λn3 tm3 s3 td3 hn3 hT3 hx3 hrow g6=> ?_
 refine Z3.w hT3 (by omega) ?_
 simp only[Ss,Aa,W_mv,Ab,g6]
 refine aG (rs:=[2]) (vs:=[.slice (some ⟨nb,0,none⟩) (tot parts) C]) XA (.inl FT_) (by omega) Uv VQ hx3.cx (by simp[aA]) ?_
 refine q _ _ hx3.cx' ⟨nb,C,by rw[Ip];rfl,by rw[Ip,hcc];exact Nat.le_refl _,hok,λi u e=>(hrow i u e).same rfl rfl,hnb⟩
theorem AjO_ {n:Nat}{s:St}{v:Value}{l:List Nat}{Q:Value->St->Prop}(hbd:s.lim<=s.next)(hn:120<=n)(h:Bn s v l)(hl:Byt l)(hz:l.length<=900000)
  (q: ∀s1 w,Ext (BsF v) Non s s1->NewO s s1 w (gput l)->Q w s1):W (Ay envS (runF envS n) 64 [v]) s Q:=by
 refine EI_ λtm h0=> ?_
 have hc:Bn (s.cxN cxN) v l:=h.same rfl rfl
 refine Yh.w rfl (by omega) ?_
 simp only[TP,Aa,W_mv,Ab]
 refine Cl_.w V7 (by omega) ?_
 simp only[Si,Ac,W_on,Aa,W_mv,Ab,aA,Ag,Af,Ae,Ah,reduceCtorEq, ↓reduceIte,h0]
 refine CA_ (by omega) hc hl (by omega) λs1 m1 n1 x1=> ?_
 refine Fy_.w Ds_ (by omega) ?_
 generalize hS:CV 0 l=S
 simp only[TW,Ac,W_oS,W_on,Aa,W_mv,Ab,aA,Ag,Af,Aw,Av,Ae,Ah,reduceCtorEq, ↓reduceIte,h0]
 simp only[MA Kk_ Uo,wrap_u8,AN_ (k:= .u32) (by decide),X3 (k:= .u32) (by decide),Jz_ (k:= .u32) (by decide)]
 have hb1:s1.lim<=s1.next:=x1.bnd hbd
 refine aS hb1 (r:=u8l (le4 S)) PY (by decide) rfl (Ct (by decide)) λs2 n2 x2 r2=> ?_
 have hb2:s2.lim<=s2.next:=x2.bnd hb1
 obtain⟨b,o,c,rfl,hv⟩:=hc
 refine aS hb2 (r:=[.slice (some ⟨b,o,none⟩) l.length c, .slice (some ⟨s1.next,0,none⟩) 4 4]) Jf_ (by decide) rfl (Ct (by decide)) λs3 n3 x3 r3=> ?_
 have hb3:s3.lim<=s3.next:=x3.bnd hb2
 have hx1:Ext (BsF (.slice (some ⟨b,o,none⟩) l.length c)) Non (s.cxN cxN) s1:=x1
 have hx2:=hx1.step x2 hbd (λ_ _ h=>h.elim) λ_ h=>h.elim
 have hx3:=hx2.step x3 hbd (λ_ _ h=>h.elim) λ_ h=>h.elim
 have hBv:Bs s3 (.slice (some ⟨b,o,none⟩) l.length c) l:=(Bn.bs ⟨b,o,c,rfl,hv⟩).ext0 hx3
 have hB4:Bs s3 (.slice (some ⟨s1.next,0,none⟩) 4 4) (le4 S):=(AC.bn r2 (Ct (by simp[le4]))).ext0 x3
 have hlt:tot [((.slice (some ⟨b,o,none⟩) l.length c:Value),l),(.slice (some ⟨s1.next,0,none⟩) 4 4,le4 S)]=l.length+4:=by simp[tot,le4]
 refine Te_ (parts:=[(.slice (some ⟨b,o,none⟩) l.length c,l),(.slice (some ⟨s1.next,0,none⟩) 4 4,le4 S)]) hb3 ⟨r3.row,λp hp=> ?_⟩ (by rw[hlt];omega) (by rw[hlt];omega) (by simp) (by simp;omega) λs4 w x4 hw=> ?_
 ·rcases List.mem_cons.1 hp with rfl|hp
  ·exact hBv
  ·rcases List.mem_cons.1 hp with rfl|hp
   ·exact hB4
   ·cases hp
 have hx4:=hx3.step x4 hbd (λx hx h=>by
  have hn1:s.next<=s1.next:=x1.nxt
  have hn2:s1.next<=s2.next:=x2.nxt
  have hxl:x<s.lim:=hx
  rcases h with h|⟨p,hp,h⟩
  ·have:=h.1;omega
  ·rcases List.mem_cons.1 hp with rfl|hp
   ·exact h
   ·rcases List.mem_cons.1 hp with rfl|hp
    ·have:s1.next+0<=x:=h.1
     omega
    ·cases hp) λ_ h=>h.elim
 refine aG (rs:=[2]) (vs:=[w]) YF (.inl Cv_) (by omega) Vn Yo hx4.cx (by simp[aA]) ?_
 obtain⟨nb,C,e1,e2,e3,e4,e5⟩:=hw
 have hfl:fl [((.slice (some ⟨b,o,none⟩) l.length c:Value),l),(.slice (some ⟨s1.next,0,none⟩) 4 4,le4 S)]=gput l:=by
  unfold gput
  rw[hS]
  simp[fl]
 rw[hfl]at e1 e2 e4
 have h2:s.next<=s3.next:=hx3.nxt
 exact q _ _ hx4.cx' ⟨nb,C,e1,e2,e3,λi u e=>(e4 i u e).same rfl rfl,by omega⟩
section
variable {A:Nat}{Q:Value×FrameMode->St->Prop}{s0:St}
theorem YK_ {vp:Value}{ps:List PkI}{ACC:List Nat}(hb0:s0.lim<=s0.next)(hp:PkR s0 vp ps)(ok: ∀p∈ps,okP p.key)(hz:ACC.length<=900000)(hl:ps.length<=1000000):
  ∀(k i n:Nat) (acc:List Nat) (v:Value) (bk:Nat) (tm:T Value) (s:St) (td:List Item),i+k=ps.length->1300000*k+2000<=n->skim 64 td=Hx->WrI s0 s A v acc bk->acc++CP ((ps.drop i).map PkI.key)=ACC->
  T.get tm 5=some (.pointer (some ⟨A,0,none⟩))->T.get tm 22=some vp->T.get tm 23=some (.int .i64 (ps.length:Nat))->T.get tm 24=some (.int .i64 (i:Nat))->
  (∀(n1:Nat) (v1:Value) (bk1:Nat) (tm1:T Value) (s1:St) (td1:List Item),n-(1300000*k+10)<=n1->skim 64 td1=J3->WrI s0 s1 A v1 ACC bk1->T.get tm1 5=some (.pointer (some ⟨A,0,none⟩))->W (runF envS n1 ⟨37,O9,BO,tm1,td1, .run, .normal,none⟩) s1 Q)->
  W (runF envS n ⟨37,O9,BO,tm,td, .run, .normal,none⟩) s Q:=by
 intro k
 induction k with
 |zero=>
  intro i n acc v bk tm s td hi hn hT' h hACC g5 g22 g23 g24 q
  refine EG_.w hT' (by omega) ?_
  simp only[Vd,Ac,W_oS,Aa,Ab,Bg,g23,g24]
  refine W.cond (v:=false) HV_ X7 (by simp[aA];omega) (by omega) (λh=>by cases h) λ_=> ?_
  rw[List.drop_of_length_le (by omega)]at hACC
  have e:acc=ACC:=by rw[<-hACC];exact(List.append_nil acc).symm
  subst e
  exact q _ v bk _ s _ (by omega) LR_ h (by simp[aA,g5])
 |succ k ih=>
  intro i n acc v bk tm s td hi hn hT' h hACC g5 g22 g23 g24 q
  have hil:i<ps.length:=by omega
  have hb:=h.x.bnd hb0
  have hd:ps.drop i=ps[i]::ps.drop (i+1):=(List.getElem_cons_drop ..).symm
  rw[hd]at hACC
  obtain⟨b,o,c,ev,ga,ghi,g16,_,_⟩:=(hp.ext0 h.x).at hil
  have hm:=List.getElem_mem hil
  have ghi0:HiR s0 ps[i].v ps[i].hs:=hp.hs _ hm
  obtain⟨k1,k2,k3,k4,k5,k6⟩:=ok _ hm
  generalize ps[i]=p at *
  have hACC':acc++((numB p.num.toNat++(numB p.size.toNat++(numB p.hs.length++BT p.hs)))++CP ((ps.drop (i+1)).map PkI.key))=ACC:=hACC
  have q1:1<=p.num:=k1
  have q2:p.num<=999999:=k2
  have q3:0<=p.size:=k3
  have q4:p.size<=65536:=k4
  have q5:p.hs.length<=20000:=k5
  obtain⟨aa,ha⟩: ∃a:Nat,p.num=a:=⟨p.num.toNat,(Int.toNat_of_nonneg (by omega)).symm⟩
  obtain⟨zz,hzz⟩: ∃a:Nat,p.size=a:=⟨p.size.toNat,(Int.toNat_of_nonneg q3).symm⟩
  rw[ha,hzz,Int.toNat_natCast,Int.toNat_natCast]at hACC'
  have hlens:acc.length+((numB aa).length+((numB zz).length+((numB p.hs.length).length+(BT p.hs).length)))+(CP ((ps.drop (i+1)).map PkI.key)).length=ACC.length:=by
   rw[<-hACC']
   simp only[List.length_append]
   omega
  refine EG_.w hT' (by omega) ?_
  simp only[Vd,Ac,W_oS,Aa,Ab,Bg,g23,g24]
  refine W.cond (v:=true) HV_ X7 (by simp[aA];omega) (by omega) (λ_=> ?_) λh=>by cases h
  refine Pg_.w RB_ (by omega) ?_
  simp only[Dd_,Ac,W_oS,Aa,Ab,aA,Nat.reduceEqDiff, ↓reduceIte,g22,ev,g24,BX CZ hil]
  refine aJ C9 ga rfl λs1 m1 n1 x1=> ?_
  refine W.alloc G9 λs2 n2 x2 o2=> ?_
  have n2':s2.next=s1.next+4:=n2
  have h1:=h.ext0 hb0 x1
  have hA1:=h1.hAt
  refine W.store (b:=s1.next) (o:=0) C9 (v:= .agg (pkC p).toArray) rfl (K9 ghi) (λi hi=>AC.owned o2 i (by simpa using hi)) λs3 n3 x3 o3=> ?_
  rw[Dx]at o3
  have n3':s3.next=s2.next:=n3
  have h3:WrI s0 s3 A v acc bk:=h1.ext (s':=s3) (F:=Any) (G:=In s1.next 0 3) hb0 ((x2.weak (h1.x.bnd hb0) (λ_ _ h=>h.elim) λ_ _ h=>h.elim).trans x3 (h1.x.bnd hb0) (λ_ _ _=>trivial) λ_ _ h=>h) λy hy=>by have:=hy.1;omega
  have r3:AC s3 s1.next 0 [.int .i64 (aa:Nat), .int .i64 (zz:Nat),p.v]:=by
   have e:pkC p=[.int .i64 (aa:Nat), .int .i64 (zz:Nat),p.v]:=by unfold pkC;rw[ha,hzz]
   rw[e]at o3
   exact o3
  have keep: ∀{F:Nat->Prop} {s s':St} {v:Value} {acc:List Nat} {bk:Nat},WrI s0 s A v acc bk->((∀y,MkF 1 acc.length bk y->y<s1.next)\/s1.next+3<=bk)->AC s s1.next 0 [.int .i64 (aa:Nat), .int .i64 (zz:Nat),p.v]->Ext F (WrG A acc bk) s s'->AC s' s1.next 0 [.int .i64 (aa:Nat), .int .i64 (zz:Nat),p.v]:=λhw hB r x=>r.ext x λi hi=>by
   have hi3:i<3:=hi
   rw[Nat.zero_add]
   exact Hn_ hw hB hA1 hi3
  have hMk: ∀y,MkF 1 acc.length bk y->y<s1.next:=h1.ml.lt
  refine AcE_.w YD_ (by omega) ?_
  simp only[XN,Ac,W_oS,W_on,Aa,W_mv,aA,Ag,Af,Ae,Ah,Nat.reduceEqDiff, ↓reduceIte,g5,A8 Fr (by decide)]
  refine aD (b:=s1.next) (o:=0+0) Be (r3 0 _ rfl).at' ?_
  have x4:Ext Any Non s3 (s3.rdN (s1.next+(0+0))):=Ext.rdN (F:=Any) (G:=Non) s3 _ λ_=>trivial
  have h4:=h3.ext0 hb0 x4
  have r4:=r3.ext0 x4
  have n4:(s3.rdN (s1.next+(0+0))).next=s3.next:=rfl
  refine GS hb0 h4 (by omega) (by omega) (by omega) λu5 s5 v5 bk5 h5 hbk5 x5=> ?_
  have r5:=keep h4 (.inl hMk) r4 x5
  have n35:s3.next<=s5.next:=x5.nxt
  refine MR_.w TK_ (by omega) ?_
  simp only[Ay_,Ac,W_oS,W_on,Aa,W_mv,aA,Ag,Af,Ae,Ah,Nat.reduceEqDiff, ↓reduceIte,g5,A8 FL (by decide)]
  refine aD (b:=s1.next) (o:=0+1) Be (r5 1 _ rfl).at' ?_
  have x6:Ext Any Non s5 (s5.rdN (s1.next+(0+1))):=Ext.rdN (F:=Any) (G:=Non) s5 _ λ_=>trivial
  have h6:=h5.ext0 hb0 x6
  have r6:=r5.ext0 x6
  have n6:(s5.rdN (s1.next+(0+1))).next=s5.next:=rfl
  refine GS hb0 h6 (by omega) (by rw[List.length_append];omega) (by omega) λu7 s7 v7 bk7 h7 hbk7 x7=> ?_
  have r7:=keep h6 (.inr (by omega)) r6 x7
  have n57:s5.next<=s7.next:=x7.nxt
  refine Ub_.w AkC_ (by omega) ?_
  simp only[Gg_,Ac,W_oS,W_on,Aa,W_mv,aA,Ag,Af,Ae,Ah,Nat.reduceEqDiff, ↓reduceIte,g5,A8 Eg (by decide)]
  refine aD (b:=s1.next) (o:=0+2) Eo (r7 2 _ rfl).at' ?_
  have x8:Ext Any Non s7 (s7.rdN (s1.next+(0+2))):=Ext.rdN (F:=Any) (G:=Non) s7 _ λ_=>trivial
  have h8:=h7.ext0 hb0 x8
  have r8:=r7.ext0 x8
  have n8:(s7.rdN (s1.next+(0+2))).next=s7.next:=rfl
  rw[ghi.len]
  refine GS hb0 h8 (by omega) (by rw[List.length_append,List.length_append];omega) (by omega) λu9 s9 v9 bk9 h9 hbk9 x9=> ?_
  have r9:=keep h8 (.inr (by omega)) r8 x9
  refine Vs_.w Wk_ (by omega) ?_
  simp only[Jw_,Ac,W_oS,Aa,W_mv,Ab,aA,Ag,Af,Ae,↓reduceIte,A8 Eg (by decide)]
  refine aD (b:=s1.next) (o:=0+2) Eo (r9 2 _ rfl).at' ?_
  have h10:=h9.ext0 hb0 (Ext.rdN (F:=Any) (G:=Non) s9 (s1.next+(0+2)) λ_=>trivial)
  rw[ghi.len]
  refine Sd_ (vh:=p.v) (vp:=vp) (hs:=p.hs) (ACC:=(((acc++numB aa)++numB zz)++numB p.hs.length)++BT p.hs) (i0:=(i:Nat)) (pl:=(ps.length:Nat)) hb0 ghi0 g16 k6 (by simp only[List.length_append];omega) (by omega) p.hs.length 0 _ _ v9 bk9 _ _ _ (Nat.zero_add _) (by omega) Aej_ h10 (by rw[List.drop_zero]) (by simp[aA,g5]) (by simp[aA]) (by simp[aA]) (by simp[aA]) (by simp[aA,g22,ev]) (by simp[aA,g23]) (by simp[aA,g24]) λn11 v11 bk11 tm11 s11 td11 hn11 hT11 h11 e5 e22 e23 e24=> ?_
  refine PR_.w hT11 (by omega) ?_
  have ei:wrap64 ((i:Nat)+1:Int)=((i+1:Nat):Int):=by
   rw[Bq (by omega) (by omega)];simp
  simp only[Bz_,Ac,W_oS,Aa,W_mv,Ab,BG,e24,ei]
  refine ih (i+1) _ _ v11 bk11 _ s11 _ (by omega) (by omega) Ado_ h11 ?_ (by simp[aA,e5]) (by simp[aA,e22]) (by simp[aA,e23]) (by simp[aA]) λn1 v1 bk1 tm1 s1' td1 a1=>q n1 v1 bk1 tm1 s1' td1 (by omega)
  rw[<-hACC']
  simp only[List.append_assoc]
end
end Go.Proofs.Ytofanlcjeohcjaa.Am
end
