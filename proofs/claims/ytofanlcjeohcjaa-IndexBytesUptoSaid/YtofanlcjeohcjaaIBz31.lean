import Derived.Test.YtofanlcjeohcjaaIBz30
namespace Go.Proofs.Ytofanlcjeohcjaa.Am
open Go.RowKit
section
variable {p:PkI}{Q:Value×FrameMode->St->Prop}
theorem ZW_ {B:Nat}{s0:St}(hb0:s0.lim<=s0.next)(hr:HiR s0 p.v p.hs)(h16: ∀h∈p.hs,h.1.length=16)(hz:p.hs.length<=1000000000)(hs0:0<=p.size)(hs1:p.size<=65536)(hodd:p.hs.any oddH=false)(hcx:s0.cx=cxN)(ho:Aa s0 B 0 (pkC p))
  (q: ∀s1,Ext Any Non s0 s1->Q (.bool (AZ p.size 0 p.hs), .run) s1):
  ∀(k i n:Nat) (e:Int) (tm:T Value) (s:St) (td:List Item),i+k=p.hs.length->20*k+100<=n->skim 64 td=IS->Ext Any Non s0 s->0<=e->e<=70000->AZ p.size 0 p.hs=AZ p.size e (p.hs.drop i)->
  T.get tm 1=some (.pointer (some ⟨B,0,none⟩))->T.get tm 3=some (.int .i64 e)->T.get tm 4=some (.int .i64 (i:Nat))->
  W (runF envS n ⟨98,Pl_,CU,tm,td, .run, .normal,none⟩) s Q:=by
 have ho2: ∀s,Ext Any Non s0 s->Own s B (0+2) p.v:=λs hx=>(ho 2 _ rfl).ext hx id
 have ho1: ∀s,Ext Any Non s0 s->Own s B (0+1) (.int .i64 p.size):=λs hx=>(ho 1 _ rfl).ext hx id
 intro k
 induction k with
 |zero=>
  intro i n e tm s td hi hn hT hx he0 he1 hl h1 h3 h4
  refine WY.u ?_ hT
  simp only[Qw,RR,SS,Nat.reduceEqDiff,reduceCtorEq, ↓reduceIte,h1,h4,Af BG al]
  refine aA Bu (ho2 s hx).at' ?_
  have hx1:=hx.thenRd hb0 (B+(0+2))
  rw[(hr.ext0 hx).len]
  simp only[SS,Nat.reduceEqDiff,reduceCtorEq, ↓reduceIte,Ad,Ah,Ab,Ae,Ak,An,Al,Ag]
  refine aE Wj ?_
  refine Xd_.u ?_
  simp only[Rw_,RR,SS,Nat.reduceEqDiff,reduceCtorEq, ↓reduceIte]
  refine aB (rs:=[2]) (vs:=[.bool true]) rfl (.inl Atj_) J RO Bx_ (hx1.cx.trans hcx) Y ?_
  have:=q _ hx1
  rw[hl,List.drop_of_length_le J]at this
  exact this
 |succ k ih=>
  intro i n e tm s td hi hn hT hx he0 he1 hl h1 h3 h4
  have hil:i<p.hs.length:=J
  have h16i:=h16 _ (List.getElem_mem hil)
  have hd:p.hs.drop i=p.hs[i]::p.hs.drop (i+1):=(List.getElem_cons_drop ..).symm
  have hod:oddH p.hs[i]=false:=by
   cases ho:oddH p.hs[i]with
   |false=>rfl
   |true=>
    have:p.hs.any oddH=true:=List.any_eq_true.2 ⟨_,List.getElem_mem hil,ho⟩
    rw[hodd]at this
    cases this
  refine WY.u ?_ hT
  simp only[Qw,RR,SS,Nat.reduceEqDiff,reduceCtorEq, ↓reduceIte,h1,h4,Af BG al]
  refine aA Bu (ho2 s hx).at' ?_
  have hx1:=hx.thenRd hb0 (B+(0+2))
  rw[(hr.ext0 hx).len]
  simp only[SS,Nat.reduceEqDiff,reduceCtorEq, ↓reduceIte,Ad,Ah,Ab,Ae,Ak,An,Al,Ag]
  refine aH Wj ?_
  refine AcX_.u ?_
  simp only[AR_,RR,SS,Nat.reduceEqDiff,reduceCtorEq, ↓reduceIte,h1,h4,Af BG al]
  refine aA Bu (ho2 _ hx1).at' ?_
  have hx2:=hx1.thenRd hb0 (B+(0+2))
  obtain⟨sb,hsb⟩: ∃sb,sb=(s.rdN (B+(0+2))).rdN (B+(0+2)):=⟨_,rfl⟩
  rw[<-hsb]at hx2 ⊢
  obtain⟨b,o,c,ev,ga,_⟩:=(hr.ext0 hx2).at h16 hil
  generalize hh:p.hs[i]=h at *
  have hat:0<=h.2.1:=by
   unfold oddH at hod
   rw[Bool.or_eq_false_iff,decide_eq_false_iff_not]at hod
   omega
  obtain⟨z0,z1⟩:=Ra h.2.2
  simp only[SS,Nat.reduceEqDiff,reduceCtorEq, ↓reduceIte,ev,h1,h4,AO CV hil]
  refine aJ CH ga (BN h16i) λs1 m1 n1 x1=> ?_
  refine W.alloc GA λs2 n2 x2 o2=> ?_
  have n2':s2.next=s1.next+19:=n2
  refine W.store CH (BN h16i) (EU h) (λj hj=>Aa.owned o2 j (by simpa using hj)) λs3 n3 x3 o3=> ?_
  rw[BV]at o3
  have xs1:Ext Any Non s0 s1:=hx2.then0 x1 hb0
  have hlt0:s0.next<=s1.next:=xs1.nxt
  have xs3:Ext Any Non s0 s3:=(xs1.then0 x2 hb0).trans x3 hb0 (λ_ _ _=>trivial) λy hy h=>by
   have h1:=h.1
   omega
  have oB:=ho1 s3 xs3
  have o16:Own s3 s1.next (0+16) (.int .i64 h.2.1):=o3 16 _ (DE h16i).1
  have o17:Own s3 s1.next (0+17) (.int .i64 h.2.2):=o3 17 _ (DE h16i).2
  generalize hC:s1.next=C at *
  have keep: ∀b o u,Own s3 b o u->At (dSt s3.mem s3.next) b o u:=λb o u hu=>(hu.same (s':=dSt s3.mem s3.next) rfl rfl).at'
  have after: ∀(n':Nat) (s4:St) (bad:Bool) (tm4:T Value) (td4:List Item),n<=n'+8->skim 64 td4=Kf->Ext Any Non s0 s4->s4.mem=s3.mem->s4.next=s3.next->(bad=true->AZ p.size 0 p.hs=false)->(bad=false->AZ p.size 0 p.hs=AZ p.size (h.2.1+AV h.2.2) (p.hs.drop (i+1))/\h.2.1<=p.size)->
    T.get tm4 39=some (.bool bad)->T.get tm4 1=some (.pointer (some ⟨B,0,none⟩))->T.get tm4 5=some (.pointer (some ⟨C,0,none⟩))->T.get tm4 4=some (.int .i64 (i:Nat))->W (runF envS n' ⟨98,Pl_,CU,tm4,td4, .run, .normal,none⟩) s4 Q:=by
   intro n' s4 bad tm4 td4 hn' hT4 x4 m4 n4 hb1 hb2 g27 g1 g5 g4
   cases bad with
   |true=>
    refine aH Ib_ ?_ hT4 g27
    refine AbY_.u ?_
    simp only[VL_,RR,SS,Nat.reduceEqDiff,reduceCtorEq, ↓reduceIte]
    refine aB (rs:=[2]) (vs:=[.bool false]) rfl (.inl AwL_) J RO Bx_ (x4.cx.trans hcx) Y ?_
    have:=q s4 x4
    rw[hb1 rfl]at this
    exact this
   |false=>
    obtain⟨hl2,hle⟩:=hb2 rfl
    refine aE Ib_ ?_ hT4 g27
    refine Auw_.u ?_
    have keep4: ∀b o u,Own s3 b o u->At (dSt s4.mem s4.next) b o u:=λb o u hu=>(hu.same (s':=dSt s4.mem s4.next) m4 n4).at'
    simp only[Fm_,RR,g5,AA,BH,Bb,A7,AX,Dn]
    rw[W_dq λs Q=>Af (s:=s) EA al Q]
    refine aD Ap (keep4 _ _ _ o16) λrd1 hr1=> ?_
    rw[W_dq λs Q=>Af (s:=s) FU al Q]
    refine aD Ap (keep4 _ _ _ o17) λrd2 hr2=> ?_
    refine W.dop0 (Vu_ _ J ⟨rfl, ?_⟩)
    have hadd:wrap64 (h.2.1+AV h.2.2)=h.2.1+AV h.2.2:=AN J J
    rw[W_dq λs Q=>Ad (s:=s) _ _,hadd,AJ]
    refine⟨CX am am, ?_⟩
    refine W.cast (Auo_ ..) ?_
    try simp only[SS,Nat.reduceEqDiff,reduceCtorEq, ↓reduceIte]
    generalize hs':(⟨(dSt s4.mem s4.next).mem,(dSt s4.mem s4.next).next,s4.lim,_,_,s4.cx⟩:St)=s5
    have x5:Ext Any Non s0 s5:=by
     rw[<-hs']
     refine x4.then0 (Ext.draw (F:=Any) (Nat.le_refl _) (λ_ _=>rfl) am λ_ _ _ _ _=>trivial) hb0
    refine Wx_.u ?_
    have ei:=eiW (i:=i) J
    simp only[Uh_,RR,SS,Nat.reduceEqDiff,reduceCtorEq, ↓reduceIte,Ad,Ah,Ab,Ae,Ak,An,Al,Ag,g4,ei]
    exact ih (i+1) _ (h.2.1+AV h.2.2) _ _ _ J J Aqu_ x5 J J hl2 (an g1) Y Y
  rw[hd]at hl
  have hlb:AZ p.size e (h::p.hs.drop (i+1))=(decide (e<=h.2.1)&&decide (h.2.1<=p.size-AV h.2.2)&&AZ p.size (h.2.1+AV h.2.2) (p.hs.drop (i+1))):=rfl
  rw[hlb]at hl
  have x5: ∀{l:List OpLog},(∀m∈l,m.wr=[])->Ext Any Non s0 ⟨(dSt s3.mem s3.next).mem,(dSt s3.mem s3.next).next,s3.lim,rdsL s3.lim l s3.rd,wrsL s3.lim l s3.wr,s3.cx⟩:=λhw=>xs3.then0 (Ext.draw (F:=Any) (Nat.le_refl _) (λ_ _=>rfl) hw λ_ _ _ _ _=>trivial) hb0
  refine ArI_.u ?_
  simp only[Re_,RR,T.get_set,Nat.reduceEqDiff, ↓reduceIte,h1,h3,AA,BH,Bb,A7,AX,Dn]
  rw[W_dq λs Q=>Af (s:=s) EA al Q]
  refine aD Ap (keep _ _ _ o16) λrd1 hr1=> ?_
  simp only[Aw]
  rw[W_dq λs Q=>Ab (s:=s) _ _]
  by_cases hlt:h.2.1<e
  ·simp only[Aw,hlt,decide_true,A4,Cb,CA,if_f]
   rw[W_dq λs Q=>B9 (s:=s) _ _ _ _]
   simp only[Aw,reduceIte,A4,Cb,CA,if_f,AJ]
   refine⟨CX am am, ?_⟩
   refine W.cast (Ps ..) ?_
   try simp only[SS,Nat.reduceEqDiff,reduceCtorEq, ↓reduceIte]
   exact after _ _ true _ _ J rfl (x5 am) rfl rfl (λ_=>by rw[hl,decide_eq_false J];rfl) (λh=>by cases h) Y (an h1) Y (an h4)
  ·simp only[Aw,hlt,decide_false,A4,Cb,DU,if_t]
   rw[W_dq λs Q=>Af (s:=s) EA al Q]
   refine aD Ap (keep _ _ _ o16) λrd2 hr2=> ?_
   rw[W_dq λs Q=>Af (s:=s) DB al Q]
   refine aD Ap (keep _ _ _ oB) λrd3 hr3=> ?_
   rw[W_dq λs Q=>Ae (s:=s) _ _]
   dsimp only
   rw[W_dq λs Q=>B9 (s:=s) _ _ _ _]
   by_cases hgt:p.size<h.2.1
   ·simp only[Aw,hgt,decide_true,Bool.false_eq_true,reduceIte,A4,Cb,CA,if_f,AJ]
    refine⟨CX am am, ?_⟩
    refine W.cast (Ps ..) ?_
    try simp only[SS,Nat.reduceEqDiff,reduceCtorEq, ↓reduceIte]
    exact after _ _ true _ _ J rfl (x5 am) rfl rfl (λ_=>by rw[hl,decide_eq_false (show ¬h.2.1<=p.size-AV h.2.2 by omega)];simp) (λh=>by cases h) Y (an h1) Y (an h4)
   ·simp only[Aw,hgt,decide_false,Bool.false_eq_true,reduceIte,A4,Cb,DU,if_t]
    rw[W_dq λs Q=>Af (s:=s) EA al Q]
    refine aD Ap (keep _ _ _ o16) λrd4 hr4=> ?_
    rw[W_dq λs Q=>Af (s:=s) FU al Q]
    refine aD Ap (keep _ _ _ o17) λrd5 hr5=> ?_
    refine W.dop0 (Vu_ _ J ⟨rfl, ?_⟩)
    have hadd:wrap64 (h.2.1+AV h.2.2)=h.2.1+AV h.2.2:=AN J J
    rw[W_dq λs Q=>Ad (s:=s) _ _,hadd]
    dsimp only
    rw[W_dq λs Q=>Af (s:=s) DB al Q]
    refine aD Ap (keep _ _ _ oB) λrd6 hr6=> ?_
    rw[W_dq λs Q=>Ae (s:=s) _ _,AJ]
    refine⟨CX am am, ?_⟩
    refine W.cast (Ps ..) ?_
    try simp only[SS,Nat.reduceEqDiff,reduceCtorEq, ↓reduceIte]
    refine after _ _ (decide (p.size<h.2.1+AV h.2.2)) _ _ J rfl (x5 am) rfl rfl (λhq=> ?_) (λhq=> ?_) Y (an h1) Y (an h4)
    ·have hq':=of_decide_eq_true hq
     rw[hl,decide_eq_false (show ¬h.2.1<=p.size-AV h.2.2 by omega)]
     simp
    ·have hq':=of_decide_eq_false hq
     refine⟨?_,J⟩
     rw[hl,decide_eq_true (show e<=h.2.1 by omega),decide_eq_true (show h.2.1<=p.size-AV h.2.2 by omega)]
     rfl
theorem AfN_ {n:Nat}{s:St}{Q:Value->St->Prop}(hb:s.lim<=s.next)(hr:HiR s p.v p.hs)(h16: ∀h∈p.hs,h.1.length=16)(hz:p.hs.length<=1000000000)(hok:Bd p=true)(hn:20*p.hs.length+200<=n)(q: ∀s1,Ext Any Non s s1->Q (.bool (AZ p.size 0 p.hs)) s1):
  W (Ac envS (runF envS n) 98 [.agg (pkC p).toArray]) s Q:=by
 unfold Bd at hok
 simp only[Bool.and_eq_true,decide_eq_true_eq,Bool.not_eq_true']at hok
 obtain⟨⟨⟨⟨_,_⟩,c3⟩,c4⟩,c5⟩:=hok
 refine AsV_ λtm h0=> ?_
 refine AxI_.u ?_
 simp only[MO_,RR,SS,Nat.reduceEqDiff,reduceCtorEq, ↓reduceIte,h0]
 refine W.box λsa na xa oa=> ?_
 rw[BV]at oa
 have ya:Ext Any Non (s.cxN cxN) sa:=xa.any hb
 refine Aif_.u ?_
 simp only[V6,RR,SS,Nat.reduceEqDiff,reduceCtorEq, ↓reduceIte]
 refine Aok_.u ?_
 simp only[OJ_,RR,SS,Nat.reduceEqDiff,reduceCtorEq, ↓reduceIte]
 exact ZW_ (p:=p) (B:=s.next) (s0:=sa) (ya.bnd hb) ((hr.same (s':=s.cxN cxN) rfl rfl).ext0 ya) h16 hz c3 c4 c5 ya.cx oa (λs1 y1=>q _ (ya.then0 y1 hb).cx') p.hs.length 0 _ 0 _ _ _ J J rfl (Ext.refl _) J J (by rw[List.drop_zero]) (by simp[T.get_set];rfl) Y Y
end
section
variable {v:Value}{ps:List PkI}{Q:Value×FrameMode->St->Prop}{s0:St}
theorem AhZ_ (hb0:s0.lim<=s0.next)(hr:PkR s0 v ps)(hz:Ar ps<=1000000000)(hcx:s0.cx=cxN)(hall:ps.all Bd=true)(hps:ps.length<=1000000000)
  (q: ∀s1,Ext Any Non s0 s1->Q (.int .i64 (if BL none ps then 0 else 2), .run) s1):
  ∀(k i n:Nat) (pr:Option Int) (tm:T Value) (s:St) (td:List Item),i+k=ps.length->20*k+20*Ar ps+300<=n->skim 64 td=Ly->Ext Any Non s0 s->BL none ps=BL pr (ps.drop i)->(i=0/\pr=none\/ ∃(h:i-1<ps.length),0<i/\pr=some ps[i-1].num)->
  T.get tm 0=some v->T.get tm 4=some (.int .i64 (i:Nat))->
  W (runF envS n ⟨44,Lr,Cd,tm,td, .run, .normal,none⟩) s Q:=by
 intro k
 induction k with
 |zero=>
  intro i n pr tm s td hi hn hT hx ho hpr h0 h4
  refine Gg_.u ?_ hT
  simp only[N1,RR,SS,Nat.reduceEqDiff,reduceCtorEq, ↓reduceIte,h0,h4]
  rw[hr.len]
  simp only[SS,Nat.reduceEqDiff,reduceCtorEq, ↓reduceIte,Ad,Ah,Ab,Ae,Ak,An,Al,Ag]
  refine aE Cm_ ?_
  refine AiE_.u ?_
  simp only[Vm_,RR,SS,Nat.reduceEqDiff,reduceCtorEq, ↓reduceIte]
  refine aB (rs:=[2]) (vs:=[.int .i64 0]) rfl (.inl Ash_) J Iv Ji (hx.cx.trans hcx) Y ?_
  have:=q s hx
  rw[ho,List.drop_of_length_le J]at this
  exact this
 |succ k ih=>
  intro i n pr tm s td hi hn hT hx ho hpr h0 h4
  have hil:i<ps.length:=J
  have hb:=hx.bnd hb0
  have hrs:PkR s v ps:=hr.ext0 hx
  obtain⟨b,o,c,ev,ga,gh,g16,_,_⟩:=hrs.at hil
  have hbo:Bd ps[i]=true:=List.all_eq_true.1 hall _ (List.getElem_mem hil)
  have htl:=Ex hil
  rw[Yp hil]at ho
  refine Gg_.u ?_ hT
  simp only[N1,RR,SS,Nat.reduceEqDiff,reduceCtorEq, ↓reduceIte,h0,h4]
  rw[hr.len]
  simp only[SS,Nat.reduceEqDiff,reduceCtorEq, ↓reduceIte,Ad,Ah,Ab,Ae,Ak,An,Al,Ag]
  refine aH Cm_ ?_
  have after: ∀(n':Nat) (s4:St) (bad:Bool) (tm4:T Value) (td4:List Item),n<=n'+10->skim 64 td4=IW->Ext Any Non s0 s4->(bad=true->BL none ps=false)->(bad=false->BL none ps=BL (some ps[i].num) (ps.drop (i+1)))->
    T.get tm4 54=some (.bool bad)->T.get tm4 0=some v->T.get tm4 4=some (.int .i64 (i:Nat))->W (runF envS n' ⟨44,Lr,Cd,tm4,td4, .run, .normal,none⟩) s4 Q:=by
   intro n' s4 bad tm4 td4 hn' hT4 x4 hb1 hb2 g63 g0 g4
   cases bad with
   |true=>
    refine aH VI ?_ hT4 g63
    refine AeH_.u ?_
    simp only[X0,RR,SS,Nat.reduceEqDiff,reduceCtorEq, ↓reduceIte]
    refine aB (rs:=[2]) (vs:=[.int .i64 2]) rfl (.inl AoO_) J Iv Ji (x4.cx.trans hcx) Y ?_
    have:=q s4 x4
    rw[hb1 rfl]at this
    exact this
   |false=>
    refine aE VI ?_ hT4 g63
    refine AeT_.u ?_
    have ei:=eiW (i:=i) J
    simp only[Wd_,RR,SS,Nat.reduceEqDiff,reduceCtorEq, ↓reduceIte,Ad,Ah,Ab,Ae,Ak,An,Al,Ag,g4,ei]
    exact ih (i+1) _ (some ps[i].num) _ _ _ J J AjY_ x4 (hb2 rfl) (.inr ⟨J,J,rfl⟩) (an g0) Y
  have lies: ∀(mem:T Cell) (next:Nat) (f:Value×OpLog->M ((Rho×T Value)×List OpLog)) (Q':(Rho×T Value)×List OpLog->St->Prop),mem=s.mem->next=s.next->(∀(s1:St) (rd:List Nat),s.next<=s1.next->(∀x,x<s.next->T.get s1.mem x=T.get s.mem x)->(∀x∈rd,x<s.next)->W (f (.bool (AZ ps[i].size 0 ps[i].hs),⟨s.next,s1.next,rd,[]⟩)) (dSt s1.mem s1.next) Q')->
    W (M.bind (apartO (Ac envS (runF envS (n-1-1-1)) 98 [.agg (pkC ps[i]).toArray])) f) (dSt mem next) Q':=by
   intro mem next f Q' e1 e2 h
   subst e1;subst e2
   refine aU (AfN_ (s:=oSt s.mem s.next) (Nat.le_refl _) (gh.same rfl rfl) g16 J hbo J λs1 x1=>⟨Any,x1,λrd hrd=> ?_⟩)
   exact h s1 rd x1.nxt (λx hx=>x1.mem x hx id) λx hx=>(hrd x hx).1
  have gR:Row (dSt s.mem s.next) b (o+i*3) (pkC ps[i]):=λj u e=>(ga j u e).same rfl rfl
  have hC: ∀x,In b (o+i*3) 3 x->x<s.next:=λx hx=>by
   have h1:=hx.1
   have h2:=hx.2
   have h3:=(ga (x-(b+(o+i*3))) _ (List.getElem?_eq_getElem (show _<3 by omega))).1
   omega
  refine AvJ_.u ?_
  simp only[LR_,RR,T.get_set,Nat.reduceEqDiff, ↓reduceIte,h0,h4,AA,BH,Bb,A7,AX,Dn,Aw]
  rw[W_dq λs Q=>Ae (s:=s) _ _]
  rcases hpr with⟨hi0,hpr⟩|⟨hi1,hi0,hpr⟩
  ·have e0:decide ((0:Int)<((i:Nat):Int))=false:=decide_eq_false J
   subst hpr
   simp only[e0,Aw,A4,Cb,Dc,if_f]
   rw[W_dq λs Q=>B9 (s:=s) _ _ _ _]
   simp only[Bool.false_eq_true,reduceIte,Aw,A4,Cb,DU,if_t,ev]
   rw[W_dq λs Q=>AO (s:=s) A8 hil Q]
   try simp only[AA]
   refine aZ Ca gR rfl λmem1 rd14 em hr14=> ?_
   subst em
   try simp only[AA,BH,Bb,A7,AX,Dn]
   refine lies _ _ _ _ rfl rfl λs4 rd15 n4 m4 hr15=> ?_
   rw[W_dq λs Q=>CI (s:=s) _ _ Q,AJ]
   refine⟨G9 am (by
    simp only[List.reverse_cons,List.reverse_nil,List.nil_append,List.cons_append,List.mem_cons,List.not_mem_nil,or_false]
    rintro m (rfl|rfl|rfl|rfl|rfl|rfl|rfl|rfl|rfl|rfl|rfl|rfl|rfl|rfl|rfl|rfl|rfl|rfl|rfl|rfl|rfl|rfl|rfl)<;>refine⟨rfl,λy hy=> ?_⟩<;>first|(cases hy;done)|(exact hr15 _ hy)|(exact hC _ (hr14 _ hy))), ?_⟩
   refine W.cast (M6 ..) ?_
   try simp only[SS,Nat.reduceEqDiff,reduceCtorEq, ↓reduceIte]
   refine after _ _ (!(AZ ps[i].size 0 ps[i].hs)) _ _ J rfl (hx.then0 (Ext.draw (F:=Any) (show s.next<=s4.next from n4) (λx hx=>m4 x hx) am λ_ _ _ _ _=>trivial) hb0) (λhq=> ?_) (λhq=> ?_) Y (by simp[T.get_set,h0,ev]) (an h4)
   ·rw[ho,show AZ ps[i].size 0 ps[i].hs=false by simpa using hq]
    simp
   ·rw[ho,show AZ ps[i].size 0 ps[i].hs=true by simpa using hq]
    simp
  ·have e0:decide ((0:Int)<((i:Nat):Int))=true:=decide_eq_true J
   subst hpr
   obtain⟨b',o',c',ev',gp,_⟩:=hrs.at hi1
   rw[ev]at ev'
   cases ev'
   have gp0:At (dSt s.mem s.next) b (o+(i-1)*3+0) (.int .i64 ps[i-1].num):=(gp 0 _ rfl).same (s':=dSt s.mem s.next) rfl rfl
   have ga0:At (dSt s.mem s.next) b (o+i*3+0) (.int .i64 ps[i].num):=(ga 0 _ rfl).same (s':=dSt s.mem s.next) rfl rfl
   have esub:wrap64 (((i:Nat):Int)-1)=((i-1:Nat):Int):=by
    rw[AN J J];omega
   have gplt:b+(o+(i-1)*3+0)<s.next:=gp0.1
   have galt:b+(o+i*3+0)<s.next:=ga0.1
   simp only[e0,Aw,A4,Cb,ED,if_t,ev]
   rw[W_dq λs Q=>AO (s:=s) A8 hil Q]
   try simp only[AA]
   rw[W_dq λs Q=>Af (s:=s) Dm al Q]
   refine aD Ap ga0 λrd4 hr4=> ?_
   simp only[Aw]
   rw[W_dq λs Q=>Ah (s:=s) ((i:Nat):Int) 1,esub]
   dsimp only
   rw[W_dq λs Q=>AO (s:=s) A8 hi1 Q]
   dsimp only
   rw[W_dq λs Q=>Af (s:=s) Dm al Q]
   refine aD Ap gp0 λrd10 hr10=> ?_
   rw[W_dq λs Q=>Ak (s:=s) _ _]
   dsimp only
   rw[W_dq λs Q=>B9 (s:=s) _ _ _ _]
   by_cases hle:ps[i].num<=ps[i-1].num
   ·simp only[hle,decide_true,reduceIte,Aw,A4,Cb,CA,if_f,AJ]
    refine⟨CX am am, ?_⟩
    refine W.cast (M6 ..) ?_
    try simp only[SS,Nat.reduceEqDiff,reduceCtorEq, ↓reduceIte]
    refine after _ _ true _ _ J rfl (hx.then0 (Ext.draw (F:=Any) (Nat.le_refl _) (λ_ _=>rfl) am λ_ _ _ _ _=>trivial) hb0) (λ_=> ?_) (λh=>by cases h) Y (by simp[T.get_set,h0,ev]) (an h4)
    rw[ho]
    dsimp only
    rw[decide_eq_false (show ¬ps[i-1].num<ps[i].num by omega)]
    simp
   ·simp only[hle,decide_false,reduceIte,Aw,A4,Cb,DU,if_t]
    rw[W_dq λs Q=>AO (s:=s) A8 hil Q]
    try simp only[AA]
    refine aZ Ca gR rfl λmem1 rd14 em hr14=> ?_
    subst em
    try simp only[AA,BH,Bb,A7,AX,Dn]
    refine lies _ _ _ _ rfl rfl λs4 rd15 n4 m4 hr15=> ?_
    rw[W_dq λs Q=>CI (s:=s) _ _ Q,AJ]
    refine⟨G9 am (by
     simp only[List.reverse_cons,List.reverse_nil,List.nil_append,List.cons_append,List.mem_cons,List.not_mem_nil,or_false]
     rintro m (rfl|rfl|rfl|rfl|rfl|rfl|rfl|rfl|rfl|rfl|rfl|rfl|rfl|rfl|rfl|rfl|rfl|rfl|rfl|rfl|rfl|rfl|rfl)<;>refine⟨rfl,λy hy=> ?_⟩<;>first|(cases hy;done)|(exact hr15 _ hy)|(exact hC _ (hr14 _ hy))|(have h1:=hr4 _ hy;omega)|(have h1:=hr10 _ hy;omega)), ?_⟩
    refine W.cast (M6 ..) ?_
    try simp only[SS,Nat.reduceEqDiff,reduceCtorEq, ↓reduceIte]
    refine after _ _ (!(AZ ps[i].size 0 ps[i].hs)) _ _ J rfl (hx.then0 (Ext.draw (F:=Any) (show s.next<=s4.next from n4) (λx hx=>m4 x hx) am λ_ _ _ _ _=>trivial) hb0) (λhq=> ?_) (λhq=> ?_) Y (by simp[T.get_set,h0,ev]) (an h4)
    ·rw[ho,show AZ ps[i].size 0 ps[i].hs=false by simpa using hq]
     simp
    ·rw[ho]
     dsimp only
     rw[show AZ ps[i].size 0 ps[i].hs=true by simpa using hq,decide_eq_true (show ps[i-1].num<ps[i].num by omega)]
     simp
theorem Afv_ (hb0:s0.lim<=s0.next)(hr:PkR s0 v ps)(hz:Ar ps<=1000000000)(hcx:s0.cx=cxN)(hps:ps.length<=1000000000)
  (q: ∀s1,Ext Any Non s0 s1->Q (.int .i64 (if ps.all Bd then(if BL none ps then 0 else 2)else 5), .run) s1):
  ∀(k i n:Nat) (tm:T Value) (s:St) (td:List Item),i+k=ps.length->40*ps.length+20*k+40*Ar ps+1000<=n->skim 64 td=Kb->Ext Any Non s0 s->(ps.take i).all Bd=true->
  T.get tm 0=some v->T.get tm 3=some (.int .i64 (i:Nat))->
  W (runF envS n ⟨44,Lr,Cd,tm,td, .run, .normal,none⟩) s Q:=by
 intro k
 induction k with
 |zero=>
  intro i n tm s td hi hn hT hx ho h0 h3
  rw[show i=ps.length by omega,List.take_length]at ho
  refine VZ.u ?_ hT
  simp only[Nj,RR,SS,Nat.reduceEqDiff,reduceCtorEq, ↓reduceIte,h0,h3]
  rw[hr.len]
  simp only[SS,Nat.reduceEqDiff,reduceCtorEq, ↓reduceIte,Ad,Ah,Ab,Ae,Ak,An,Al,Ag]
  refine aE Ww ?_
  refine Acr_.u ?_
  simp only[Px_,RR,SS,Nat.reduceEqDiff,reduceCtorEq, ↓reduceIte]
  refine AhZ_ (s0:=s) (hx.bnd hb0) (hr.ext0 hx) hz (hx.cx.trans hcx) ho hps (λs1 x1=> ?_) ps.length 0 _ none _ _ _ J J rfl (Ext.refl _) (by rw[List.drop_zero]) (.inl ⟨rfl,rfl⟩) (an h0) Y
  have:=q s1 (hx.then0 x1 hb0)
  rw[ho]at this
  exact this
 |succ k ih=>
  intro i n tm s td hi hn hT hx ho h0 h3
  have hil:i<ps.length:=J
  have hb:=hx.bnd hb0
  obtain⟨b,o,c,ev,ga,gh,g16,_,_⟩:=(hr.ext0 hx).at hil
  have htl:=Ex hil
  refine VZ.u ?_ hT
  simp only[Nj,RR,SS,Nat.reduceEqDiff,reduceCtorEq, ↓reduceIte,h0,h3]
  rw[hr.len]
  simp only[SS,Nat.reduceEqDiff,reduceCtorEq, ↓reduceIte,Ad,Ah,Ab,Ae,Ak,An,Al,Ag]
  refine aH Ww ?_
  refine Axu_.u ?_
  simp only[Nc_,RR,SS,Nat.reduceEqDiff,reduceCtorEq, ↓reduceIte,h0,ev,h3,AO A8 hil]
  refine aJ Ca ga rfl λs4 m4 n4 x4=> ?_
  have xs4:=hx.then0 x4 hb0
  refine Amy_ (xs4.bnd hb0) ((hr.ext0 xs4).hs _ (List.getElem_mem hil)) g16 J J λs5 x5=> ?_
  have xs5:=xs4.then0 x5 hb0
  simp only[SS,Nat.reduceEqDiff,reduceCtorEq, ↓reduceIte,CI]
  cases hbo:Bd ps[i]with
  |false=>
   simp only[Bool.not_false]
   refine aH WH ?_
   refine AbM_.u ?_
   simp only[Cg_,RR,SS,Nat.reduceEqDiff,reduceCtorEq, ↓reduceIte]
   refine aB (rs:=[2]) (vs:=[.int .i64 5]) rfl (.inl AoU_) J Iv Ji (xs5.cx.trans hcx) Y ?_
   have hno:ps.all Bd=false:=by
    cases ha:ps.all Bd with
    |false=>rfl
    |true=>
     have:=List.all_eq_true.1 ha _ (List.getElem_mem hil)
     rw[hbo]at this
     cases this
   have:=q s5 xs5
   rw[hno]at this
   exact this
  |true=>
   simp only[Bool.not_true]
   refine aE WH ?_
   refine AcK_.u ?_
   have ei:=eiW (i:=i) J
   simp only[Tz_,RR,SS,Nat.reduceEqDiff,reduceCtorEq, ↓reduceIte,Ad,Ah,Ab,Ae,Ak,An,Al,Ag,h3,ei]
   exact ih (i+1) _ _ _ _ J J AkT_ xs5 (by rw[List.take_succ_eq_append_getElem hil,List.all_append,ho];simp[hbo]) (by simp[T.get_set,h0,ev]) Y
end
theorem Rb {n:Nat}{v:Value}{ps:List PkI}{s:St}{Q:Value->St->Prop}(hb:s.lim<=s.next)(hr:PkR s v ps)(hz:Ar ps<=1000000000)(hps:ps.length<=1000000000)(hn:200*ps.length+40*Ar ps+3000<=n)(q: ∀s1,Ext Any Non s s1->Q (.int .i64 (AY ps)) s1):
  W (Ac envS (runF envS n) 44 [v]) s Q:=by
 have hb0:(s.cxN cxN).lim<=(s.cxN cxN).next:=hb
 refine AwO_ λtm h0=> ?_
 have hr':PkR (s.cxN cxN) v ps:=hr.same rfl rfl
 refine AvK_.u ?_
 simp only[RA_,RR,SS,Nat.reduceEqDiff,reduceCtorEq, ↓reduceIte]
 have long: ∀(n':Nat) (s1:St) (tm4:T Value) (td4:List Item),20<=n'->skim 64 td4=JF->Ext Any Non (s.cxN cxN) s1->T.get tm4 12=some (.bool true)->AY ps=3->W (runF envS n' ⟨44,Lr,Cd,tm4,td4, .run, .normal,none⟩) s1 λp s1=>Q p.1 (s1.cxN s.cx):=by
  intro n' s1 tm4 td4 hn' hT4 x1 g12 hc
  refine aH Yw ?_ hT4 g12
  refine AlQ_.u ?_
  simp only[NH_,RR,SS,Nat.reduceEqDiff,reduceCtorEq, ↓reduceIte]
  refine aB (rs:=[2]) (vs:=[.int .i64 3]) rfl (.inl Ann_) J Iv Ji x1.cx Y ?_
  have:=q _ x1.cx'
  rw[hc]at this
  exact this
 refine Aho_.u ?_
 simp only[LN_,RR,SS,Nat.reduceEqDiff,reduceCtorEq, ↓reduceIte,h0]
 rw[hr'.len]
 simp only[SS,Nat.reduceEqDiff,reduceCtorEq, ↓reduceIte,Ad,Ah,Ab,Ae,Ak,An,Al,Ag]
 by_cases c1:500<ps.length
 ·have e1:decide ((500:Int)<((ps.length:Nat):Int))=true:=decide_eq_true J
  simp only[SS,e1,Nat.reduceEqDiff,reduceCtorEq, ↓reduceIte]
  exact long _ _ _ _ J rfl (Ext.refl _) Y (by unfold AY;rw[decide_eq_true c1,Bool.true_or];rfl)
 ·have e1:decide ((500:Int)<((ps.length:Nat):Int))=false:=decide_eq_false J
  simp only[SS,e1,Nat.reduceEqDiff,reduceCtorEq, ↓reduceIte,h0]
  refine Agz_ hb0 hr' hz hps J λs1 x1=> ?_
  simp only[SS,Nat.reduceEqDiff,reduceCtorEq, ↓reduceIte,Ad,Ah,Ab,Ae,Ak,An,Al,Ag]
  by_cases c2:20000<Ar ps
  ·have e2:decide ((20000:Int)<((Ar ps:Nat):Int))=true:=decide_eq_true J
   simp only[SS,e2,Nat.reduceEqDiff,reduceCtorEq, ↓reduceIte]
   exact long _ _ _ _ J rfl x1 Y (by unfold AY;rw[decide_eq_true c2,Bool.or_true];rfl)
  ·have e2:decide ((20000:Int)<((Ar ps:Nat):Int))=false:=decide_eq_false J
   simp only[SS,e2,Nat.reduceEqDiff,reduceCtorEq, ↓reduceIte]
   refine aE Yw ?_
   refine Aor_.u ?_
   simp only[As_,RR,SS,Nat.reduceEqDiff,reduceCtorEq, ↓reduceIte]
   refine Afv_ (s0:=s1) (x1.bnd hb0) (hr'.ext0 x1) hz x1.cx hps (λs2 x2=> ?_) ps.length 0 _ _ _ _ J J rfl (Ext.refl _) rfl (an h0) Y
   have:=q _ (x1.then0 x2 hb0).cx'
   unfold AY at this
   rw[decide_eq_false c1,decide_eq_false c2]at this
   exact this
theorem AnH_ (x0 x1 x2 x3 x4 x5 x6 x7 x8 x9 x10 x11 x12 x13 x14 x15:Nat):C5 envS 35 [(0, .agg #[u8 x0,u8 x1,u8 x2,u8 x3,u8 x4,u8 x5,u8 x6,u8 x7,u8 x8,u8 x9,u8 x10,u8 x11,u8 x12,u8 x13,u8 x14,u8 x15])]=some [u8 x0,u8 x1,u8 x2,u8 x3,u8 x4,u8 x5,u8 x6,u8 x7,u8 x8,u8 x9,u8 x10,u8 x11,u8 x12,u8 x13,u8 x14,u8 x15, .int .i64 0, .int .i64 0]:=X
theorem Aam_ {id:List Nat}(h:id.length=16):C5 envS 35 [(0, .agg (u8l id).toArray)]=some (u8l id++[.int .i64 0, .int .i64 0]):=
 match id,h with
 |[x0,x1,x2,x3,x4,x5,x6,x7,x8,x9,x10,x11,x12,x13,x14,x15],_=>AnH_ x0 x1 x2 x3 x4 x5 x6 x7 x8 x9 x10 x11 x12 x13 x14 x15
structure PrB (s0 s:St)(R P:Nat)(v:Value)(l:List Nat)(st:Rd)(num size:Int)(hs:List HdI)(vL:Value)(bL:Nat):Prop where
 x:Ext Any (RrG R) s0 s
 rd:RrI s R v l st
 p0:Own s P 0 (.int .i64 num)
 p1:Own s P 1 (.int .i64 size)
 p2:Own s P 2 vL
 ml:MkS s 18 hs.length (A9 hs) vL bL
 hP:s0.next<=P
 hPb:P+3<=bL
 hv: ∀x,BsF v x->x<s0.next
 hR:R+3<s0.next
 h16: ∀h∈hs,h.1.length=16
theorem PrB.rdx {s0 s s1:St}{R P:Nat}{v:Value}{l:List Nat}{st st':Rd}{num size:Int}{hs:List HdI}{vL:Value}{bL:Nat}(h:PrB s0 s R P v l st num size hs vL bL)(hb0:s0.lim<=s0.next)(x1:Ext Any (RrG R) s s1)(r1:RrI s1 R v l st'):PrB s0 s1 R P v l st' num size hs vL bL:=by
 have a:=h.hP
 have c:=h.hPb
 have d:=h.hR
 have e: ∀y,s0.next<=y-> ¬RrG R y:=λy hy hg=>by rcases hg with hg|hg|hg<;>omega
 exact⟨h.x.onG x1 hb0 λ_ _ hg=>hg,r1,h.p0.ext x1 (e _ J),h.p1.ext x1 (e _ J),h.p2.ext x1 (e _ J),h.ml.ext x1 λy hy=>e y (by have:=hy.2.1;omega),h.hP,h.hPb,h.hv,h.hR,h.h16⟩
theorem PrB.ext0 {F:Nat->Prop}{s0 s s1:St}{R P:Nat}{v:Value}{l:List Nat}{st:Rd}{num size:Int}{hs:List HdI}{vL:Value}{bL:Nat}(h:PrB s0 s R P v l st num size hs vL bL)(hb0:s0.lim<=s0.next)(x1:Ext F Non s s1):PrB s0 s1 R P v l st num size hs vL bL:=
 ⟨h.x.onG x1 hb0 λ_ _ hg=>hg.elim,h.rd.ext0 x1,h.p0.ext0 x1,h.p1.ext0 x1,h.p2.ext0 x1,h.ml.ext0 x1,h.hP,h.hPb,h.hv,h.hR,h.h16⟩
theorem PrB.new {F G:Nat->Prop}{s0 s s1:St}{R P:Nat}{v:Value}{l:List Nat}{st:Rd}{num size:Int}{hs:List HdI}{vL:Value}{bL:Nat}(h:PrB s0 s R P v l st num size hs vL bL)(hb0:s0.lim<=s0.next)(x1:Ext F G s s1)(hG: ∀y,G y->s0.next<=y/\(P+3<=y)/\ ¬MkF 18 hs.length bL y):PrB s0 s1 R P v l st num size hs vL bL:=by
 have a:=h.hP
 have c:=h.hPb
 have d:=h.hR
 refine⟨h.x.onG x1 hb0 λy hy hg=>absurd (hG y hg).1 J,h.rd.ext x1 λy hy hg=> ?_,h.p0.ext x1 λhg=> ?_,h.p1.ext x1 λhg=> ?_,h.p2.ext x1 λhg=> ?_,h.ml.ext x1 λy hy hg=>(hG y hg).2.2 hy,h.hP,h.hPb,h.hv,h.hR,h.h16⟩
 ·have h1:=(hG y hg).1
  rcases hy with hy|hy
  ·omega
  ·have:=h.hv y hy
   omega
 ·have:=(hG _ hg).2.1;omega
 ·have:=(hG _ hg).2.1;omega
 ·have:=(hG _ hg).2.1;omega
section
variable {R P:Nat}{v:Value}{l:List Nat}{Q:Value×FrameMode->St->Prop}{s0:St}{num size:Int}
theorem RrI.err {s:St}{R:Nat}{v:Value}{l:List Nat}{st:Rd}(h:RrI s R v l st): ∃e:Int,Own s R (0+2+0) (.int .i64 e)/\(e=0↔st≠none):=by
 cases st with
 |none=>obtain⟨_,e,_,_,g,_,he⟩:=h.st;exact⟨e,g,by simp[he]⟩
 |some r=>exact⟨0,h.st.2.1,am⟩
theorem WW_ {cnt nO iO:Nat}{vo:Value}{HS:List HdI}{ST:Rd}(hb0:s0.lim<=s0.next)(hz:l.length<=1000000)(hby:Byt l)(hcnt:cnt<=20000):
  ∀(k i n:Nat) (st:Rd) (hs:List HdI) (vL:Value) (bL:Nat) (tm:T Value) (s:St) (td:List Item),i+k=cnt->40*k+1000<=n->hs.length<=i->skim 64 td=I6->PrB s0 s R P v l st num size hs vL bL->
  hs++(rHs k st).1=HS->(rHs k st).2=ST->T.get tm 6=some (.pointer (some ⟨R,0,none⟩))->T.get tm 7=some vo->T.get tm 8=some (.int .i64 (nO:Nat))->T.get tm 9=some (.int .i64 (iO:Nat))->T.get tm 10=some (.pointer (some ⟨P,0,none⟩))->T.get tm 11=some (.int .i64 (cnt:Nat))->T.get tm 12=some (.int .i64 (i:Nat))->
  (∀(n1:Nat) (vL:Value) (bL:Nat) (tm1:T Value) (s1:St) (td1:List Item),n-(40*k+20)<=n1->skim 64 td1=Nw->PrB s0 s1 R P v l ST num size HS vL bL->T.get tm1 6=some (.pointer (some ⟨R,0,none⟩))->T.get tm1 7=some vo->T.get tm1 8=some (.int .i64 (nO:Nat))->T.get tm1 9=some (.int .i64 (iO:Nat))->T.get tm1 10=some (.pointer (some ⟨P,0,none⟩))->W (runF envS n1 ⟨40,GB,Bl,tm1,td1, .run, .normal,none⟩) s1 Q)->
  W (runF envS n ⟨40,GB,Bl,tm,td, .run, .normal,none⟩) s Q:=by
 intro k
 induction k with
 |zero=>
  intro i n st hs vL bL tm s td hi hn hil hT' h hHS hST g6 g7 g8 g9 g10 g11 g12 q
  have e1:hs=HS:=by rw[<-hHS];exact(List.append_nil hs).symm
  have e2:st=ST:=hST
  subst e1 e2
  have ei:decide (((i:Nat):Int)<((cnt:Nat):Int))=false:=decide_eq_false J
  refine X6.u ?_ hT'
  simp only[OE,RR,SS,Nat.reduceEqDiff,reduceCtorEq, ↓reduceIte,Ad,Ah,Ab,Ae,Ak,An,Al,Ag,g11,g12,ei]
  refine aE O3 ?_
  exact q _ vL bL _ s _ J rfl h (an g6) (an g7) (an g8) (an g9) (an g10)
 |succ k ih=>
  intro i n st hs vL bL tm s td hi hn hil hT' h hHS hST g6 g7 g8 g9 g10 g11 g12 q
  have ei0:decide (((i:Nat):Int)<((cnt:Nat):Int))=true:=decide_eq_true J
  obtain⟨e,oe,he⟩:=h.rd.err
  refine X6.u ?_ hT'
  simp only[OE,RR,SS,Nat.reduceEqDiff,reduceCtorEq, ↓reduceIte,Ad,Ah,Ab,Ae,Ak,An,Al,Ag,g6,g11,g12,ei0,Af D3 al,Af Cm al]
  refine aA (b:=R) (o:=0+2+0) CF oe.at' ?_
  have h1:=h.ext0 hb0 (Ext.rdN (F:=Any) (G:=Non) s (R+(0+2+0)) λ_=>trivial)
  obtain⟨s1,hs1⟩: ∃s1,s1=s.rdN (R+(0+2+0)):=⟨_,rfl⟩
  rw[<-hs1]at h1 ⊢
  simp only[SS,Nat.reduceEqDiff,reduceCtorEq, ↓reduceIte,Ad,Ah,Ab,Ae,Ak,An,Al,Ag]
  cases st with
  |none=>
   have he0:e≠0:=λh0=>(he.1 h0) rfl
   refine aE O3 ?_ rfl (an he0)
   have e1:hs=HS:=by rw[<-hHS];exact(List.append_nil hs).symm
   have e2:none=ST:=hST
   subst e1 e2
   exact q _ vL bL _ s1 _ J rfl h1 (an g6) (an g7) (an g8) (an g9) (an g10)
  |some r=>
   have he0:e=0:=he.2 am
   refine aH O3 ?_ rfl (an he0)
   have hHS':hs++((rH (some r)).1::(rHs k (rH (some r)).2).1)=HS:=hHS
   have hST':(rHs k (rH (some r)).2).2=ST:=hST
   have hPn:P+3<=s1.next:=by
    have:=h1.p2.1
    omega
   refine Zb_.u ?_
   simp only[Z1,RR,SS,Nat.reduceEqDiff,reduceCtorEq, ↓reduceIte,Nat.reduceEqDiff, ↓reduceIte,g6]
   refine AoS_ (h1.x.bnd hb0) h1.rd hz J λs2 x2 r2=> ?_
   have h2:=h1.rdx hb0 x2 r2
   have l16:(u8l (rID (some r)).1).length=16:=by rw[AQ,Fa]
   have n12:s1.next<=s2.next:=x2.nxt
   have hH1:s0.next<=s2.next:=h2.x.nxt
   have hMn: ∀y,MkF 18 hs.length bL y->y<s2.next:=h2.ml.lt
   simp only[SS,Nat.reduceEqDiff,reduceCtorEq, ↓reduceIte,Ci (Aam_ (Fa (some r)))]
   refine W.alloc GA λs3 n3 x3 o3=> ?_
   have n3':s3.next=s2.next+19:=n3
   have h3:=h2.ext0 hb0 x3
   have inH: ∀(o m:Nat) (y:Nat),In s2.next o m y->s0.next<=y/\P+3<=y/\ ¬MkF 18 hs.length bL y:=λo m y hy=>by
    have h1:=hy.1
    exact⟨J,J,λhm=>by have:=hMn y hm;omega⟩
   refine W.store (b:=s2.next) (o:=0) CH (v:= .agg (Av ((rID (some r)).1,0,0)).toArray) (BN (Fa _)) (EU _) (λj hj=>Aa.owned o3 j (by simpa using hj)) λs4 n4 x4 o4=> ?_
   rw[BV]at o4
   have h4:=h3.new hb0 x4 (inH _ _)
   have o4:Aa s4 s2.next 0 (u8l (rID (some r)).1++[.int .i64 0, .int .i64 0]):=o4
   have o4a:Aa s4 s2.next 0 (u8l (rID (some r)).1):=o4.app_l
   have o4b:Own s4 s2.next 16 (.int .i64 0):=by
    have:=o4 16 (.int .i64 0) (by rw[List.getElem?_append_right J,l16];rfl)
    rwa [Nat.zero_add]at this
   have o4c:Own s4 s2.next 17 (.int .i64 0):=by
    have:=o4 17 (.int .i64 0) (by rw[List.getElem?_append_right J,l16];rfl)
    rwa [Nat.zero_add]at this
   have eH: ∀y,s2.next<=y-> ¬RrG R y:=λy hy hg=>by
    have:=h.hR
    rcases hg with hg|hg|hg<;>omega
   refine AnP_.u ?_
   simp only[FN_,RR,SS,Nat.reduceEqDiff,reduceCtorEq, ↓reduceIte,Nat.reduceEqDiff, ↓reduceIte,g6]
   refine Kc (lo:=0) (hi:=2147483647) (h4.x.bnd hb0) h4.rd J hby J λs5 x5 r5=> ?_
   have h5:=h4.rdx hb0 x5 r5
   simp only[SS,Nat.reduceEqDiff,reduceCtorEq, ↓reduceIte,Nat.reduceEqDiff, ↓reduceIte,Af Jc al]
   refine aI (b:=s2.next) (o:=0+16) Ap rfl (o4b.ext x5 (eH _ J)) λs6 n6 x6 o6=> ?_
   have h6:=h5.new hb0 x6 (inH _ _)
   have o6a:Aa s6 s2.next 0 (u8l (rID (some r)).1):=λj u hu=>((o4a j u hu).ext x5 (eH _ J)).ext x6 λhg=>by
    have h1:=hg.1
    have h2:=(List.getElem?_eq_some_iff.1 hu).1
    omega
   have o6c:Own s6 s2.next 17 (.int .i64 0):=(o4c.ext x5 (eH _ J)).ext x6 λhg=>by
    have h1:=hg.2
    omega
   refine Zv_.u ?_
   simp only[Rd_,RR,SS,Nat.reduceEqDiff,reduceCtorEq, ↓reduceIte,Nat.reduceEqDiff, ↓reduceIte,g6]
   refine Kc (lo:=1) (hi:=1024) (h6.x.bnd hb0) h6.rd J hby J λs7 x7 r7=> ?_
   have h7:=h6.rdx hb0 x7 r7
   simp only[SS,Nat.reduceEqDiff,reduceCtorEq, ↓reduceIte,Nat.reduceEqDiff, ↓reduceIte,Af Ld al]
   refine aI (b:=s2.next) (o:=0+17) Ap rfl (o6c.ext x7 (eH _ J)) λs8 n8 x8 o8=> ?_
   have h8:=h7.new hb0 x8 (inH _ _)
   have o8a:Aa s8 s2.next 0 (u8l (rID (some r)).1):=λj u hu=>((o6a j u hu).ext x7 (eH _ J)).ext x8 λhg=>by
    have h1:=hg.1
    have h2:=(List.getElem?_eq_some_iff.1 hu).1
    omega
   have o8b:Own s8 s2.next 16 (.int .i64 ((rInt 0 2147483647 (rID (some r)).2).1:Nat)):=(o6.ext x7 (eH _ J)).ext x8 λhg=>by
    have h1:=hg.1
    omega
   have o8c:Own s8 s2.next 17 (.int .i64 ((rInt 1 1024 (rInt 0 2147483647 (rID (some r)).2).2).1:Nat)):=o8
   have rowH:Row s8 s2.next 0 (Av (rH (some r)).1):=λj u hu=>by
    have hu':(u8l (rID (some r)).1++[.int .i64 ((rInt 0 2147483647 (rID (some r)).2).1:Nat), .int .i64 ((rInt 1 1024 (rInt 0 2147483647 (rID (some r)).2).2).1:Nat)])[j]?=some u:=hu
    rcases Nat.lt_or_ge j 16 with hj|hj
    ·rw[List.getElem?_append_left J]at hu'
     exact(o8a j u hu').at'
    ·rw[List.getElem?_append_right J,l16]at hu'
     obtain⟨d,rfl⟩: ∃d,j=16+d:=⟨j-16,J⟩
     rw[Nat.add_sub_cancel_left]at hu'
     match d,hu' with
     |0,hu'=>cases hu';exact o8b.at'
     |1,hu'=>cases hu';exact o8c.at'
   refine AgQ_.u ?_
   simp only[BP_,RR,SS,Nat.reduceEqDiff,reduceCtorEq, ↓reduceIte,Nat.reduceEqDiff, ↓reduceIte,g10,Af BG al]
   refine aA (b:=P) (o:=0+2) Bu h8.p2.at' ?_
   have h9:=h8.ext0 hb0 (Ext.rdN (F:=Any) (G:=Non) s8 (P+(0+2)) λ_=>trivial)
   refine aJ (b:=s2.next) (o:=0) CH (λj u hu=>(rowH j u hu).same rfl rfl) (BN (EO _)) λs10 m10 n10 x10=> ?_
   have h10:=h9.ext0 hb0 x10
   refine aM (h10.x.bnd hb0) (r:=Av (rH (some r)).1) Mk al (CR_ (Fa (some r)) _ _) (A0 al) λs11 n11 x11 r11=> ?_
   have h11:=h10.ext0 hb0 x11
   rw[CD]
   refine bA (s:=s11) (h11.x.bnd hb0) PZ h11.ml (D0 (n:=1) (c:=1) (Aa.row r11) (by rw[BN (EO _)])).g al al al J (by rw[BN (EO _)]) (EU _) λs12 v12 b12 hb12 mk12 x12=> ?_
   have hn12:s11.next<=s12.next:=x12.nxt
   have hs11:s2.next<=s11.next:=Nat.le_trans x3.nxt (Nat.le_trans x4.nxt (Nat.le_trans x5.nxt (Nat.le_trans x6.nxt (Nat.le_trans x7.nxt (Nat.le_trans x8.nxt (Nat.le_trans (Nat.le_of_eq n10.symm) x11.nxt))))))
   have mkP: ∀y,MkF 18 hs.length bL y->P+3<=y/\s0.next<=y:=λy hy=>by
    have h1:=hy.2.1
    have h2:=h.hPb
    have h4:=h.hP
    exact⟨J,J⟩
   have p212:Own s12 P 2 vL:=h11.p2.ext x12 λhg=>by have:=(mkP _ hg).1;omega
   have v12one:oneCell v12=true:=by
    obtain⟨p,c,e⟩:=mk12.sl
    rw[e]
    rfl
   refine aI (b:=P) (o:=0+2) Bu v12one p212 λs13 n13 x13 o13=> ?_
   have x113:Ext Any (λy=>MkF 18 hs.length bL y\/y=P+2) s11 s13:=(x12.weak (h11.x.bnd hb0) (λ_ _ _=>trivial) λ_ _ hg=> .inl hg).trans x13 (h11.x.bnd hb0) (λ_ _ _=>trivial) λy _ hy=> .inr (by have h1:=hy.1;have h2:=hy.2;omega)
   have lens:(hs++[(rH (some r)).1]).length=hs.length+1:=am
   have heldA:A9 (hs++[(rH (some r)).1])=A9 hs++Av (rH (some r)).1:=by
    have: ∀(a:List HdI) (b:HdI),A9 (a++[b])=A9 a++Av b:=λa b=>by
     induction a with
     |nil=>show Av b++[]=[]++Av b;rw[List.append_nil,List.nil_append]
     |cons c a ih=>show Av c++A9 (a++[b])=(Av c++A9 a)++Av b;rw[ih,List.append_assoc]
    exact this _ _
   have h13:PrB s0 s13 R P v l (rH (some r)).2 num size (hs++[(rH (some r)).1]) v12 b12:=by
    have a:=h.hP
    have c:=h.hPb
    have d:=h.hR
    refine⟨h11.x.onG x113 hb0 λy hy hg=> ?_, ?_,h11.p0.ext x113 λhg=> ?_,h11.p1.ext x113 λhg=> ?_,o13, ?_,a,J,h.hv,d,λz hz=> ?_⟩
    ·rcases hg with hg|hg
     ·have:=(mkP _ hg).2
      omega
     ·omega
    ·refine h11.rd.ext x113 λy hy hg=> ?_
     have hys:y<s0.next:=by
      rcases hy with hy|hy
      ·omega
      ·exact h.hv y hy
     rcases hg with hg|hg
     ·have:=(mkP _ hg).2
      omega
     ·omega
    ·rcases hg with hg|hg
     ·have:=(mkP _ hg).1
      omega
     ·omega
    ·rcases hg with hg|hg
     ·have:=(mkP _ hg).1
      omega
     ·omega
    ·rw[lens,heldA]
     exact mk12.ext x13 λy hy hg=>by
      have h1:=hy.2.1
      have h2:=hg.2
      omega
    ·rcases List.mem_append.1 hz with hz|hz
     ·exact h.h16 z hz
     ·have:z=(rH (some r)).1:=by simpa using hz
      rw[this]
      exact EO _
   refine Yu_.u ?_
   have ei:=eiW (i:=i) J
   simp only[EI_,RR,SS,Nat.reduceEqDiff,reduceCtorEq, ↓reduceIte,Ad,Ah,Ab,Ae,Ak,An,Al,Ag,Nat.reduceEqDiff, ↓reduceIte,g12,ei]
   exact ih (i+1) _ (rH (some r)).2 _ v12 b12 _ s13 _ J J (by rw[lens];omega) AoM_ h13 (by rw[<-hHS',List.append_assoc];rfl) hST' (an g6) (an g7) (an g8) (an g9) (an g10) (an g11) Y λn1 vL1 bL1 tm1 s1 td1 a1=>q n1 vL1 bL1 tm1 s1 td1 J
end
theorem Aqs_:Lc envS 22=true:=X
theorem AgO_:EE envS 9=true:=X
