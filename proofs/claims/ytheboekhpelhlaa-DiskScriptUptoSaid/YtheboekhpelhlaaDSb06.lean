import Derived.Test.YtheboekhpelhlaaDSb05
import Derived.RowKit3
noncomputable section
namespace Go.Proofs.Ytheboekhpelhlaa.Am
open Go.RowKit
theorem KJ: ∀(l:List COp),∃F,fuse l= .mk F/\ ∀call round rho tm s,F call round rho tm s=AB call round l rho tm s
 |[]=>⟨_,rfl,λ_ _ _ _ _=>rfl⟩
 |⟨g,d,keep,f⟩::l=>by
  obtain⟨k,h1,h2⟩:=KJ l
  have key: ∀f':OpT,∃F,Sr d keep f' k= .mk F/\ ∀call round rho tm s,F call round rho tm s=M.bind (f' call round rho tm) (λv=>AB call round l (CC d v rho) (CZ d keep v tm)) s:=by
   intro f'
   cases d with
   |none=>
    refine⟨_,rfl,λcall round rho tm s=> ?_⟩
    unfold M.bind
    simp only
    cases f' call round rho tm s with
    |none=>rfl
    |some v s1=>exact h2 _ _ _ _ _
    |pan c s1=>rfl
   |some d=>
    cases keep with
    |false=>
     refine⟨_,rfl,λcall round rho tm s=> ?_⟩
     unfold M.bind
     simp only
     cases f' call round rho tm s with
     |none=>rfl
     |some v s1=>exact h2 _ _ _ _ _
     |pan c s1=>rfl
    |true=>
     refine⟨_,rfl,λcall round rho tm s=> ?_⟩
     unfold M.bind
     simp only
     cases f' call round rho tm s with
     |none=>rfl
     |some v s1=>
      obtain⟨a,b,c,e⟩:=aZ tm d v
      simp only[e,CZ]
      exact h2 _ _ _ _ _
     |pan c s1=>rfl
  have h0:fuse (⟨g,d,keep,f⟩::l)=PO ⟨g,d,keep,f⟩ k:=by
   show Cl.rec (motive:=λ_=>Cl RT) (λk=>PO ⟨g,d,keep,f⟩ k) (fuse l)=_
   rw[h1]
  rw[h0]
  cases g with
  |none=>
   obtain⟨F,q1,q2⟩:=key f
   exact⟨F,q1,λcall round rho tm s=>by rw[q2,J3];rfl⟩
  |some p=>
   obtain⟨F,q1,q2⟩:=key (λcall round r tm=>BG (some p) r (f call round r tm))
   exact⟨F,q1,λcall round rho tm s=>by rw[q2,J3]⟩
def delT (ds:List Nat)(t:T Value):T Value:=List.rec (motive:=λ_=>T Value) t (λd _ t=>aY t d) ds
theorem Sc {tm:T Value}{y:Nat}{v:Value}: ∀{ds:List Nat},T.get (delT ds tm) y=some v->y∉ds/\T.get tm y=some v
 |[],h=>⟨am,h⟩
 |d::ds,h=>by
  replace h:T.get (aY (delT ds tm) d) y=some v:=h
  rw[aW]at h
  split at h
  ·cases h
  ·rename_i hne
   obtain⟨h1,h2⟩:=Sc h
   exact⟨λhm=>(List.mem_cons.1 hm).elim hne h1,h2⟩
section
variable {E:Env}{call round:Ag}{w0 w:World}{r:Inj}{base:List Deferred×List Frame}
theorem FR.csr {P:Program}{af:AF}{cx:Ctx}{fr:Frame}{cs:List Frame}(h:FR P r af cx base fr cs):af.roundOf≠none->cs=base.2:=by
 intro hne
 have hfr:fr.roundOf≠none:=by
  have:=h.round
  intro hx
  rw[hx]at this
  cases e:af.roundOf with
  |none=>exact hne e
  |some l=>rw[e]at this;exact this.elim
 have hk:=h.rk hfr
 have hc:=h.cx
 unfold CxR at hc
 cases cx with
 |no=>exact hc.2
 |cx up d=>
  cases up with
  |none=>exact hc.1.2
  |some m=>have:=hc.1.1;rw[hk]at this;cases this
theorem FR.slots {P:Program}{af:AF}{cx:Ctx}{fr:Frame}{cs:List Frame}(h:FR P r af cx base fr cs):SlR r (λ_=>True) [] [] af.tmps fr.tmps:=
 ⟨λi d v _ e=>by simp at e,λy v _ e=>(h.tm y v e).2⟩
theorem HA_ {α:Type}{m:M α}{o:Out α}{s s':St}(h:noP m s=rOf o s'): ∃a,o= .inl a/\m s= .some a s':=by
 unfold noP at h
 cases e:m s with
 |none=>rw[e]at h;exact(Aw h).elim
 |some a s1=>rw[e]at h;obtain⟨rfl,rfl⟩:=A6 h;exact⟨a,rfl,rfl⟩
 |pan c s1=>rw[e]at h;exact(Aw h).elim
theorem Yk_ (he:EnvOK E)(c1:CallOK E call)(c2:RoundOK E round){af:AF}{fr:Frame}{cs:List Frame}{s s':St}{out:Out Step}{ops:Array Oper}{cops:List COp}{F:RT}{id:Nat}{k:List Item}
  (hc:BX E af.glob af.n ops.toList ops.toList []=some cops) (hF':fuse cops= .mk F) (h:regF call round af (dstL ops.toList) F k s=rOf out s') (hF:FR E.P r af s.cx base fr cs) (hm:af.mode= .run) (htodo:af.todo= .code (.region id ops false)::k)
  (hr:Rel w0 r s.mem w) (hb:Bnd s) (hf:AK r s.next s'.next):
  ∃w' r',Goes w0 r s s' r' w'/\s'.lim=s.lim/\Co E.P r' base s'.cx fr (lone fr cs w) w' out:=by
 obtain⟨F2,q1,q2⟩:=KJ cops
 rw[hF']at q1
 cases q1
 unfold regF at h
 rw[q2]at h
 have hstart:step E.P (lone fr cs w)= .next (lone (frm fr fr.tmps fr.defers (.inRegion ops (List.range' 0 ops.toList.length)::k)) cs w):=by
  rw[hF.frm hm,htodo]
  have:=Zg_ (P:=E.P) (b:=fr) (t:=fr.tmps) (d:=fr.defers) (k:=k) (cs:=cs) (w:=w) (ops:=ops) (id:=id)
  rw[List.range_eq_range']at this
  rw[show ops.toList.length=ops.size by simp]
  exact this
 have main: ∀{o:Out (T Value)} {s1:St},AB call round cops [] af.tmps s=rOf o s1->AK r s.next s1.next-> ∃w' r' dfs' cs',Goes w0 r s s1 r' w'/\CxR r' base s1.cx fr dfs' cs'/\s1.lim=s.lim/\
   Ic E.P r' af.glob o (lone (frm fr fr.tmps fr.defers (.inRegion ops (List.range' 0 ops.toList.length)::k)) cs w) fr fr.tmps ops.toList dfs' k cs' w':=λe hf1=>
  Ou he.ty c1 c2 ops.toList 0 [] cops [] af.tmps fr.tmps fr.defers cs w r s _ _ (λj o hj=>by rw[Nat.zero_add];rw[Array.getElem?_toList]at hj;exact hj) hc hF.slots hF.tm hF.size rfl hr hF.cx hb hf1 e
 cases e:AB call round cops [] af.tmps s with
 |none=>rw[e]at h;exact(Aw h).elim
 |some tm s1=>
  rw[e]at h
  obtain⟨rfl,rfl⟩:=A6 ((ON_ af k tm s1).symm.trans h)
  obtain⟨w',r',dfs',cs',k1,k2,k3,t',k4,k5,k6⟩:=main (o:= .inl tm) e hf
  exact⟨w',r',k1,k3,frm fr t' dfs' k,cs',rfl,⟨hF.fn,k5.trans hF.size,k4,λ_=>rfl,by rw[show({af with todo:=k,tmps:=tm}:AF).mode= .run from hm];exact .run,hF.round.mono k1.le,hF.rk,hF.known,k2⟩, .head hstart k6⟩
 |pan ch s1=>
  rw[e]at h
  cases hro:af.roundOf with
  |some l=>rw[hro]at h;exact(Aw h).elim
  |none=>
   rw[hro]at h
   obtain⟨rfl,rfl⟩:=A6 (show R.some (Step.go {af with mode:= .panicking ch,tmps:=delT (dstL ops.toList) af.tmps}) s1=rOf out s' from h)
   obtain⟨w',r',dfs',cs',k1,k2,k3,ch',t',td,k4,k5,k6,k7⟩:=main (o:= .inr ch) e hf
   refine⟨w',r',k1,k3,{frm fr t' dfs' td with mode:= .panicking ch'},cs',rfl,⟨hF.fn,k5.trans hF.size, ?_,(λe=>by cases e), .pan k4,hF.round.mono k1.le,hF.rk,hF.known,k2⟩, .head hstart k7⟩
   intro y v hy
   obtain⟨p1,p2⟩:=Sc hy
   obtain⟨p3,v',p4,p5⟩:=hF.tm y v p2
   exact⟨p3,v',by rw[show({frm fr t' dfs' td with mode:= .panicking ch'}:Frame).tmps=t' from rfl,k6 y p1];exact p4,p5.mono k1.le⟩
theorem M1 {tm0:T Value}{cops:List COp}{bef:List Nat}{s s':St}{out:Out (Rho×T Value)}(h:Hm call round tm0 cops bef s=rOf out s'):
  ∃q logs s1,D5 call round cops [] [] tm0 ⟨s.mem,s.next,0,[],[], .no⟩= .some (q,logs) s1/\BN s.next logs.reverse bef=true/\out= .inl q/\
   s'=⟨s1.mem,s1.next,s.lim,rdsL s.lim logs s.rd,wrsL s.lim logs s.wr,s.cx⟩:=by
 obtain⟨mem,next,lim,rd,wr,cx⟩:=s
 unfold Hm at h
 simp only at h
 cases e:D5 call round cops [] [] tm0 ⟨mem,next,0,[],[], .no⟩with
 |none=>rw[e]at h;exact(Aw h).elim
 |pan c s1=>rw[e]at h;exact(Aw h).elim
 |some p s1=>
  rw[e]at h
  obtain⟨q,logs⟩:=p
  obtain⟨mem1,next1,lim1,rd1,wr1,cx1⟩:=s1
  simp only at h
  cases hA:BN next logs.reverse bef with
  |false=>rw[hA]at h;exact(Aw h).elim
  |true=>
   rw[hA]at h
   obtain⟨rfl,rfl⟩:=A6 (show R.some q _=rOf out s' from h)
   exact⟨_,logs,_,rfl,hA,rfl,rfl⟩
theorem Ba_: ∀(l:List COp) (m:Nat),KO l m=l.take m
 |[],m=>by simp[KO]
 |c::l,0=>rfl
 |c::l,m+1=>by show c::KO l m=_;rw[Ba_ l m];rfl
theorem FW_: ∀(l:List COp) (m:Nat),IT l m=l.drop m
 |[],m=>by simp[IT]
 |c::l,0=>rfl
 |c::l,m+1=>by show IT l m=_;rw[FW_ l m];rfl
theorem Adp_ {ops:Array Oper}:DC ops.size (Region.before ops).toList<=ops.size/\ops.size<=DC ops.size (Region.before ops).toList+1/\
  ∀j,DC ops.size (Region.before ops).toList<=j->j<ops.size-> ∀i,i<DC ops.size (Region.before ops).toList->Bf ops j i:=by
 have key: ∀y:Bool,(y=true-> ∃b,(Region.before ops).toList[ops.size-1]?=some b/\b=2^(ops.size-1)-1)->(Bool.rec (motive:=λ_=>Nat) ops.size (Nat.pred ops.size) y)<=ops.size/\ops.size<=(Bool.rec (motive:=λ_=>Nat) ops.size (Nat.pred ops.size) y)+1/\
   ∀j,(Bool.rec (motive:=λ_=>Nat) ops.size (Nat.pred ops.size) y)<=j->j<ops.size-> ∀i,i<(Bool.rec (motive:=λ_=>Nat) ops.size (Nat.pred ops.size) y)->Bf ops j i:=by
  intro y hy
  cases y with
  |false=>exact⟨Nat.le_refl ops.size,Nat.le_succ ops.size,λj (h1:ops.size<=j) h2=>absurd h2 (Nat.not_lt.2 h1)⟩
  |true=>
   obtain⟨b,hb,hb'⟩:=hy rfl
   refine⟨Nat.pred_le ops.size, ?_,λj (h1:Nat.pred ops.size<=j) h2 i (h3:i<Nat.pred ops.size)=> ?_⟩
   ·show ops.size<=Nat.pred ops.size+1
    rw[Nat.pred_eq_sub_one];omega
   ·rw[Nat.pred_eq_sub_one]at h1 h3
    have hj:j=ops.size-1:=J
    subst hj
    refine⟨b,by rw[<-Array.getElem?_toList];exact hb, ?_⟩
    rw[hb',Nat.testBit_two_pow_sub_one]
    simpa using h3
 unfold DC
 refine key _ λh=> ?_
 split at h
 ·exact⟨_,by rw[<-Nat.pred_eq_sub_one];assumption,Nat.eq_of_beq_eq_true h⟩
 ·cases h
theorem MF {glob n:Nat}{all:List Oper}: ∀(m:Nat) (l:List Oper) (ds:List Nat) (cs:List COp),BX E glob n all l ds=some cs->BX E glob n all (l.drop m) ((l.take m).foldl (λds o=>BM o.dst ds) ds)=some (cs.drop m)
 |0,l,ds,cs,h=>h
 |m+1,[],ds,cs,h=>by cases h;rfl
 |m+1,o::l,ds,cs,h=>by
  obtain⟨g,f,r,rfl,h1,h2,h3,h4⟩:=KR h
  exact MF m l _ r h4
theorem AmX_ (he:EnvOK E)(c1:CallOK E call)(c2:RoundOK E round){af:AF}{fr:Frame}{cs:List Frame}{s s':St}{out:Out Step}{ops:Array Oper}{cops:List COp}{id m:Nat}{k:List Item}
  (hc:BX E af.glob af.n ops.toList ops.toList []=some cops) (hd:FB ops.toList (Region.before ops).toList=true) (hmn:m=DC ops.size (Region.before ops).toList) (h:JZ call round af (cops.take m) (cops.drop m) (Region.before ops).toList (dstL ops.toList) k s=rOf out s') (hF:FR E.P r af s.cx base fr cs) (hm:af.mode= .run) (htodo:af.todo= .code (.region id ops true)::k)
  (hr:Rel w0 r s.mem w) (hb:Bnd s) (hf:AK r s.next s'.next):
  ∃w' r',Goes w0 r s s' r' w'/\s'.lim=s.lim/\Co E.P r' base s'.cx fr (lone fr cs w) w' out:=by
 obtain⟨m1,m2,m3⟩:=Adp_ (ops:=ops)
 rw[<-hmn]at m1 m2 m3
 obtain⟨hlen,hcomp⟩:=Jm ops.toList [] cops hc
 have hn:cops.length=ops.size:=by rw[hlen];simp
 have hloc: ∀c∈cops,∀rho tm,Loc (BG c.guard rho (c.run call round rho tm)):=by
  intro c hcm rho tm
  obtain⟨i,hi,rfl⟩:=List.getElem_of_mem hcm
  have hio:i<ops.toList.length:=by rw[<-hlen];exact hi
  obtain⟨g,f,p1,p2,p3,p4⟩:=hcomp i ops.toList[i] (List.getElem?_eq_getElem hio)
  rw[List.getElem?_eq_getElem hi]at p1
  rw[Option.some.inj p1]
  exact(IY (ops:=ops) (i:=i) (keep:=B1 ops.toList[i].dst af.glob) he.ty (by rw[<-Array.getElem?_toList];exact List.getElem?_eq_getElem hio) p2 p4).1 call round c1 c2 rho tm
 have hlast:=MF m ops.toList [] cops hc
 have hds:(ops.toList.take m).foldl (λds o=>BM o.dst ds) []=dsAt ops.toList m:=rfl
 rw[hds]at hlast
 have hsub: ∀j o,(ops.toList.drop m)[j]?=some o->ops[m+j]?=some o:=λj o hj=>by rw[List.getElem?_drop,Array.getElem?_toList]at hj;exact hj
 have hbind: ∃q sd,Hm call round af.tmps (cops.take m) (Region.before ops).toList s=rOf (.inl q) sd/\endE call round af (cops.drop m) (dstL ops.toList) k q sd=rOf out s':=by
  rcases Cj h with⟨q,sd,e1,e2⟩|⟨ch,e1,_⟩
  ·exact⟨q,sd,e1,e2⟩
  ·obtain⟨_,_,_,_,_,q3,_⟩:=M1 (out:= .inr ch) e1
   cases q3
 obtain⟨q,sd,e1,e2⟩:=hbind
 obtain⟨q',logs,s1,e,hA,q3,q4⟩:=M1 e1
 cases q3
 obtain⟨x,t1,t2,t3,t4,t5,t6,t7⟩:=Zo (cops.take m) [] [] af.tmps _ (.inl (q,logs)) s1 (λc hc=>hloc c (List.mem_of_mem_take hc)) rfl e
 have hlm:(cops.take m).length=m:=by rw[List.length_take,hn];omega
 rw[hlm]at t6 t7
 cases t6
 have H:Pre E af.glob af.n ops call round cops x m:=by
  refine⟨λi o ho=> ?_,m1,t1,t4,hd, ?_⟩
  ·have:=hcomp i o (by rw[Array.getElem?_toList];exact ho)
   simpa using this
  ·rw[t3]
   simpa using hA
 simp only at t2 t3
 unfold endE at e2
 have hsdb:Bnd sd:=by rw[q4,t7];exact Nat.le_trans hb (by rw[<-t3];exact H.nx (Nat.zero_le _) (Nat.le_refl _))
 have hloc2:Loc (AB call round (cops.drop m) (x.Rh m) (x.Tm m)):=IA he.ty c1 c2 (ops.toList.drop m) m _ _ hlast hsub _ _
 have hstart:step E.P (lone fr cs w)= .next (lone (frm fr fr.tmps fr.defers (.inRegion ops (Region.linearise .any ops (w.tape w.drawn (.order fr.fn id)))::k)) cs w.drew):=by
  rw[hF.frm hm,htodo]
  have:=AmJ_ (P:=E.P) (b:=fr) (t:=fr.tmps) (d:=fr.defers) (k:=k) (cs:=cs) (w:=w) (ops:=ops) (id:=id)
  rw[he.mixed]at this
  have hsch:Region.schedule true ops (w.tape w.drawn (.order fr.fn id))=Region.linearise .any ops (w.tape w.drawn (.order fr.fn id)):=by simp[Region.schedule]
  rw[hsch]at this
  exact this
 have main: ∀{o:Out (T Value)} {s2:St},AB call round (cops.drop m) (x.Rh m) (x.Tm m) sd=rOf o s2->AK r s.next s2.next-> ∃w' r' dfs' cs',Goes w0 r s s2 r' w'/\CxR r' base s2.cx fr dfs' cs'/\s2.lim=s.lim/\
   Ic E.P r' af.glob o (lone fr cs w) fr fr.tmps ops.toList dfs' k cs' w':=by
  intro o s2 e3 hf2
  have hn2:sd.next<=s2.next:=(hloc2.at' sd o s2 e3 hsdb).next
  have hsdn:sd.next=x.Nx m:=by rw[q4,t7]
  obtain⟨t',w1,r1,g1,g2,g3,g5,g6,g4⟩:=H.draw_ok m2 m3 he.ty c1 c2 (w0:=w0) (w:=w.drew) (r:=r) (t:=fr.tmps) (by rw[t5];exact hF.tm) hF.size (by rw[t2];exact hr.drew)
   (by rw[t3];exact λb u v=>hf2 b u (Nat.lt_of_lt_of_le v (by rw[<-hsdn];exact hn2))) fr fr.defers cs k (w.tape w.drawn (.order fr.fn id))
  have hgo:=g1 s sd t3.symm hsdn (by rw[q4,t7])
  have hcx:CxR r1 base sd.cx fr fr.defers cs:=by rw[q4];exact hF.cx.mono hgo.le
  obtain⟨w2,r2,dfs2,cs2,k1,k2,k3,k4⟩:=Ou he.ty c1 c2 (b:=fr) (k:=k) (base:=base) (w0:=w0) (ops.toList.drop m) m (dsAt ops.toList m) (cops.drop m) (x.Rh m) (x.Tm m) t' fr.defers cs w1 r1 sd o s2 hsub hlast g5 g2 g3 (H.ds (Nat.le_refl m)).1
   hgo.rel hcx hsdb (hgo.fresh hf2) e3
  refine⟨w2,r2,dfs2,cs2,hgo.trans k1,k2,k3.trans (by rw[q4]), ?_⟩
  have hrl:(ops.toList.drop m).length=ops.size-m:=am
  rw[hrl]at k4
  have hto:Steps E.P (lone fr cs w) (lone (frm fr t' fr.defers (.inRegion ops (List.range' m (ops.size-m))::k)) cs w1):= .head hstart g4
  unfold Ic at k4 ⊢
  cases o with
  |inl tm'=>
   obtain⟨t2,z1,z2,z3⟩:=k4
   exact⟨t2,z1,by rw[z2,g3,hF.size],hto.trans z3⟩
  |inr ch=>
   obtain⟨ch',t2,td,z1,z2,z3,z4⟩:=k4
   exact⟨ch',t2,td,z1,by rw[z2,g3,hF.size],λd hd=>by rw[z3 d hd,g6 d hd],hto.trans z4⟩
 cases e3:AB call round (cops.drop m) (x.Rh m) (x.Tm m) sd with
 |none=>rw[e3]at e2;exact(Aw e2).elim
 |some tm s2=>
  rw[e3]at e2
  obtain⟨rfl,rfl⟩:=A6 ((ON_ af k tm s2).symm.trans e2)
  obtain⟨w',r',dfs',cs',k1,k2,k3,t',k4,k5,k6⟩:=main (o:= .inl tm) e3 hf
  exact⟨w',r',k1,k3,frm fr t' dfs' k,cs',rfl,⟨hF.fn,k5.trans hF.size,k4,λ_=>rfl,by rw[show({af with todo:=k,tmps:=tm}:AF).mode= .run from hm];exact .run,hF.round.mono k1.le,hF.rk,hF.known,k2⟩,k6⟩
 |pan ch s2=>
  rw[e3]at e2
  cases hro:af.roundOf with
  |some l=>rw[hro]at e2;exact(Aw e2).elim
  |none=>
   rw[hro]at e2
   obtain⟨rfl,rfl⟩:=A6 (show R.some (Step.go {af with mode:= .panicking ch,tmps:=delT (dstL ops.toList) af.tmps}) s2=rOf out s' from e2)
   obtain⟨w',r',dfs',cs',k1,k2,k3,ch',t',td,k4,k5,k6,k7⟩:=main (o:= .inr ch) e3 hf
   refine⟨w',r',k1,k3,{frm fr t' dfs' td with mode:= .panicking ch'},cs',rfl,⟨hF.fn,k5.trans hF.size, ?_,(λe=>by cases e), .pan k4,hF.round.mono k1.le,hF.rk,hF.known,k2⟩,k7⟩
   intro y v hy
   obtain⟨p1,p2⟩:=Sc hy
   obtain⟨p3,v',p4,p5⟩:=hF.tm y v p2
   exact⟨p3,v',by rw[show({frm fr t' dfs' td with mode:= .panicking ch'}:Frame).tmps=t' from rfl,k6 y p1];exact p4,p5.mono k1.le⟩
theorem Xd_ {tm0:T Value}{cops:List COp}{bef:List Nat}(hloc: ∀c∈cops,∀rho tm,Loc (BG c.guard rho (c.run call round rho tm))):Loc (Hm call round tm0 cops bef):=⟨λs o s' h hb=>by
 obtain⟨q,logs,s1,e,hA,rfl,rfl⟩:=M1 h
 obtain⟨Rd,Wr,tm',es,q1,q2,_,q4,q5⟩:=Ar_ cops [] [] tm0 _ (.inl (q,logs)) s1 hloc rfl (Nat.zero_le _) e
 cases q1
 refine⟨Rd,Wr,rdsL s.lim logs [],wrsL s.lim logs [],⟨O8 _ _ _,OD _ _ _,q2.nxt,rfl,Nat.le_trans hb q2.nxt,q2.rlt,q2.wlt,q2.old,λt e1 e2 e3 e4=> ?_⟩,λl e1 e2=> ?_,λl e1 e2=> ?_⟩
 ·obtain⟨t',p1,p2,p3,p4,p5,p6,p7,p8⟩:=q2.any ⟨t.mem,t.next,0,[],[], .no⟩ e1 rfl rfl e4
  obtain⟨tm1,tn1,tl1,tr1,tw1,tc1⟩:=t'
  simp only at p2
  refine⟨⟨tm1,tn1,t.lim,rdsL t.lim logs t.rd,wrsL t.lim logs t.wr,t.cx⟩, ?_,p2,e2,e3,by rw[e2];exact O8 _ _ _,by rw[e2];exact OD _ _ _,p7,p8⟩
  obtain⟨mem,next,lim,rd,wr,cx⟩:=t
  unfold Hm
  simp only at p1 e1 ⊢
  rw[p1]
  simp only[rOf]
  rw[e1,hA]
 ·obtain⟨g,a,b⟩:=q4 l e1 (Nat.lt_of_lt_of_le e2 hb)
  exact Jo_ e2 a b
 ·obtain⟨g,a,b⟩:=q5 l e1 (Nat.lt_of_lt_of_le e2 hb)
  exact AX_ e2 a b⟩
end
section
variable {E:Env}{call round:Ag}{w0 w:World}{r:Inj}{base:List Deferred×List Frame}
theorem Du (af:AF)(k:List Item):Loc (goTo af k):=Ah _
theorem Qg_ (af:AF)(k:List Item)(tm:T Value):Loc (goTm af k tm):=Ah _
theorem RC (af:AF)(m:FrameMode)(tm:T Value):Loc (goMo af m tm):=Ah _
end
section
variable {E:Env}{call round:Ag}{w0 w:World}{r:Inj}{base:List Deferred×List Frame}
theorem Bc (call round:Ag)(af:AF)(k:List Item)(c:Code){f:Et}(h:GT E af.glob af.n c= .mk f):codeF E call round af k c=f call round af k:=by
 obtain⟨fn,n,g,tm,todo,mo,ki,ro⟩:=af
 show Cl.rec (motive:=λ_=>M Step) (λf=>f call round (AF.mk fn n g tm todo mo ki ro) k) (GT E g n c)=_
 rw[show GT E g n c= .mk f from h]
theorem TP_ (af:AF)(a b:Code)(k:List Item)(v:Value):Loc (IR af a b k v):=by
 cases v with
 |bool t=>cases t<;>exact Du _ _
 |_=>exact Al
theorem AeM_ (l:Nat)(jump:Option Code):Loc (endR l jump):=by
 unfold endR
 refine Ae (DY _) λc=> ?_
 cases c with
 |C a b=>exact Al
 |O o=>cases o<;>first|exact Al|exact Ae (C1 _ _) λ_=>Ah _
theorem MH (af:AF)(jump:Option Code):Loc (EW af jump):=Ih _ (AS _ (RC _ _ _)) λl=>AeM_ l jump
theorem KH_ (af:AF)(jump:Code)(k:Option (List Item)):Loc (Fm af jump k):=Ih _ (MH _ _) λ_k=>Du _ _
theorem YM_ (he:EnvOK E)(c1:CallOK E call)(c2:RoundOK E round){af:AF}{ops:Array Oper}{cops:List COp}{F:RT}{ds:List Nat}{k:List Item}(hc:BX E af.glob af.n ops.toList ops.toList []=some cops)(hF':fuse cops= .mk F):Loc (regF call round af ds F k):=by
 obtain⟨F2,q1,q2⟩:=KJ cops
 rw[hF']at q1
 cases q1
 have:regF call round af ds F k=λs=>R.rec (motive:=λ_=>R Step) .none (λtm s=>goTm af k tm s) (λc s=>Option.rec (motive:=λ_=>M Step) (HN af ds c) (λ_=>aC) af.roundOf s) (AB call round cops [] af.tmps s):=by
  funext s
  unfold regF
  rw[q2]
  cases AB call round cops [] af.tmps s with
  |none=>rfl
  |some a s=>rfl
  |pan c s=>cases af.roundOf<;>rfl
 rw[this]
 refine IQ (f:=λtm=>goTm af k tm) (g:=λc=>Option.rec (motive:=λ_=>M Step) (HN af ds c) (λ_=>aC) af.roundOf) ?_ (λtm=>Qg_ _ _ _) λc=>Ih _ (RC _ _ _) λ_=>Al
 exact IA he.ty c1 c2 ops.toList 0 [] cops hc (λj o hj=>by rw[Nat.zero_add];rw[Array.getElem?_toList]at hj;exact hj) [] af.tmps
theorem AqF_ (he:EnvOK E)(c1:CallOK E call)(c2:RoundOK E round){af:AF}{ops:Array Oper}{cops:List COp}{bef ds:List Nat}{m:Nat}{k:List Item}(hc:BX E af.glob af.n ops.toList ops.toList []=some cops)
  (hloc: ∀c∈cops,∀rho tm,Loc (BG c.guard rho (c.run call round rho tm))):Loc (JZ call round af (cops.take m) (cops.drop m) bef ds k):=by
 refine Ae (Xd_ λc hcm=>hloc c (List.mem_of_mem_take hcm)) λq=> ?_
 refine IQ (f:=λtm=>goTm af k tm) (g:=λc=>Option.rec (motive:=λ_=>M Step) (HN af ds c) (λ_=>aC) af.roundOf) ?_ (λtm=>Qg_ _ _ _) λc=>Ih _ (RC _ _ _) λ_=>Al
 exact IA he.ty c1 c2 (ops.toList.drop m) m _ _ (MF m ops.toList [] cops hc) (λj o hj=>by rw[List.getElem?_drop,Array.getElem?_toList]at hj;exact hj) _ _
theorem JM_ (g n:Nat)(ops:Array Oper)(d:Bool):(∃f,It E g n ops d= .mk f/\f=λ_ _ _ _=>aC)\/ ∃cops F,BX E g n ops.toList ops.toList []=some cops/\fuse cops= .mk F/\
  ((d=false/\It E g n ops d= .mk λcall round fr k=>regF call round fr (dstL ops.toList) F k)\/(d=true/\FB ops.toList (Region.before ops).toList=true/\ ∃m,m=DC ops.size (Region.before ops).toList/\(It E g n ops d= .mk λcall round fr k=>JZ call round fr (cops.take m) (cops.drop m) (Region.before ops).toList (dstL ops.toList) k))):=by
 unfold It
 cases e:BX E g n ops.toList ops.toList []with
 |none=>exact .inl ⟨_,rfl,rfl⟩
 |some cops=>
  obtain⟨F,q1,_⟩:=KJ cops
  cases d with
  |false=>exact .inr ⟨cops,F,rfl,q1, .inl ⟨rfl,by simp only[q1]⟩⟩
  |true=>
   cases hd:FB ops.toList (Region.before ops).toList with
   |false=>exact .inl ⟨_,rfl,rfl⟩
   |true=>
    refine .inr ⟨cops,F,rfl,q1, .inr ⟨rfl,rfl,_,rfl, ?_⟩⟩
    have hn:cops.length=ops.size:=by rw[(Jm ops.toList [] cops e).1];simp
    show So cops (dstL ops.toList) (Region.before ops).toList (DC cops.length (Region.before ops).toList)=_
    unfold So
    simp only[Ba_,FW_,hn]
theorem AeA_ (he:EnvOK E)(c1:CallOK E call)(c2:RoundOK E round){g n:Nat}{ops:Array Oper}{cops:List COp}(hc:BX E g n ops.toList ops.toList []=some cops): ∀c∈cops,∀rho tm,Loc (BG c.guard rho (c.run call round rho tm)):=by
 obtain⟨hlen,hcomp⟩:=Jm ops.toList [] cops hc
 intro c hcm rho tm
 obtain⟨i,hi,rfl⟩:=List.getElem_of_mem hcm
 have hio:i<ops.toList.length:=by rw[<-hlen];exact hi
 obtain⟨g,f,p1,p2,p3,p4⟩:=hcomp i ops.toList[i] (List.getElem?_eq_getElem hio)
 rw[List.getElem?_eq_getElem hi]at p1
 rw[Option.some.inj p1]
 exact(IY (ops:=ops) (i:=i) (keep:=B1 ops.toList[i].dst _) he.ty (by rw[<-Array.getElem?_toList];exact List.getElem?_eq_getElem hio) p2 p4).1 call round c1 c2 rho tm
theorem XW_ (he:EnvOK E)(c1:CallOK E call)(c2:RoundOK E round)(af:AF)(k:List Item)(c:Code):Loc (codeF E call round af k c):=by
 cases c with
 |skip=>rw[Bc (f:=λ_ _ fr k=>goTo fr k) call round af k _ rfl];exact Du _ _
 |region id ops d=>
  rcases JM_ (E:=E) af.glob af.n ops d with⟨f,q1,rfl⟩|⟨cops,F,q1,q2,⟨rfl,q3⟩|⟨rfl,q4,m,hm0,q3⟩⟩
  ·rw[Bc call round af k (.region id ops d) q1];exact Al
  ·rw[Bc call round af k (.region id ops false) q3];exact YM_ he c1 c2 q1 q2
  ·rw[Bc call round af k (.region id ops true) q3];exact AqF_ he c1 c2 q1 (AeA_ he c1 c2 q1)
 |seq a b=>rw[Bc (f:=λ_ _ fr k=>goTo fr (.code a:: .code b::k)) call round af k _ rfl];exact Du _ _
 |cond x a b=>
  obtain⟨g,h1,_⟩:=Be [] x
  rw[Bc (f:=λ_ _ fr k=>M.on (g [] fr.tmps) (IR fr a b k)) call round af k (.cond x a b) (by unfold GT;simp only[h1])]
  exact Bj _ λv=>TP_ _ _ _ _ _
 |block id b=>rw[Bc (f:=λ_ _ fr k=>goTo fr (.code b:: .inBlock id::k)) call round af k _ rfl];exact Du _ _
 |loop b=>rw[Bc (f:=λ_ _ fr k=>goTo fr (.code b:: .inLoop b::k)) call round af k _ rfl];exact Du _ _
 |rangeFunc f ps as bd=>rw[Bc (f:=λ_ _ _ _=>aC) call round af k _ rfl];exact Al
 |exit id=>rw[Bc (f:=λ_ _ fr k=>Fm fr (.exit id) (exitTo id k)) call round af k _ rfl];exact KH_ _ _ _
 |scope b=>rw[Bc (f:=λ_ _ fr k=>goTo fr (.code b:: .inScope b::k)) call round af k _ rfl];exact Du _ _
 |label l=>rw[Bc (f:=λ_ _ fr k=>goTo fr k) call round af k _ rfl];exact Du _ _
 |goto l=>rw[Bc (f:=λ_ _ fr k=>Fm fr (.goto l) (gotoIn l k)) call round af k _ rfl];exact KH_ _ _ _
 |ret=>rw[Bc (f:=λ_ _ fr _=>EW fr (some .ret)) call round af k _ rfl];exact MH _ _
 |refuse x=>rw[Bc (f:=λ_ _ _ _=>aC) call round af k _ rfl];exact Al
theorem AmD_ (he:EnvOK E)(c1:CallOK E call)(c2:RoundOK E round){af:AF}{fr:Frame}{cs:List Frame}{s s':St}{out:Out Step}{c:Code}{k:List Item}(h:codeF E call round af k c s=rOf out s')(hF:FR E.P r af s.cx base fr cs)(hm:af.mode= .run)(htodo:af.todo= .code c::k)
  (hr:Rel w0 r s.mem w) (hb:Bnd s) (hf:AK r s.next s'.next):
  ∃w' r',Goes w0 r s s' r' w'/\s'.lim=s.lim/\Co E.P r' base s'.cx fr (lone fr cs w) w' out:=by
 cases c with
 |skip=>rw[Bc (f:=λ_ _ fr k=>goTo fr k) call round af k _ rfl]at h;exact CT h hF hm hr (by rw[htodo];exact Tl)
 |region id ops d=>
  rcases JM_ (E:=E) af.glob af.n ops d with⟨f,q1,rfl⟩|⟨cops,F,q1,q2,⟨rfl,q3⟩|⟨rfl,q4,m,hm0,q3⟩⟩
  ·rw[Bc call round af k (.region id ops d) q1]at h;exact(Aw h).elim
  ·rw[Bc call round af k (.region id ops false) q3]at h;exact Yk_ he c1 c2 q1 q2 h hF hm htodo hr hb hf
  ·rw[Bc call round af k (.region id ops true) q3]at h;exact AmX_ he c1 c2 q1 q4 hm0 h hF hm htodo hr hb hf
 |seq a b=>rw[Bc (f:=λ_ _ fr k=>goTo fr (.code a:: .code b::k)) call round af k _ rfl]at h;exact CT h hF hm hr (by rw[htodo];exact Cj_)
 |cond x a b=>
  obtain⟨g,h1,h2⟩:=Be [] x
  rw[Bc (f:=λ_ _ fr k=>M.on (g [] fr.tmps) (IR fr a b k)) call round af k (.cond x a b) (by unfold GT;simp only[h1])]at h
  obtain⟨v,e1,h⟩:=OP h
  have hv:VR r v (Act.eval ⟨fr.tmps,fr.defers⟩ x):=h2 _ _ _ _ ⟨fr.tmps,fr.defers⟩ _ hF.slots (λ_ _=>True.intro) e1
  cases v with
  |bool t=>
   have hx:Act.eval ⟨fr.tmps,fr.defers⟩ x= .bool t:=by
    generalize Act.eval ⟨fr.tmps,fr.defers⟩ x=y at hv
    cases hv;rfl
   cases t with
   |true=>exact CT (k:= .code a::k) h hF hm hr (by rw[htodo];exact Py_ hx)
   |false=>exact CT (k:= .code b::k) h hF hm hr (by rw[htodo];exact Py_ hx)
  |_=>exact(Aw h).elim
 |block id b=>rw[Bc (f:=λ_ _ fr k=>goTo fr (.code b:: .inBlock id::k)) call round af k _ rfl]at h;exact CT h hF hm hr (by rw[htodo];exact Rj_)
 |loop b=>rw[Bc (f:=λ_ _ fr k=>goTo fr (.code b:: .inLoop b::k)) call round af k _ rfl]at h;exact CT h hF hm hr (by rw[htodo];exact LG_)
 |rangeFunc f ps as bd=>rw[Bc (f:=λ_ _ _ _=>aC) call round af k _ rfl]at h;exact(Aw h).elim
 |exit id=>
  rw[Bc (f:=λ_ _ fr k=>Fm fr (.exit id) (exitTo id k)) call round af k _ rfl]at h
  exact LO_ h hF hm hr hF.csr (λk' e=>by rw[htodo];exact LN_ e) λe=> .inl ⟨id,k,htodo,e,rfl⟩
 |scope b=>rw[Bc (f:=λ_ _ fr k=>goTo fr (.code b:: .inScope b::k)) call round af k _ rfl]at h;exact CT h hF hm hr (by rw[htodo];exact Ss_)
 |label l=>rw[Bc (f:=λ_ _ fr k=>goTo fr k) call round af k _ rfl]at h;exact CT h hF hm hr (by rw[htodo];exact BY_)
 |goto l=>
  rw[Bc (f:=λ_ _ fr k=>Fm fr (.goto l) (gotoIn l k)) call round af k _ rfl]at h
  exact LO_ h hF hm hr hF.csr (λk' e=>by rw[htodo];exact AaI_ e) λe=> .inr ⟨l,k,htodo,e,rfl⟩
 |ret=>rw[Bc (f:=λ_ _ fr _=>EW fr (some .ret)) call round af k _ rfl]at h;exact PL h hF hm hr hF.csr (.inr (.inl ⟨k,htodo,rfl⟩))
 |refuse x=>rw[Bc (f:=λ_ _ _ _=>aC) call round af k _ rfl]at h;exact(Aw h).elim
theorem AiE_ (he:EnvOK E)(c1:CallOK E call)(c2:RoundOK E round)(af:AF)(k:List Item)(x:Item):Loc (OJ E call round af k x):=by
 cases x with
 |code c=>exact XW_ he c1 c2 _ _ _
 |inBlock id=>exact Du _ _
 |inLoop b=>exact Du _ _
 |inScope b=>exact Du _ _
 |_=>exact Al
theorem AqI_ (he:EnvOK E)(c1:CallOK E call)(c2:RoundOK E round){af:AF}{fr:Frame}{cs:List Frame}{s s':St}{out:Out Step}{x:Item}{k:List Item}(h:OJ E call round af k x s=rOf out s')(hF:FR E.P r af s.cx base fr cs)(hm:af.mode= .run)(htodo:af.todo=x::k)
  (hr:Rel w0 r s.mem w) (hb:Bnd s) (hf:AK r s.next s'.next):
  ∃w' r',Goes w0 r s s' r' w'/\s'.lim=s.lim/\Co E.P r' base s'.cx fr (lone fr cs w) w' out:=by
 cases x with
 |code c=>exact AmD_ he c1 c2 h hF hm htodo hr hb hf
 |inBlock id=>exact CT (k:=k) h hF hm hr (by rw[htodo];exact TW)
 |inLoop b=>exact CT (k:= .code b:: .inLoop b::k) h hF hm hr (by rw[htodo];exact SW)
 |inScope b=>exact CT (k:=k) h hF hm hr (by rw[htodo];exact Lm_)
 |_=>exact(Aw h).elim
theorem AiC_ (tm:T Value)(x:ResultVar):Loc (resV E tm x):=by
 cases x with
 |tmp t=>exact EI _
 |cell a t=>exact Bj _ λa=>Ae (Ly _) λa=>OV_ _ _ _
theorem GJ_ (tm:T Value): ∀(l:List ResultVar),Loc (resL E tm l)
 |[]=>Ah _
 |x::l=>Ae (AiC_ tm x) λ_v=>Ae (GJ_ tm l) λ_l=>Ah _
def resM (t:Array Value)(x:ResultVar):Sem Value:=
 match x with
 | .tmp i=>pure (t.getD i undef)
 | .cell a ty=>do loadVar ty (<-asAddr (t.getD a undef))
theorem ApH_ (fn:Func)(t:Array Value):results fn t=(do let vs <-fn.results.mapM (resM t);pure (if h:vs.size=1 then vs[0]else .tuple vs)):=rfl
theorem Uv_ (he:EnvTy E){g:Nat}{tm:T Value}{t:Array Value}{x:ResultVar}{s s':St}{v:Value}(h:resV E tm x s= .some v s')(hT:TmR r g tm t)(hr:Rel w0 r s.mem w):
  ∃v',((resM t x).run E.P w= .ok v' w)/\VR r v v'/\Same s s':=by
 cases x with
 |tmp i=>
  obtain⟨h1,rfl⟩:=DR h
  obtain⟨_,v',k1,k2⟩:=hT i v h1
  exact⟨v',by simp[resM,Array.getD_eq_getD_getElem?,k1],k2, .refl _⟩
 |cell a ty=>
  obtain⟨av,h1,h⟩:=Bw h
  obtain⟨ad,s1,h2,h3⟩:=bind_some h
  obtain⟨rfl,rfl⟩:=Kk h2
  obtain⟨_,v',k1,k2⟩:=hT a _ h1
  obtain⟨ad',rfl,k3⟩:=k2.ptr_inv
  obtain⟨v',k4,k5,k6⟩:=BG_ he h3 hr k3
  refine⟨v', ?_,k5,k6⟩
  simp only[resM,Array.getD_eq_getD_getElem?,k1,Option.getD_some,Sem.run_bind,asAddr,Sem.run_pure,Result.andThen_ok,k4]
theorem KR_ (he:EnvTy E){g:Nat}{tm:T Value}{t:Array Value}(hT:TmR r g tm t): ∀(l:List ResultVar) {s s':St} {vs:List Value},resL E tm l s= .some vs s'->Rel w0 r s.mem w->
  ∃vs',(l.mapM (resM t)).run E.P w= .ok vs' w/\VRs r vs vs'/\Same s s'
 |[],s,s',vs,h,hr=>by
  obtain⟨rfl,rfl⟩:=Af h
  exact⟨[],am, .nil, .refl _⟩
 |x::l,s,s',vs,h,hr=>by
  obtain⟨v,s1,h1,h⟩:=bind_some h
  obtain⟨ws,s2,h2,h⟩:=bind_some h
  obtain⟨rfl,rfl⟩:=Af h
  obtain⟨v',k1,k2,k3⟩:=Uv_ he h1 hT hr
  obtain⟨ws',k4,k5,k6⟩:=KR_ he hT l h2 (by rw[k3.1];exact hr)
  refine⟨v'::ws', ?_, .cons k2 k5,k3.trans k6⟩
  rw[List.mapM_cons]
  simp only[Sem.run_bind,k1,Result.andThen_ok,k4,Sem.run_pure]
theorem AlI_ (he:EnvTy E){g:Nat}{tm:T Value}{t:Array Value}{fn:Func}{s s':St}{v:Value}(h:PU_ E fn tm s= .some v s')(hT:TmR r g tm t)(hr:Rel w0 r s.mem w): ∃v',(results fn t).run E.P w= .ok v' w/\VR r v v'/\Same s s':=by
 obtain⟨vs,s1,h1,h⟩:=bind_some h
 obtain⟨rfl,rfl⟩:=Af h
 obtain⟨vs',k1,k2,k3⟩:=KR_ he hT _ h1 hr
 have hm:(fn.results.mapM (resM t)).run E.P w= .ok vs'.toArray w:=by
  rw[Array.mapM_eq_mapM_toList,map_eq_pure_bind]
  simp only[Sem.run_bind,k1,Result.andThen_ok,Sem.run_pure]
 refine⟨tupV vs', ?_, ?_,k3⟩
 ·rw[ApH_]
  simp only[Sem.run_bind,hm,Result.andThen_ok,Sem.run_pure]
  congr 1
  unfold tupV
  cases vs' with
  |nil=>rfl
  |cons a l=>cases l<;>simp
 ·cases vs with
  |nil=>rw[k2.inv_nil];exact VRs.tuple .nil
  |cons a l=>
   obtain⟨a',l',rfl,q1,q2⟩:=k2.inv
   cases l with
   |nil=>rw[q2.inv_nil];exact q1
   |cons b m=>
    obtain⟨b',m',rfl,q3,q4⟩:=q2.inv
    exact VRs.tuple (.cons q1 (.cons q3 q4))
end
structure DeferOK (E:Env)(dcall:GN):Prop where
 loc: ∀f args m,Loc (dcall f args m)
 ok: ∀{w0 w:World} {r:Inj} {f:Nat} {args args':List Value} {m m':FrameMode} {s:St} {out:Out (Option (List PanicEntry)×FrameMode)} {s':St},dcall f args m s=rOf out s'->Rel w0 r s.mem w->Bnd s->AK r s.next s'.next->VRs r args args'->MoR r m m'->
  (∀w,(callFunc f args'.toArray).run E.P w= .ok (.enter f args'.toArray) w)/\
  ∀c cs,c.mode=m'-> ∃w' r' p m2,out= .inl p/\Goes w0 r s s' r' w'/\s'.lim=s.lim/\s'.cx=s.cx/\MoR r' p.2 m2/\
   (match p.1 with
    |none=> ∃v',Steps E.P (lone (Frame.enter E.P f args'.toArray .deferred) (c::cs) w) (lone (Jf .deferred {c with mode:=m2} v') cs w')
    |some ch=> ∃ch',ChR r' ch ch'/\Steps E.P (lone (Frame.enter E.P f args'.toArray .deferred) (c::cs) w) (lone (({c with mode:=m2}:Frame).raise ch') cs w'))
theorem DfsR.inv_nil {r:Inj}{l:List Deferred}(h:DfsR r [] l):l=[]:=by cases h;rfl
section
variable {E:Env}{call round:Ag}{dcall:GN}{w0 w:World}{r:Inj}{base:List Deferred×List Frame}
theorem AiG_ (af:AF)(up:Option FrameMode):Loc (outF E af up):=by
 unfold outF
 cases af.mode with
 |run=>exact Al
 |returning=>exact Bj _ λfn=>Ae (Ae (GJ_ _ _) λl=>Ah _) λv=>Ah _
 |panicking c=>exact PK _
theorem Gz_ (tm:T Value): ∀(l:List ResultVar),NoPan (resL E tm l)
 |[]=>Aq _
 |x::l=>by
  refine Ak ?_ λv=>Ak (Gz_ tm l) λl=>Aq _
  cases x with
  |tmp t=>exact EO _
  |cell a t=>exact Bq _ λa=>Ak (LK _) λa=>RN_ _ _ _
theorem Aai_ (c3:DeferOK E dcall)(af:AF)(d:Deferred):Loc (runD dcall af d):=by
 unfold runD
 split
 ·refine Ae (DY _) λc=> ?_
  split
  ·exact Ae (C1 _ _) λ_=>Ah _
  ·exact Al
 ·exact Al
theorem Adj_ (c3:DeferOK E dcall)(af:AF):Loc (EE E dcall af):=by
 unfold EE
 refine Ae Nd_ λcx=> ?_
 cases cx with
 |no=>exact Al
 |cx up d=>
  cases d with
  |none=>exact Al
  |some d=>
   cases d with
   |nil=>exact AiG_ _ _
   |cons d ds=>exact IF_ (Ae (ZA_ _) λ_=>Aai_ c3 _ _)
theorem Gq_ (af:AF)(hm:af.mode= .run):Fg E call round dcall af=noP (KP E call round {af with todo:=skim 64 af.todo} (skim 64 af.todo)):=by
 obtain⟨fn,n,g,tm,todo,mo,ki,ro⟩:=af
 simp only at hm
 subst hm
 rfl
theorem ND_ (af:AF)(hm:af.mode≠ .run):Fg E call round dcall af=EE E dcall af:=by
 obtain⟨fn,n,g,tm,todo,mo,ki,ro⟩:=af
 simp only at hm
 cases mo with
 |run=>exact absurd rfl hm
 |returning=>rfl
 |panicking c=>rfl
theorem Rp_ (he:EnvOK E)(c1:CallOK E call)(c2:RoundOK E round)(c3:DeferOK E dcall)(af:AF):Loc (Fg E call round dcall af):=by
 by_cases hm:af.mode= .run
 ·rw[Gq_ af hm]
  refine IF_ ?_
  generalize skim 64 af.todo=l
  cases l with
  |nil=>exact MH _ _
  |cons x k=>exact AiE_ he c1 c2 _ _ _
 ·rw[ND_ af hm];exact Adj_ c3 _
theorem Ahx_ (he:EnvOK E)(c3:DeferOK E dcall){af:AF}{fr:Frame}{cs:List Frame}{s s':St}{out:Out Step}(h:EE E dcall af s=rOf out s')(hF:FR E.P r af s.cx base fr cs)(hm:af.mode≠ .run)(hr:Rel w0 r s.mem w)(hb:Bnd s)(hf:AK r s.next s'.next):
  ∃w' r',Goes w0 r s s' r' w'/\s'.lim=s.lim/\Co E.P r' base s'.cx fr (lone fr cs w) w' out:=by
 unfold EE at h
 rw[AhH_]at h
 have hmode:fr.mode≠ .run:=by
  have:=hF.mode
  intro hx
  rw[hx]at this
  generalize af.mode=m at this hm
  cases this
  exact hm rfl
 have hunw: ∀{w:World} {dd:List Deferred},stepG E.P true {frame:={fr with defers:=dd},callers:=cs,status:= .running,dying:=none} w=unwind E.P true {fr with defers:=dd} cs none w:=by
  intro w dd
  have:({fr with defers:=dd}:Frame).mode=fr.mode:=rfl
  cases hx:fr.mode with
  |run=>exact absurd hx hmode
  |returning=>simp[stepG]
  |panicking c=>simp[stepG]
 have hfr:fr={fr with defers:=fr.defers}:=rfl
 have hc:=hF.cx
 cases hcx:s.cx with
 |no=>rw[hcx]at h;exact(Aw h).elim
 |cx up d=>
  rw[hcx]at hc h
  cases d with
  |none=>exact(Aw h).elim
  |some d=>
   obtain⟨q1,q2,q3⟩:=hc
   obtain⟨fn0,hfn0⟩:=hF.known q2
   cases d with
   |nil=>
    have hd0:=q3.inv_nil
    have hends: ∀{s1:St} {o:Out (Value×FrameMode)},s1.cx=s.cx->(∀v u,o= .inl (v,u)->u=up.getD .run)->((fr.kind= .normal/\cs=base.2)\/ ∃u c0 rest m',s1.cx= .cx (some u) (some [])/\fr.kind= .deferred/\base.2=c0::rest/\cs={c0 with mode:=m'}::rest/\MoR r u m'/\ ∀v up,o= .inl (v,up)->up=u):=by
     intro s1 o e1 e2
     cases up with
     |none=>exact .inl q1
     |some m=>
      obtain⟨p1,c0,rest,m',p2,p3,p4⟩:=q1
      exact .inr ⟨m,c0,rest,m',by rw[e1,hcx],p1,p2,p3,p4,λv u e=>e2 v u e⟩
    replace h:outF E af up s=rOf out s':=h
    unfold outF at h
    have hMo:=hF.mode
    cases hmo:af.mode with
    |run=>exact absurd hmo hm
    |returning=>
     rw[hmo]at h hMo
     obtain⟨fn,e1,h⟩:=OP h
     rcases Cj h with⟨v,s1,e2,e3⟩|⟨c,e2,_⟩
     ·obtain⟨rfl,rfl⟩:=A6 (show R.some (Step.fin v (up.getD .run)) s1=rOf out s' from e3)
      obtain⟨v',k1,k2,k3⟩:=AlI_ he.ty e2 hF.tm hr
      have hfmode:fr.mode= .returning:=by cases hx:fr.mode<;>rw[hx]at hMo<;>cases hMo
      have hfuncs:E.P.funcs[fr.fn]?=some fn:=by rw[hF.fn];exact(he.fn _ _ e1).1
      refine⟨w,r, .same k3 hr,k3.2.2.1,cs,hends k3.2.2.2 (λv u e=>by cases e;rfl),v',k2,λc rest hcs=> .one (step_lone_go ?_),λ_ hk=>⟨fr,rfl,⟨hfmode,hd0,hk,fn,hfuncs,k1⟩, .refl _ _⟩⟩
      subst hcs
      have hkind:fr.kind= .normal\/fr.kind= .deferred:=by
       cases up with
       |none=>exact .inl q1.1
       |some m=>exact .inr q1.1
      have h0:=hunw (w:=w) (dd:=fr.defers)
      rw[<-hfr]at h0
      rw[h0]
      rcases hkind with hk|hk
      ·simp only[unwind,hd0,hfmode,hfuncs,Sem.runT_eq,k1,GStep.bare_after,doReturn,hk,Jf]
       rfl
      ·simp only[unwind,hd0,hfmode,hfuncs,Sem.runT_eq,k1,GStep.bare_after,doReturn,hk,Jf]
       rfl
     ·exact((Ak (Gz_ _ _) λl=>Aq _).no _ _ _ e2).elim
    |panicking c=>
     rw[hmo]at h hMo
     obtain⟨rfl,rfl⟩:=IH (show R.pan c s=rOf out s' from h)
     generalize hfm:fr.mode=fm at hMo
     cases hMo with
     | @pan _ c' hch=>
      refine⟨w,r, .of_rel rfl hr,rfl,cs,hends rfl (λv u e=>by cases e),c',hch,λc1 rest hcs=> .one (step_lone_go ?_)⟩
      subst hcs
      have h0:=hunw (w:=w) (dd:=fr.defers)
      rw[<-hfr]at h0
      rw[h0]
      have hcat: ∀g:Frame,g.fn=fr.fn->g.catches E.P=false:=by intro g hg;unfold Frame.catches;rw[hg,hfn0]
      simp only[unwind,hd0,hfm]
      rw[if_neg (by have:=hcat ⟨fr.fn,fr.tmps,fr.todo,[], .panicking c',fr.kind,fr.roundOf⟩ rfl;rw[this];simp)]
      rfl
   |cons d ds=>
    replace h:noP (M.bind (JT (.cx up (some ds))) λ_=>runD dcall af d) s=rOf out s':=h
    obtain⟨p,hout,h'⟩:=HA_ h
    clear h
    subst hout
    have h:=h'
    clear h'
    rw[Ur_]at h
    generalize hdd:fr.defers=dd at q3
    cases q3 with
    | @cons _ d' _ ds' k1 k2=>
     have hc':CxR r base (.cx up (some ds)) fr ds' cs:=⟨q1,q2,k2⟩
     have h0:=hunw (w:=w) (dd:=d'::ds')
     have hfr':({fr with defers:=d'::ds'}:Frame)=fr:=by rw[<-hdd]
     rw[hfr']at h0
     have hF2: ∀{r':Inj} {m:FrameMode} {m3:FrameMode} {cx:Ctx},r.le r'->m≠ .run->MoR r' m m3->cx= .cx up (some ds)->FR E.P r' {af with mode:=m} cx base {fr with defers:=ds',mode:=m3} cs:=by
      intro r' m m3 cx hle hne hmo hcx
      refine⟨hF.fn,hF.size,hF.tm.mono hle,λe=>absurd e hne,hmo,hF.round.mono hle,hF.rk,hF.known, ?_⟩
      rw[hcx]
      exact hc'.mono hle
     cases k1 with
     | @coll bb bb' o hbb=>
      replace h:M.bind (rdC bb) (λc=>(match c with| .O (.deferred (some []))=>M.bind (wrC bb (.O (.deferred none))) λ_=>M.pure (Step.go af)|_=>aC)) ⟨s.mem,s.next,s.lim,s.rd,s.wr, .cx up (some ds)⟩= .some p s':=h
      obtain⟨c,s1,e1,e2⟩:=bind_some h
      obtain⟨z1,z2⟩:=DW e1
      have fin:c= .O (.deferred (some [])):=by
       cases c with
       |C a b=>cases e2
       |O o=>
        cases o with
        |deferred l=>
         cases l with
         |none=>cases e2
         |some l=>cases l with
          |nil=>rfl
          |cons=>cases e2
        |_=>cases e2
      subst fin
      obtain⟨u,s2,e3,e4⟩:=bind_some e2
      obtain⟨rfl,rfl⟩:=Af e4
      obtain⟨b2,d2,o',y1,y2,y3⟩:=hr.obj _ _ z1 rfl
      rw[hbb]at y1
      cases y1
      have ho':o'= .deferred (some []):=by
       unfold OR at y3
       cases o' with
       |deferred l=>
        cases l with
        |none=>exact y3.elim
        |some l=>cases l with
         |nil=>rfl
         |cons=>exact y3.elim
       |_=>exact y3.elim
      subst ho'
      obtain⟨x1,x2,x3⟩:=Lk (o2':= .deferred none) e3 (by rw[z2.1];exact hr) (by rw[z2.1];exact z1) rfl hbb (by simp[OR]) rfl
      have hgo:Goes w0 r s s2 r (World.setO w bb' (.deferred none)):=⟨x1.le,by rw[<-show(⟨s.mem,s.next,s.lim,s.rd,s.wr, .cx up (some ds)⟩:St).next=s.next from rfl,<-z2.2.1];exact x1.nxt,λb hb=>by
       have:=x1.domB b hb;rw[z2.2.1]at this;exact this,λb hb=>by have:=x1.domE b hb;rw[z2.2.1]at this;exact this,x1.rel⟩
      refine⟨_,r,hgo,x2.trans z2.2.2.1,{fr with defers:=ds',mode:=fr.mode},cs,rfl,hF2 (m:=af.mode) (Inj.le_refl r) hm hF.mode (x3.trans z2.2.2.2), .one (step_lone_go ?_)⟩
      rw[h0]
      have hrun:(Instr.takeDeferred bb').run E.P w= .ok [] (World.setO w bb' (.deferred none)):=by
       simp[Instr.takeDeferred,getObj,setObj,Sem.run,y2,World.setO]
      simp only[unwind,hdd,Sem.runT_eq,hrun,GStep.bare_after]
      rfl
     | @fn f f' cc cc' aa aa' j1 j2 j3=>cases f<;>cases h
end
section
variable {E:Env}{call round:Ag}{dcall:GN}{w0 w:World}{r:Inj}{base:List Deferred×List Frame}
theorem FinE.head {P:Program}{cx':Ctx}{fr fr0:Frame}(hk:Kin fr0 fr){m m1:Machine}{w':World}{out:Out (Value×FrameMode)}(hs:Steps P m m1)(h:FinE P r base cx' fr m1 w' out):FinE P r base cx' fr0 m w' out:=by
 obtain⟨cs',h1,h2⟩:=h
 unfold Kin at hk
 simp only[Prod.mk.injEq]at hk
 obtain⟨e1,e2,e3⟩:=hk
 rw[e1]at h1
 refine⟨cs',h1, ?_⟩
 cases out with
 |inl p=>
  obtain⟨v',q1,q2,q3⟩:=h2
  rw[e1,e2,e3]at *
  exact⟨v',q1,λc rest e=>hs.trans (q2 c rest e),λa b=>let ⟨fr',x,y,z⟩:=q3 a b;⟨fr',x,y,hs.trans z⟩⟩
 |inr ch=>obtain⟨ch',q1,q2⟩:=h2;exact⟨ch',q1,λc rest e=>hs.trans (q2 c rest e)⟩
theorem Co.head {P:Program}{cx':Ctx}{fr fr0:Frame}(hk:Kin fr0 fr){m m1:Machine}{w':World}{out:Out Step}(hs:Steps P m m1)(h:Co P r base cx' fr m1 w' out):Co P r base cx' fr0 m w' out:=by
 cases out with
 |inr ch=>exact FinE.head hk hs h
 |inl p=>
  cases p with
  |fin v up=>exact FinE.head hk hs h
  |go af'=>
   obtain⟨fr',cs',q1,q2,q3⟩:=h
   exact⟨fr',cs',q1.trans hk,q2,hs.trans q3⟩
theorem De_ (he:EnvOK E)(c1:CallOK E call)(c2:RoundOK E round)(c3:DeferOK E dcall){af:AF}{fr:Frame}{cs:List Frame}{s s':St}{out:Out Step}(h:Fg E call round dcall af s=rOf out s')(hF:FR E.P r af s.cx base fr cs)
  (hr:Rel w0 r s.mem w) (hb:Bnd s) (hf:AK r s.next s'.next):
  ∃w' r',Goes w0 r s s' r' w'/\s'.lim=s.lim/\Co E.P r' base s'.cx fr (lone fr cs w) w' out:=by
 by_cases hm:af.mode= .run
 ·rw[Gq_ af hm]at h
  obtain⟨p,hout,h'⟩:=HA_ h
  clear h
  subst hout
  have h:=h'
  clear h'
  have hsk:=Dt (P:=E.P) (b:=fr) (t:=fr.tmps) (d:=fr.defers) (cs:=cs) (w:=w) 64 af.todo
  rw[<-hF.frm hm]at hsk
  have hF':=hF.to (skim 64 af.todo)
  rw[<-hm]at hF'
  have fin: ∃w' r',Goes w0 r s s' r' w'/\s'.lim=s.lim/\Co E.P r' base s'.cx (frm fr fr.tmps fr.defers (skim 64 af.todo)) (lone (frm fr fr.tmps fr.defers (skim 64 af.todo)) cs w) w' (.inl p):=by
   cases ht:skim 64 af.todo with
   |nil=>rw[ht]at h hF';exact PL (out:= .inl p) h hF' hm hr hF'.csr (.inl ⟨rfl,rfl⟩)
   |cons x k=>rw[ht]at h hF';exact AqI_ (out:= .inl p) he c1 c2 h hF' hm rfl hr hb hf
  obtain⟨w',r',k1,k2,k3⟩:=fin
  exact⟨w',r',k1,k2,k3.head rfl hsk⟩
 ·rw[ND_ af hm]at h
  exact Ahx_ he c3 h hF hm hr hb hf
structure RunOK (E:Env)(run:AF->M (Value×FrameMode)):Prop where
 loc: ∀af,Loc (run af)
 ok: ∀{w0 w:World} {r:Inj} {base:List Deferred×List Frame} {af:AF} {fr:Frame} {cs:List Frame} {s:St} {out:Out (Value×FrameMode)} {s':St},run af s=rOf out s'->FR E.P r af s.cx base fr cs->Rel w0 r s.mem w->Bnd s->AK r s.next s'.next->
  ∃w' r',Goes w0 r s s' r' w'/\s'.lim=s.lim/\FinE E.P r' base s'.cx fr (lone fr cs w) w' out
theorem AZ_ {g:Nat}{y:Nat}{v:Value}: ∀{l:List Value} {i:Nat} {t:T Value},T.get (Ee g l i t) y=some v->(∃j,y=i+j/\l[j]?=some v/\Nat.testBit g y=true)\/T.get t y=some v
 |[],_,_,h=> .inr h
 |a::l,i,t,h=>by
  replace h:T.get (Ee g l (Nat.succ i) (putG g i a t)) y=some v:=h
  rcases AZ_ h with⟨j,h1,h2,h3⟩|h
  ·exact .inl ⟨j+1,J,by simpa using h2,h3⟩
  ·unfold putG at h
   cases hb:Nat.testBit g i with
   |false=>rw[hb]at h;exact .inr h
   |true=>
    rw[hb]at h
    simp only[T.get_set]at h
    split at h
    ·rename_i hy
     cases h
     exact .inl ⟨0,hy,rfl,by rw[hy];exact hb⟩
    ·exact .inr h
theorem YW {f:Nat}{args:List Value}{kind:CallKind}{s s':St}{af:AF}(h:B2 E f args kind s= .some af s'):s=s'/\ ∃fn c,E.fn.get f=some fn/\fn.body=some c/\args.length<=fn.ntmps/\
  af={fn:=f,n:=fn.ntmps,glob:=Ao fn,tmps:=Ee (Ao fn) args 0 .E,todo:=[.code c],mode:= .run,kind,roundOf:=none}:=by
 unfold B2 at h
 obtain⟨fn,h1,h⟩:=Bw h
 obtain⟨c,h2,h⟩:=Bw h
 obtain⟨h3,h⟩:=AV h
 rw[Ar,Ar]at h
 obtain⟨rfl,rfl⟩:=Af h
 exact⟨rfl,fn,c,h1,h2,Nat.le_of_ble_eq_true h3,rfl⟩
theorem Gl_ (f:Nat)(args:List Value)(kind:CallKind):Loc (B2 E f args kind):=Bj _ λ_fn=>Bj _ λ_c=>AS _ (Dv _ λ_n=>Dv _ λ_g=>Ah _)
theorem IG (f:Nat)(args:List Value)(kind:CallKind):NoPan (B2 E f args kind):=Bq _ λ_fn=>Bq _ λ_c=>A4 _ (Dg _ λ_n=>Dg _ λ_g=>Aq _)
theorem LC (he:EnvOK E){f:Nat}{args args':List Value}{kind:CallKind}{s s':St}{af:AF}(h:B2 E f args kind s= .some af s')(ha:VRs r args args'){cx:Ctx}{cs:List Frame}(hcx:CxR r base cx (Frame.enter E.P f args'.toArray kind) [] cs):
  (∀w,(callFunc f args'.toArray).run E.P w= .ok (.enter f args'.toArray) w)/\FR E.P r af cx base (Frame.enter E.P f args'.toArray kind) cs/\s=s':=by
 obtain⟨rfl,fn,c,h1,h2,h3,rfl⟩:=YW h
 obtain⟨k1,k2⟩:=he.fn f fn h1
 refine⟨λw=> ?_,⟨rfl, ?_, ?_,λ_=> ?_, .run,True.intro,λe=>absurd rfl e,λ_=>⟨fn,k1⟩,hcx⟩,rfl⟩
 ·unfold callFunc
  simp[Sem.run,program,k1,k2,h2]
 ·simp only[Frame.enter,k1,Option.map_some,Option.getD_some,Array.size_append,List.size_toArray,Array.size_replicate]
  have:=ha.1
  omega
 ·intro y v e
  rcases AZ_ e with⟨j,e1,e2,e3⟩|e
  ·obtain⟨v',q1,q2⟩:=ha.get e2
   refine⟨e3,v', ?_,q2⟩
   rw[Nat.zero_add]at e1
   subst e1
   simp only[Frame.enter]
   rw[Array.getElem?_append_left (by simpa using(List.getElem?_eq_some_iff.1 q1).1)]
   simpa using q1
  ·cases e
 ·simp[Frame.enter,k1,h2]
theorem Fp_ {α:Type}(c:Ctx)(m:M α)(s:St):within c m s=match m ⟨s.mem,s.next,s.lim,s.rd,s.wr,c⟩with
  | .none=> .none
  | .some a s1=> .some a ⟨s1.mem,s1.next,s1.lim,s1.rd,s1.wr,s.cx⟩
  | .pan p s1=> .pan p ⟨s1.mem,s1.next,s1.lim,s1.rd,s1.wr,s.cx⟩:=by
 obtain⟨mem,next,lim,rd,wr,cx⟩:=s
 unfold within
 simp only
 cases m ⟨mem,next,lim,rd,wr,c⟩<;>rfl
theorem GR {α:Type}{c:Ctx}{m:M α}{s s':St}{o:Out α}(h:within c m s=rOf o s'): ∃s1,m ⟨s.mem,s.next,s.lim,s.rd,s.wr,c⟩=rOf o s1/\s'=⟨s1.mem,s1.next,s1.lim,s1.rd,s1.wr,s.cx⟩:=by
 rw[Fp_]at h
 cases e:m ⟨s.mem,s.next,s.lim,s.rd,s.wr,c⟩with
 |none=>rw[e]at h;exact(Aw h).elim
 |some a s1=>rw[e]at h;obtain⟨rfl,rfl⟩:=A6 h;exact⟨s1,rfl,rfl⟩
 |pan p s1=>rw[e]at h;obtain⟨rfl,rfl⟩:=IH h;exact⟨s1,rfl,rfl⟩
theorem WO {α:Type}(c:Ctx){m:M α}(h:Loc m):Loc (within c m):=⟨λs o s' e hb=>by
 obtain⟨s1,e1,rfl⟩:=GR e
 obtain⟨Rd,Wr,dr,dw,g,i1,i2⟩:=h.at' _ o s1 e1 hb
 refine⟨Rd,Wr,dr,dw,⟨g.rd,g.wr,g.nxt,g.lim,g.bnd,g.rlt,g.wlt,g.old,λt e1 e2 e3 e4=> ?_⟩,i1,i2⟩
 obtain⟨t',q1,q2,q3,q4,q5,q6,q7,q8⟩:=g.any ⟨t.mem,t.next,t.lim,t.rd,t.wr,c⟩ e1 e2 rfl e4
 refine⟨⟨t'.mem,t'.next,t'.lim,t'.rd,t'.wr,t.cx⟩, ?_,q2,q3,e3,q5,q6,q7,q8⟩
 rw[Fp_,q1]
 cases o<;>rfl⟩
theorem KL {run:AF->M (Value×FrameMode)}{m:M AF}(hm:NoPan m){s s':St}{out:Out Value}(h:M.bind (M.bind m run) fstV s=rOf out s'):
  ∃af s1 o,m s= .some af s1/\run af s1=rOf o s'/\out=(match o with| .inl p=> .inl p.1| .inr c=> .inr c):=by
 rcases Cj h with⟨p,s2,e1,e2⟩|⟨c,e1,rfl⟩
 ·obtain⟨af,s1,e3,e4⟩:=bind_some e1
  obtain⟨rfl,rfl⟩:=A6 (show R.some p.1 s2=rOf out s' from e2)
  exact⟨af,s1, .inl p,e3,e4,rfl⟩
 ·rcases Pp e1 with e3|⟨af,s1,e3,e4⟩
  ·exact(hm.no _ _ _ e3).elim
  ·exact⟨af,s1, .inr c,e3,e4,rfl⟩
theorem ApU_ (he:EnvOK E){run:AF->M (Value×FrameMode)}(hrun:RunOK E run):CallOK E (Ac E run) where
 loc:=λf args=>by
  unfold Ac
  cases ho:E.orc.get f with
  |some m=>exact he.orcLoc f m ho args
  |none=>
   cases hx:E.ext.get f with
   |some m=>exact he.extLoc f m hx args
   |none=>exact WO _ (Ae (Ae (Gl_ _ _ _) hrun.loc) λp=>Ah _)
 ok:=by
  intro w0 w r f args args' s out s' h hr hb hf ha
  unfold Ac at h
  cases ho:E.orc.get f with
  |some m=>rw[ho]at h;exact .inl (he.orc ho h hr hb hf ha)
  |none=>
   rw[ho]at h
   cases hx:E.ext.get f with
   |some m=>rw[hx]at h;exact .inr ⟨(λe=>by cases e),he.ext hx h hr ha⟩
   |none=>
   rw[hx]at h
   refine .inl ?_
   obtain⟨s2,e1,rfl⟩:=GR (show within cxN (M.bind (M.bind (B2 E f args .normal) run) fstV) s=rOf out s' from h)
   obtain⟨af,s1,o,e2,e3,rfl⟩:=KL (IG _ _ _) e1
   have hen:=λ(c:Frame) (cs:List Frame)=>LC (base:=([],c::cs)) (cx:=cxN) he e2 ha (cs:=c::cs) ⟨⟨rfl,rfl⟩,rfl, .nil⟩
   refine⟨(hen default []).1,λc cs=> ?_⟩
   obtain⟨_,hF,rfl⟩:=hen c cs
   obtain⟨w',r',k1,k2,cs',k3,k4⟩:=hrun.ok e3 hF hr hb hf
   have hcs:cs'=c::cs:=by
    rcases k3 with k3|⟨_,_,_,_,_,k,_⟩
    ·exact k3.2
    ·cases k
   refine⟨w',r',⟨k1.le,k1.nxt,k1.domB,k1.domE,k1.rel⟩,k2,rfl, ?_⟩
   cases o with
   |inl p=>
    obtain⟨v',q1,q2,q3⟩:=k4
    exact⟨v',q1,q2 c cs hcs⟩
   |inr ch=>
    obtain⟨ch',q1,q2⟩:=k4
    exact⟨ch',q1,q2 c cs hcs⟩
theorem AjX_ {run:AF->M (Value×FrameMode)}:RoundOK E (B3 run) where
 loc:=λ_ _=>Al
 ok:=λh=>(Aw h).elim
theorem Aqu_ (he:EnvOK E){run:AF->M (Value×FrameMode)}(hrun:RunOK E run):DeferOK E (GP E run) where
 loc:=λf args m=>WO _ (by
  refine IQ (m:=M.bind (B2 E f args .deferred) run) (f:=λp=>M.pure (none,p.2)) (g:=λc=>M.bind Lf λcx=>M.pure (some c,upOf cx)) (Ae (Gl_ _ _ _) hrun.loc) (λp=>Ah _) λc=>Ae Nd_ λcx=>Ah _)
 ok:=by
  intro w0 w r f args args' m m' s out s' h hr hb hf ha hm
  obtain⟨s2,e1,rfl⟩:=GR h
  have e1':R.rec (motive:=λ_=>R (Option (List PanicEntry)×FrameMode)) .none (λp s=> .some (none,p.2) s) (λc s=> .some (some c,upOf s.cx) s) (M.bind (B2 E f args .deferred) run ⟨s.mem,s.next,s.lim,s.rd,s.wr, .cx (some m) (some [])⟩)=rOf out s2:=e1
  have main: ∃af s1 o,B2 E f args .deferred ⟨s.mem,s.next,s.lim,s.rd,s.wr, .cx (some m) (some [])⟩= .some af s1/\run af s1=rOf o s2/\out= .inl (match o with| .inl p=>(none,p.2)| .inr c=>(some c,upOf s2.cx)):=by
   cases e2:M.bind (B2 E f args .deferred) run ⟨s.mem,s.next,s.lim,s.rd,s.wr, .cx (some m) (some [])⟩with
   |none=>rw[e2]at e1';exact(Aw e1').elim
   |some p s3=>
    rw[e2]at e1'
    obtain⟨rfl,rfl⟩:=A6 (show R.some (none,p.2) s3=rOf out s2 from e1')
    obtain⟨af,s1,e3,e4⟩:=bind_some e2
    exact⟨af,s1, .inl p,e3,e4,rfl⟩
   |pan c s3=>
    rw[e2]at e1'
    obtain⟨rfl,rfl⟩:=A6 (show R.some (some c,upOf s3.cx) s3=rOf out s2 from e1')
    rcases Pp e2 with e3|⟨af,s1,e3,e4⟩
    ·exact((IG _ _ _).no _ _ _ e3).elim
    ·exact⟨af,s1, .inr c,e3,e4,rfl⟩
  obtain⟨af,s1,o,e2,e3,rfl⟩:=main
  have hen:=λ(c:Frame) (cs:List Frame) (hc:c.mode=m')=>LC (base:=([],c::cs)) (cx:= .cx (some m) (some [])) he e2 ha (cs:=c::cs) ⟨⟨rfl,c,cs,m',rfl,by rw[<-hc],hm⟩,rfl, .nil⟩
  refine⟨(hen {(default:Frame)with mode:=m'} [] rfl).1,λc cs hc=> ?_⟩
  obtain⟨_,hF,rfl⟩:=hen c cs hc
  obtain⟨w',r',k1,k2,cs',k3,k4⟩:=hrun.ok e3 hF hr hb hf
  rcases k3 with⟨k3,_⟩|⟨u,c0,rest,m2,k5,k6,k7,k8,k9,k10⟩
  ·cases k3
  ·cases k7
   refine⟨w',r',_,m2,rfl,⟨k1.le,k1.nxt,k1.domB,k1.domE,k1.rel⟩,k2,rfl, ?_, ?_⟩
   ·cases o with
    |inl p=>rw[show p.2=u from k10 p.1 p.2 rfl];exact k9
    |inr ch=>rw[show upOf s2.cx=u by rw[k5];rfl];exact k9
   ·cases o with
    |inl p=>
     obtain⟨v',q1,q2,q3⟩:=k4
     exact⟨v',q2 _ _ k8⟩
    |inr ch=>
     obtain⟨ch',q1,q2⟩:=k4
     exact⟨ch',q1,q2 _ _ k8⟩
theorem On (he:EnvOK E): ∀fuel,RunOK E (runF E fuel)
 |0=>⟨λ_=>Al,λh=>(Aw h).elim⟩
 |fuel+1=>by
  have ih:=On he fuel
  have c1:=ApU_ he ih
  have c2:=AjX_ (E:=E) (run:=runF E fuel)
  have c3:=Aqu_ he ih
  have h0: ∀af,runF E (fuel+1) af=M.bind (Fg E (Ac E (runF E fuel)) (B3 (runF E fuel)) (GP E (runF E fuel)) af) (Hi (runF E fuel)):=λ_=>rfl
  have lR: ∀p,Loc (Hi (runF E fuel) p):=λp=>by
   cases p with
   |go af=>exact ih.loc af
   |fin v u=>exact Ah _
  refine⟨λaf=>by rw[h0];exact Ae (Rp_ he c1 c2 c3 af) lR, ?_⟩
  intro w0 w r base af fr cs s out s' h hF hr hb hf
  rw[h0]at h
  rcases Cj h with⟨p,s1,e1,e2⟩|⟨c,e1,rfl⟩
  ·have L1:=(Rp_ he c1 c2 c3 af).at' s (.inl p) s1 e1 hb
   have L2:=(lR p).at' s1 out s' e2 L1.bnd
   obtain⟨w1,r1,k1,k2,k3⟩:=De_ (out:= .inl p) he c1 c2 c3 e1 hF hr hb (λb x y=>hf b x (Nat.lt_of_lt_of_le y L2.next))
   cases p with
   |go af'=>
    obtain⟨fr',cs',k4,k5,k6⟩:=k3
    obtain⟨w2,r2,q1,q2,q3⟩:=ih.ok (show runF E fuel af' s1=rOf out s' from e2) k5 k1.rel L1.bnd (k1.fresh hf)
    exact⟨w2,r2,k1.trans q1,q2.trans k2,q3.head k4 k6⟩
   |fin v u=>
    obtain⟨rfl,rfl⟩:=A6 (show R.some (v,u) s1=rOf out s' from e2)
    exact⟨w1,r1,k1,k2,k3⟩
  ·obtain⟨w1,r1,k1,k2,k3⟩:=De_ (out:= .inr c) he c1 c2 c3 e1 hF hr hb hf
   exact⟨w1,r1,k1,k2,k3⟩
end
theorem Rel.empty (w:World){K:Know}(hK:K.sure w):Rel w (.nil K) .E w:=
 ⟨.refl _ _,(λb b' d e=>by cases e),(λl b v e=>by cases e),(λl1 l2 b1 v1 b2 v2 b' d1 d2 e=>by cases e),(λl o e=>by cases e),(λl1 l2 o1 o2 b' d1 d2 e=>by cases e),(λt sz e=>by cases e),(λt1 t2 s1 s2 k1 k2 e=>by cases e),hK,(λl n e=>by cases e),⟨(λl b v e=>by cases e),(λl b v b' d e=>by cases e),(λl o b' d e=>by cases e),(λl n b' d e=>by cases e)⟩⟩
def st0:St:=⟨.E,0,0,[],[], .no⟩
theorem AiY_ {E:Env}(he:EnvOK E){fuel f:Nat}{v:Value}{s':St}(ho:E.orc.get f=none)(hx:E.ext.get f=none)(h:JU E fuel f [] st0= .some v s')(hp:plain v=true)(w:World):Calls E.P f #[] w λe w'=>e= .returned v/\Below w.heap.size w w':=by
 intro cs
 replace h:Ac E (runF E fuel) f [] st0= .some v s':=h
 unfold Ac at h
 rw[ho,hx]at h
 obtain⟨s2,e1,rfl⟩:=GR (o:= .inl v) (show within cxN (M.bind (M.bind (B2 E f [] .normal) (runF E fuel)) fstV) st0=rOf (.inl v) s' from h)
 obtain⟨af,s1,o,e2,e3,e4⟩:=KL (IG _ _ _) e1
 obtain⟨_,hF,rfl⟩:=LC (r:= .nil .no) (base:=([],cs)) (cx:=cxN) he e2 .nil (cs:=cs) ⟨⟨rfl,rfl⟩,rfl, .nil⟩
 obtain⟨w',r',k1,k2,cs',k3,k4⟩:=(On he fuel).ok e3 hF (Rel.empty w (Know.no_sure w)) (Nat.le_refl _) (λ_ _ _=>⟨rfl,rfl⟩)
 cases o with
 |inr c=>cases e4
 |inl p=>
  cases e4
  obtain⟨v',q1,q2,q3⟩:=k4
  obtain⟨fr',x1,x2,x3⟩:=q3 rfl rfl
  have hcs:cs'=cs:=by
   rcases k3 with k3|⟨_,_,_,_,_,k,_⟩
   ·exact k3.2
   ·cases k
  subst hcs
  exact⟨.returned v',w',fr',⟨by rw[q1.eq_of_plain hp],k1.rel.below⟩,x3,x1,x2⟩
def T.tab {α:Type}(f:Nat->Option α)(fuel:Nat):Nat->Nat->T α:=
 Nat.rec (motive:=λ_=>Nat->Nat->T α) (λ_ _=> .E) (λ_ ih a s=>fN (Nat.add a s) λb=>fN (Nat.add b s) λc=>fN (Nat.add s s) λd=> .N (f a) (ih b d) (ih c d)) fuel
theorem bC {α:Type}(f:Nat->Option α)(n a s:Nat):T.tab f (n+1) a s= .N (f a) (T.tab f n (a+s) (s+s)) (T.tab f n (a+s+s) (s+s)):=by
 show fN (Nat.add a s) (λb=>fN (Nat.add b s) λc=>fN (Nat.add s s) λd=>T.N (f a) (T.tab f n b d) (T.tab f n c d))=_
 rw[Ar,Ar,Ar]
 rfl
theorem aX {α:Type}(f:Nat->Option α): ∀(n a s k:Nat) {x:α},T.get (T.tab f n a s) k=some x->f (a+s*k)=some x
 |0,_,_,_,_,h=>by cases h
 |n+1,a,s,0,x,h=>by
  rw[bC,aR]at h
  simpa using h
 |n+1,a,s,k+1,x,h=>by
  rw[bC,aN]at h
  split at h
  ·rename_i hk
   have:=aX f n _ _ _ h
   rw[<-this]
   congr 1
   have e:k=2*(k/2):=J
   rw[Nat.add_mul,Nat.mul_add,<-Nat.two_mul,Nat.mul_left_comm,<-e]
   omega
  ·rename_i hk
   have:=aX f n _ _ _ h
   rw[<-this]
   congr 1
   have e:k=2*(k/2)+1:=J
   have e2:s*(k+1)=s*(2*(k/2))+s+s:=by rw[e];rw[show 2*((2*(k/2)+1)/2)=2*(k/2) by omega];rw[Nat.mul_add,Nat.mul_add];omega
   rw[e2,Nat.add_mul,<-Nat.two_mul,Nat.mul_left_comm]
   omega
theorem T.tab_get {α:Type}(f:Nat->Option α): ∀(n a s k:Nat),k+1<2^n->T.get (T.tab f n a s) k=f (a+s*k)
 |0,_,_,k,h=>by simp at h
 |n+1,a,s,0,_=>by rw[bC];rfl
 |n+1,a,s,k+1,h=>by
  rw[bC,aN]
  split
  ·rename_i hk
   rw[T.tab_get f n _ _ _ (by rw[Nat.pow_succ]at h;omega)]
   congr 1
   have e:k=2*(k/2):=J
   rw[Nat.add_mul,Nat.mul_add,<-Nat.two_mul,Nat.mul_left_comm,<-e]
   omega
  ·rename_i hk
   rw[T.tab_get f n _ _ _ (by rw[Nat.pow_succ]at h;omega)]
   congr 1
   have e:k=2*(k/2)+1:=J
   have e2:s*(k+1)=s*(2*(k/2))+s+s:=by rw[e];rw[show 2*((2*(k/2)+1)/2)=2*(k/2) by omega];rw[Nat.mul_add,Nat.mul_add];omega
   rw[e2,Nat.add_mul,<-Nat.two_mul,Nat.mul_left_comm]
   omega
def ti0 (P:Program)(t:Nat):Option TI:=
 match P.info? t,P.underlying t with
 |some n,some u=>(match n.zero with
  |some z=>Bool.rec (motive:=λ_=>Option TI) none (some ⟨u,n.size,aggD u,z.cells.toList,n.bytes⟩) (Nat.beq z.cells.toList.length n.size&&z.cells.toList.all plain&&(aggV z==aggD u))
  |none=>none)
 |_,_=>none
def Gf (ok:Nat->Bool)(u:TypeDesc):Bool:=
 match u with
 | .struct fs=>fs.toList.all λf=>ok f.type
 |_=>true
def tyB (P:Program)(n:Nat):Nat->Bool:=
 Nat.rec (motive:=λ_=>Nat->Bool) (λ_=>false) (λ_ ih t=>Nat.blt t 4095&&Option.rec (motive:=λ_=>Bool) false (λi=>Gf ih i.u) (ti0 P t)) n
def tyAt (P:Program)(t:Nat):Option TI:=Bool.rec (motive:=λ_=>Option TI) none (ti0 P t) (tyB P 8 t)
def fnAt (P:Program)(f:Nat):Option Func:=
 match P.funcs[f]? with
 | some fn => Bool.rec (motive := fun _ => Option Func) (some fn) none (fn.name == "runtime.NumGoroutine")
 |none=>none
def envOf (P:Program)(orc ext:T (List Value->M Value)):Env:=⟨P,T.tab (tyAt P) 12 0 1,T.tab (fnAt P) 12 0 1,orc,ext⟩
theorem Afe_ {P:Program}{t:Nat}{i:TI}(h:ti0 P t=some i):TyOK P t i:=by
 unfold ti0 at h
 split at h
 ·rename_i n u h1 h2
  split at h
  ·rename_i z h3
   cases hb:(Nat.beq z.cells.toList.length n.size&&z.cells.toList.all plain&&(aggV z==aggD u))with
   |false=>rw[hb]at h;cases h
   |true=>
    rw[hb]at h
    cases h
    rw[Bool.and_eq_true,Bool.and_eq_true]at hb
    refine⟨⟨n,h1,rfl,rfl,z,h3,rfl⟩,h2,rfl,Nat.eq_of_beq_eq_true hb.1.1,λv hv=>List.all_eq_true.1 hb.1.2 v hv,λn' z' e1 e2=> ?_⟩
    rw[h1]at e1
    cases e1
    rw[h3]at e2
    cases e2
    exact eq_of_beq hb.2
  ·cases h
 ·cases h
theorem Qu {P:Program}{n t:Nat}:tyB P (n+1) t=(Nat.blt t 4095&&Option.rec (motive:=λ_=>Bool) false (λi=>Gf (tyB P n) i.u) (ti0 P t)):=rfl
theorem TN {P:Program}: ∀{n t:Nat},tyB P n t=true->tyB P (n+1) t=true
 |0,_,h=>by cases h
 |n+1,t,h=>by
  rw[Qu,Bool.and_eq_true]at h ⊢
  refine⟨h.1, ?_⟩
  have h2:=h.2
  cases e:ti0 P t with
  |none=>rw[e]at h2;cases h2
  |some i=>
   rw[e]at h2
   replace h2:Gf (tyB P n) i.u=true:=h2
   show Gf (tyB P (n+1)) i.u=true
   unfold Gf at h2 ⊢
   cases hu:i.u with
   |struct fs=>
    rw[hu]at h2
    simp only at h2 ⊢
    exact List.all_eq_true.2 λf hf=>TN (List.all_eq_true.1 h2 f hf)
   |_=>rfl
theorem Rl_ {P:Program}{t:Nat}{i:TI}(h:tyAt P t=some i):tyB P 8 t=true/\ti0 P t=some i:=by
 unfold tyAt at h
 cases e:tyB P 8 t with
 |false=>rw[e]at h;cases h
 |true=>rw[e]at h;exact⟨rfl,h⟩
theorem Abz_ (P:Program)(orc ext:T (List Value->M Value)):EnvTy (envOf P orc ext) where
 ok:=λt i h=>by
  have h1:=aX (tyAt P) 12 0 1 t h
  rw[Nat.zero_add,Nat.one_mul]at h1
  exact Afe_ (Rl_ h1).2
 flds:=λt i fs h hu f hf=>by
  have h1:=aX (tyAt P) 12 0 1 t h
  rw[Nat.zero_add,Nat.one_mul]at h1
  obtain⟨h2,h3⟩:=Rl_ h1
  rw[show(8:Nat)=7+1 from rfl,Qu,Bool.and_eq_true,h3]at h2
  have h4:Gf (tyB P 7) i.u=true:=h2.2
  unfold Gf at h4
  rw[hu]at h4
  have h5:tyB P 7 f.type=true:=List.all_eq_true.1 h4 f (by simpa using hf)
  have h6:=TN h5
  have h7:=h6
  rw[Qu,Bool.and_eq_true]at h7
  have h8:f.type<4095:=Bg h7.1
  have h9:T.get (envOf P orc ext).ty f.type=tyAt P f.type:=by
   have:=T.tab_get (tyAt P) 12 0 1 f.type (Nat.succ_lt_succ h8)
   rw[Nat.zero_add,Nat.one_mul]at this
   exact this
  rw[h9]
  unfold tyAt
  rw[h6]
  cases e:ti0 P f.type with
  |none=>rw[e]at h7;cases h7.2
  |some fi=>exact⟨fi,rfl⟩
theorem Ane_ (P : Program) (orc ext : T (List Value → M Value)) (f : Nat) (fn : Func) (h : T.get (envOf P orc ext).fn f = some fn) : P.funcs[f]? = some fn ∧ fn.name ≠ "runtime.NumGoroutine" := by
 have h1:=aX (fnAt P) 12 0 1 f h
 rw[Nat.zero_add,Nat.one_mul]at h1
 unfold fnAt at h1
 split at h1
 ·rename_i fn' h2
  cases hb : (fn'.name == "runtime.NumGoroutine") with
  |true=>rw[hb]at h1;cases h1
  |false=>
   rw[hb]at h1
   cases h1
   exact⟨h2,λe=>by rw[e]at hb;simp at hb⟩
 ·cases h1
structure OrcOK (P:Program)(f:Nat)(m:List Value->M Value):Prop where
 loc: ∀args,Loc (m args)
 ok: ∀{w0 w:World} {r:Inj} {args args':List Value} {s:St} {out:Out Value} {s':St},m args s=rOf out s'->Rel w0 r s.mem w->Bnd s->AK r s.next s'.next->VRs r args args'->
  (∀w,(callFunc f args'.toArray).run P w= .ok (.enter f args'.toArray) w)/\
  ∀c cs,∃w' r',Goes w0 r s s' r' w'/\s'.lim=s.lim/\s'.cx=s.cx/\Ends P r' out (lone (Frame.enter P f args'.toArray .normal) (c::cs) w) c cs w'
def OrcT (P:Program)(orc:T (List Value->M Value)):Prop:= ∀f m,T.get orc f=some m->OrcOK P f m
theorem OrcT.E (P:Program):OrcT P .E:=λf m h=>by cases h
theorem OrcT.set {P:Program}{orc:T (List Value->M Value)}(h:OrcT P orc){f:Nat}{m:List Value->M Value}(k:OrcOK P f m):OrcT P (T.set orc f m):=λg n e=>by
 rw[T.get_set]at e
 split at e
 ·rename_i hg
  cases e
  rw[hg]
  exact k
 ·exact h g n e
def valR (r:R Value):Option Value:=R.rec (motive:=λ_=>Option Value) none (λv _=>some v) (λ_ _=>none) r
theorem AqM_ {r:R Value}{v:Value}(h:valR r=some v): ∃s,r= .some v s:=by
 cases r with
 |none=>cases h
 |some a s=>cases h;exact⟨s,rfl⟩
 |pan c s=>cases h
def QG (v:Value)(args:List Value):M Value:=List.rec (motive:=λ_=>M Value) (M.pure v) (λ_ _ _=>aC) args
theorem Ahq_ {E:Env}(he:EnvOK E){fuel f:Nat}{args:List Value}{v:Value}{s s':St}(ho:E.orc.get f=none)(hx:E.ext.get f=none)(h:JU E fuel f args s= .some v s')(args':Array Value)(w:World):(callFunc f args').run E.P w= .ok (.enter f args') w:=by
 replace h:Ac E (runF E fuel) f args s= .some v s':=h
 unfold Ac at h
 rw[ho,hx]at h
 obtain⟨s2,e1,rfl⟩:=GR (o:= .inl v) (show within cxN (M.bind (M.bind (B2 E f args .normal) (runF E fuel)) fstV) s=rOf (.inl v) s' from h)
 obtain⟨af,s1,o,e2,_⟩:=KL (IG _ _ _) e1
 obtain⟨_,fn,c,h1,h2,_⟩:=YW e2
 obtain⟨k1,k2⟩:=he.fn f fn h1
 unfold callFunc
 simp[Sem.run,program,k1,k2,h2]
theorem XA_ {E:Env}(he:EnvOK E){fuel f:Nat}{v:Value}(ho:E.orc.get f=none)(hx:E.ext.get f=none)(h:valR (JU E fuel f [] st0)=some v)(hp:plain v=true):OrcOK E.P f (QG v) where
 loc:=λargs=>by cases args<;>first|exact Ah _|exact Al
 ok:=by
  intro w0 w r args args' s out s' e hr hb hf ha
  obtain⟨s1,h⟩:=AqM_ h
  cases args with
  |cons a l=>exact(Aw e).elim
  |nil=>
   obtain⟨rfl,rfl⟩:=A6 (show R.some v s=rOf out s' from e)
   rw[ha.inv_nil]
   refine⟨λw=>Ahq_ he ho hx h _ w,λc cs=> ?_⟩
   obtain⟨e,w',fr,⟨rfl,hbl⟩,hs,_,hl⟩:=AiY_ he ho hx h hp w (c::cs)
   exact⟨w',r, .of_rel rfl (hr.beyond hbl),rfl,rfl,v, .of_plain hp,hs.trans (.one (step_leave_returned hl))⟩
structure ExtOK (P:Program)(f:Nat)(m:List Value->M Value):Prop where
 loc: ∀args,Loc (m args)
 ok: ∀{w0 w:World} {r:Inj} {args args':List Value} {s:St} {out:Out Value} {s':St},m args s=rOf out s'->Rel w0 r s.mem w->VRs r args args'->Qp P w0 w r s f args' out s'
def ExtT (P:Program)(ext:T (List Value->M Value)):Prop:= ∀f m,T.get ext f=some m->ExtOK P f m
theorem ExtT.E (P:Program):ExtT P .E:=λf m h=>by cases h
theorem ExtT.set {P:Program}{ext:T (List Value->M Value)}(h:ExtT P ext){f:Nat}{m:List Value->M Value}(k:ExtOK P f m):ExtT P (T.set ext f m):=λg n e=>by
 rw[T.get_set]at e
 split at e
 ·rename_i hg
  cases e
  rw[hg]
  exact k
 ·exact h g n e
theorem Pv_ (P:Program)(h:P.follows .mixedOrders=true){orc ext:T (List Value->M Value)}(ho:OrcT P orc)(hx:ExtT P ext):EnvOK (envOf P orc ext):=
 ⟨Abz_ P orc ext,Ane_ P orc ext,h,λf m e=>(ho f m e).loc,λe=>(ho _ _ e).ok,λf m e=>(hx f m e).loc,λe=>(hx _ _ e).ok⟩
section
variable {P:Program}{f:Nat}{fn:Func}
theorem HJ_ {e : Array Value → Sem Value} (hf : P.funcs[f]? = some fn) (h1 : (fn.name == "runtime.NumGoroutine") = false) (h2 : fn.body = none) (h3 : Extern.findNext fn = none) (h4 : Extern.find fn = some e)
  (args:Array Value) {w w':World} {v:Value} (h:(e args).run P w= .ok v w'):(callFunc f args).run P w= .ok (.value v) w':=by
 have h1' : ¬fn.name = "runtime.NumGoroutine" := by simpa using h1
 unfold callFunc
 simp[run_program,Sem.run_bind,hf,h1',h2,h3,h4,h]
theorem TX_ (t:Extern.Atomic.T)(x:Value):Extern.Atomic.loadT t #[x]=(do Extern.Atomic.read t (<-asAddr x)):=rfl
theorem Amf_ (op:IntKind->Int->Int->Sem Value)(k:IntKind)(b:Bool)(x y:Value):Extern.Atomic.update op k b #[x,y]=(do
 let a <-asAddr x
 let old <-Extern.Atomic.read (.int k) a
 let new <-op k (<-asInt old) (<-asInt y)
 store a new .atomic
 pure (if b then new else old)):=rfl
def IK (args:List Value):M Value:=
 match args with
 |[.pointer (some a)]=>M.bind (rdV a) λv=>match v with
  | .int .i64 n=>M.pure (.int .i64 n)
  |_=>aC
 |_=>aC
def HG (args:List Value):M Value:=
 match args with
 |[.pointer (some a), .int .i64 y]=>M.bind (rdV a) λv=>match v with
  | .int .i64 x=>fI (wrap64 (addI x y)) λn=>M.bind (wrV a (.int .i64 n)) λ_=>M.pure (.int .i64 n)
  |_=>aC
 |_=>aC
theorem Aju_ (hf : P.funcs[f]? = some fn) (h1 : (fn.name == "runtime.NumGoroutine") = false) (h2 : fn.body = none) (h3 : Extern.findNext fn = none) (h4 : Extern.find fn = some (Extern.Atomic.loadT (.int .i64))) : ExtOK P f IK where
 loc:=λargs=>by
  unfold IK
  split
  ·refine Ae (En _) λv=> ?_
   split
   ·exact Ah _
   ·exact Al
  ·exact Al
 ok:=by
  intro w0 w r args args' s out s' e hr ha
  unfold IK at e
  split at e
  ·rename_i a
   obtain⟨p',l',rfl,q1,q2⟩:=ha.inv
   obtain⟨a',rfl,qa⟩:=q1.ptr_inv
   have:=q2.inv_nil
   subst this
   rcases Cj e with⟨v,s1,e1,e2⟩|⟨c,e1,_⟩
   case inr=>exact((D1 _).no _ _ _ e1).elim
   obtain⟨v',g1,g2,g3⟩:=Ei e1 hr qa
   split at e2
   ·rename_i n
    obtain⟨rfl,rfl⟩:=A6 (show R.some (Value.int .i64 n) s1=rOf out s' from e2)
    have:=g2.int_inv
    subst this
    refine⟨_,_,w,r,rfl,g2, .same g3 hr,g3.2.2.1,g3.2.2.2,HJ_ hf h1 h2 h3 h4 _ ?_⟩
    show(Extern.Atomic.loadT (.int .i64) #[.pointer (some a')]).run P w=_
    rw[TX_]
    simp[Extern.Atomic.read,asAddr,load,Sem.run,g1]
   ·exact(Aw e2).elim
  ·exact(Aw e).elim
theorem UH_ (hf : P.funcs[f]? = some fn) (h1 : (fn.name == "runtime.NumGoroutine") = false) (h2 : fn.body = none) (h3 : Extern.findNext fn = none) (h4 : Extern.find fn = some (Extern.Atomic.update (Op.intArith .add) .i64 true)) : ExtOK P f HG where
 loc:=λargs=>by
  unfold HG
  split
  ·refine Ae (En _) λv=> ?_
   split
   ·exact Hd _ λn=>Ae (TT _ _) λ_=>Ah _
   ·exact Al
  ·exact Al
 ok:=by
  intro w0 w r args args' s out s' e hr ha
  unfold HG at e
  split at e
  ·rename_i a y
   obtain⟨p',l',rfl,q1,q2⟩:=ha.inv
   obtain⟨y',l2,rfl,q3,q4⟩:=q2.inv
   obtain⟨a',rfl,qa⟩:=q1.ptr_inv
   have:=q4.inv_nil
   subst this
   have:=q3.int_inv
   subst this
   rcases Cj e with⟨v,s1,e1,e2⟩|⟨c,e1,_⟩
   case inr=>exact((D1 _).no _ _ _ e1).elim
   obtain⟨v',g1,g2,g3⟩:=Ei e1 hr qa
   split at e2
   ·rename_i x
    have:=g2.int_inv
    subst this
    rw[Cd,I6,LB]at e2
    rcases Cj e2 with⟨u,s2,e3,e4⟩|⟨c,e3,_⟩
    case inr=>exact((T8 _ _).no _ _ _ e3).elim
    obtain⟨rfl,rfl⟩:=A6 (show R.some (Value.int .i64 (IntKind.i64.wrap (x+y))) s2=rOf out s' from e4)
    obtain⟨k1,k2,k3,k4,k5,k6,k7⟩:=RK_ (P:=P) (v':= .int .i64 (IntKind.i64.wrap (x+y))) e3 (by rw[g3.1];exact hr) qa (.of_plain rfl)
    refine⟨.int .i64 (IntKind.i64.wrap (x+y)), .int .i64 (IntKind.i64.wrap (x+y)),w.setCell a' (.int .i64 (IntKind.i64.wrap (x+y))),r,rfl, .of_plain rfl, .of_rel (by rw[k3];exact g3.2.1) k2,by rw[k4];exact g3.2.2.1,by rw[k5];exact g3.2.2.2,HJ_ hf h1 h2 h3 h4 _ ?_⟩
    show(Extern.Atomic.update (Op.intArith .add) .i64 true #[.pointer (some a'), .int .i64 y]).run P w=_
    rw[Amf_]
    simp[Extern.Atomic.read,asAddr,asInt,asIntOf,load,store,Sem.run,g1,Op.intArith,k7]
   ·exact(Aw e2).elim
  ·exact(Aw e).elim
end
section
variable {α β:Type}{s:St}
def W (m:M α)(s:St)(Q:α->St->Prop):Prop:= ∃a s',m s= .some a s'/\Q a s'
theorem W.mono {m:M α}{Q R:α->St->Prop}(h:W m s Q)(k: ∀a s',Q a s'->R a s'):W m s R:=let ⟨a,s',e,q⟩:=h;⟨a,s',e,k a s' q⟩
theorem a7 {m:M α}{Q:α->St->Prop}{a:α}{s':St}(e:m s= .some a s')(q:Q a s'):W m s Q:=⟨a,s',e,q⟩
theorem W.pure {a:α}{Q:α->St->Prop}(q:Q a s):W (M.pure a) s Q:=⟨a,s,rfl,q⟩
theorem AO {m:M α}{f:α->M β}{a:α}{s1:St}(e:m s= .some a s1):M.bind m f s=f a s1:=by
 unfold M.bind
 rw[e]
theorem W.bind {m:M α}{f:α->M β}{Q:β->St->Prop}(h:W m s λa s1=>W (f a) s1 Q):W (M.bind m f) s Q:=by
 obtain⟨a,s1,e,b,s2,e2,q⟩:=h
 refine⟨b,s2, ?_,q⟩
 unfold M.bind
 rw[e]
 exact e2
theorem W.chk {b:Bool}{m:M α}{Q:α->St->Prop}(hb:b=true)(h:W m s Q):W (M.chk b m) s Q:=by subst hb;exact h
theorem W.on {x:Option α}{a:α}{f:α->M β}{Q:β->St->Prop}(e:x=some a)(h:W (f a) s Q):W (M.on x f) s Q:=by subst e;exact h
theorem W.ofOpt {x:Option α}{a:α}{Q:α->St->Prop}(e:x=some a)(q:Q a s):W (M.ofOpt x) s Q:=by subst e;exact W.pure q
theorem aK {m n:M α}{Q:α->St->Prop}(e:m s=n s)(h:W n s Q):W m s Q:=let ⟨a,s',e',q⟩:=h;⟨a,s',e.trans e',q⟩
theorem W.np {m:M α}{Q:α->St->Prop}(h:W m s Q):W (noP m) s Q:=by
 obtain⟨a,s1,e,q⟩:=h
 exact⟨a,s1,by unfold noP;rw[e],q⟩
theorem Bz {a b:Nat}(h:a<b):Nat.blt a b=true:=by simpa using h
theorem Il {a b:Nat}(h:b<=a):Nat.blt a b=false:=by
 cases e:Nat.blt a b with
 |false=>rfl
 |true=>exact absurd (Bg e) (Nat.not_lt_of_le h)
def St.rdN (s:St)(l:Nat):St:=⟨s.mem,s.next,s.lim,notes l s.lim s.rd,s.wr,s.cx⟩
def St.wrN (s:St)(l:Nat)(c:Cell):St:=⟨T.set s.mem l c,s.next,s.lim,s.rd,notes l s.lim s.wr,s.cx⟩
def St.cxN (s:St)(c:Ctx):St:=⟨s.mem,s.next,s.lim,s.rd,s.wr,c⟩
theorem Hc (l lim:Nat)(r:List Nat): ∃d,notes l lim r=d++r/\ ∀x∈d,x<lim/\x=l:=by
 rcases Nat.lt_or_ge l lim with h|h
 ·exact⟨[l],by unfold notes;rw[Bz h];rfl,λx hx=>by
  have:x=l:=by simpa using hx
  exact⟨J,this⟩⟩
 ·exact⟨[],by unfold notes;rw[Il h];rfl,λx hx=>by cases hx⟩
structure Ext (F G:Nat->Prop)(s s':St):Prop where
 nxt:s.next<=s'.next
 lim:s'.lim=s.lim
 cx:s'.cx=s.cx
 mem: ∀l,l<s.next-> ¬G l->T.get s'.mem l=T.get s.mem l
 rd: ∃d,s'.rd=d++s.rd/\ ∀l∈d,l<s.lim/\F l
 wr: ∃d,s'.wr=d++s.wr/\ ∀l∈d,l<s.lim/\G l
abbrev Non:Nat->Prop:=λ_=>False
theorem Ext.refl {F G:Nat->Prop}(s:St):Ext F G s s:=⟨Nat.le_refl _,rfl,rfl,λ_ _ _=>rfl,⟨[],rfl,λ_ h=>by cases h⟩,⟨[],rfl,λ_ h=>by cases h⟩⟩
theorem Ext.trans {F G F' G':Nat->Prop}{s s1 s2:St}(h:Ext F G s s1)(k:Ext F' G' s1 s2)(hb:s.lim<=s.next)(hF: ∀l,l<s.lim->F' l->F l)(hG: ∀l,l<s.next->G' l->G l):Ext F G s s2:=by
 refine⟨Nat.le_trans h.nxt k.nxt,k.lim.trans h.lim,k.cx.trans h.cx,λl hl hg=> ?_, ?_, ?_⟩
 ·rw[k.mem l (Nat.lt_of_lt_of_le hl h.nxt) λx=>hg (hG l hl x)]
  exact h.mem l hl hg
 ·obtain⟨d1,e1,q1⟩:=h.rd
  obtain⟨d2,e2,q2⟩:=k.rd
  refine⟨d2++d1,by rw[e2,e1,List.append_assoc],λl hl=> ?_⟩
  rcases List.mem_append.1 hl with hl|hl
  ·have:=q2 l hl
   rw[h.lim]at this
   exact⟨this.1,hF l this.1 this.2⟩
  ·exact q1 l hl
 ·obtain⟨d1,e1,q1⟩:=h.wr
  obtain⟨d2,e2,q2⟩:=k.wr
  refine⟨d2++d1,by rw[e2,e1,List.append_assoc],λl hl=> ?_⟩
  rcases List.mem_append.1 hl with hl|hl
  ·have:=q2 l hl
   rw[h.lim]at this
   exact⟨this.1,hG l (Nat.lt_of_lt_of_le this.1 hb) this.2⟩
  ·exact q1 l hl
theorem Ext.weak {F G F' G':Nat->Prop}{s s1:St}(k:Ext F' G' s s1)(hb:s.lim<=s.next)(hF: ∀l,l<s.lim->F' l->F l)(hG: ∀l,l<s.next->G' l->G l):Ext F G s s1:=(Ext.refl s).trans k hb hF hG
theorem Ext.rdN {F G:Nat->Prop}(s:St)(l:Nat)(hF:l<s.lim->F l):Ext F G s (s.rdN l):=by
 obtain⟨d,e,q⟩:=Hc l s.lim s.rd
 exact⟨Nat.le_refl _,rfl,rfl,λ_ _ _=>rfl,⟨d,e,λx hx=>⟨(q x hx).1,by have:=q x hx;rw[this.2];exact hF (by rw[<-this.2];exact this.1)⟩⟩,⟨[],rfl,λ_ h=>by cases h⟩⟩
theorem Ext.wrN {F G:Nat->Prop}(s:St)(l:Nat)(c:Cell)(hG:G l):Ext F G s (s.wrN l c):=by
 obtain⟨d,e,q⟩:=Hc l s.lim s.wr
 refine⟨Nat.le_refl _,rfl,rfl,λx _ hx=> ?_,⟨[],rfl,λ_ h=>by cases h⟩,⟨d,e,λx hx=>⟨(q x hx).1,by rw[(q x hx).2];exact hG⟩⟩⟩
 show T.get (T.set s.mem l c) x=_
 rw[T.get_set,if_neg]
 intro h
 exact hx (by rw[h];exact hG)
theorem Ext.bnd {F G:Nat->Prop}{s s':St}(h:Ext F G s s')(hb:s.lim<=s.next):s'.lim<=s'.next:=by rw[h.lim];exact Nat.le_trans hb h.nxt
def At (s:St)(b o:Nat)(v:Value):Prop:=b+o<s.next/\(T.get s.mem (b+o)=some (.C b v)\/T.get s.mem (b+o)=some (.O (.old b v)))
def Own (s:St)(b o:Nat)(v:Value):Prop:=b+o<s.next/\T.get s.mem (b+o)=some (.C b v)
theorem Own.at' {b o:Nat}{v:Value}(h:Own s b o v):At s b o v:=⟨h.1, .inl h.2⟩
theorem At.ext {F G:Nat->Prop}{s s':St}{b o:Nat}{v:Value}(h:At s b o v)(e:Ext F G s s')(hG: ¬G (b+o)):At s' b o v:=
 ⟨Nat.lt_of_lt_of_le h.1 e.nxt,by rw[e.mem _ h.1 hG];exact h.2⟩
theorem Own.ext {F G:Nat->Prop}{s s':St}{b o:Nat}{v:Value}(h:Own s b o v)(e:Ext F G s s')(hG: ¬G (b+o)):Own s' b o v:=
 ⟨Nat.lt_of_lt_of_le h.1 e.nxt,by rw[e.mem _ h.1 hG];exact h.2⟩
theorem At.same {s s':St}{b o:Nat}{v:Value}(h:At s b o v)(hm:s'.mem=s.mem)(hn:s'.next=s.next):At s' b o v:=by
 unfold At at *
 rw[hm,hn]
 exact h
theorem Own.same {s s':St}{b o:Nat}{v:Value}(h:Own s b o v)(hm:s'.mem=s.mem)(hn:s'.next=s.next):Own s' b o v:=by
 unfold Own at *
 rw[hm,hn]
 exact h
def Row (s:St)(b o:Nat)(l:List Value):Prop:= ∀i v,l[i]?=some v->At s b (o+i) v
def Ai (s:St)(b o:Nat)(l:List Value):Prop:= ∀i v,l[i]?=some v->Own s b (o+i) v
theorem Ai.row {b o:Nat}{l:List Value}(h:Ai s b o l):Row s b o l:=λi v e=>(h i v e).at'
theorem Row.ext {F G:Nat->Prop}{s s':St}{b o:Nat}{l:List Value}(h:Row s b o l)(e:Ext F G s s')(hG: ∀i,i<l.length-> ¬G (b+(o+i))):Row s' b o l:=λi v q=>(h i v q).ext e (hG i (List.getElem?_eq_some_iff.1 q).1)
theorem Ai.ext {F G:Nat->Prop}{s s':St}{b o:Nat}{l:List Value}(h:Ai s b o l)(e:Ext F G s s')(hG: ∀i,i<l.length-> ¬G (b+(o+i))):Ai s' b o l:=λi v q=>(h i v q).ext e (hG i (List.getElem?_eq_some_iff.1 q).1)
theorem Row.ext0 {F:Nat->Prop}{s s':St}{b o:Nat}{l:List Value}(h:Row s b o l)(e:Ext F Non s s'):Row s' b o l:=h.ext e λ_ _=>id
theorem Ai.ext0 {F:Nat->Prop}{s s':St}{b o:Nat}{l:List Value}(h:Ai s b o l)(e:Ext F Non s s'):Ai s' b o l:=h.ext e λ_ _=>id
theorem At.ext0 {F:Nat->Prop}{s s':St}{b o:Nat}{v:Value}(h:At s b o v)(e:Ext F Non s s'):At s' b o v:=h.ext e id
theorem Own.ext0 {F:Nat->Prop}{s s':St}{b o:Nat}{v:Value}(h:Own s b o v)(e:Ext F Non s s'):Own s' b o v:=h.ext e id
theorem Row.tail {b o:Nat}{v:Value}{l:List Value}(h:Row s b o (v::l)):Row s b (o+1) l:=λi x e=>by
 have:=h (i+1) x (by simpa using e)
 rw[show o+1+i=o+(i+1) by omega]
 exact this
theorem W.rdC {l:Nat}{c:Cell}{Q:Cell->St->Prop}(h:T.get s.mem l=some c)(hl:l<s.next)(q:Q c (s.rdN l)):W (rdC l) s Q:=by
 obtain⟨mem,next,lim,rd,wr,cx⟩:=s
 refine⟨c,_, ?_,q⟩
 unfold Am.rdC
 simp only at h hl ⊢
 rw[Bz hl,h]
 rfl
theorem W.wrC {l:Nat}{c:Cell}{Q:Unit->St->Prop}(hl:l<s.next)(q:Q () (s.wrN l c)):W (wrC l c) s Q:=by
 obtain⟨mem,next,lim,rd,wr,cx⟩:=s
 refine⟨(),_, ?_,q⟩
 unfold Am.wrC
 simp only at hl ⊢
 obtain⟨v,a,b,e⟩:=aZ mem l c
 rw[Bz hl]
 show T.rec (motive:=λ_=>R Unit) .none (λa b d _ _=>R.some () (St.mk (.N a b d) next lim rd (notes l lim wr) cx)) (T.set mem l c)=R.some () (St.mk (T.set mem l c) next lim rd (notes l lim wr) cx)
 rw[e]
theorem Se (a:Nat):Nat.beq a a=true:=Nat.beq_refl a
theorem W.rdV {b o:Nat}{v:Value}{Q:Value->St->Prop}(h:At s b o v)(q:Q v (s.rdN (b+o))):W (rdV ⟨b,o,none⟩) s Q:=by
 refine W.bind ?_
 rcases h with⟨h1,h2|h2⟩
 ·refine W.rdC h2 h1 (W.ofOpt (a:=v) ?_ q)
  show Bool.rec (motive:=λ_=>Option Value) none (some v) (Nat.beq b b)=_
  rw[Se]
 ·refine W.rdC h2 h1 (W.ofOpt (a:=v) ?_ q)
  show Bool.rec (motive:=λ_=>Option Value) none (some v) (Nat.beq b b)=_
  rw[Se]
theorem W.wrV {b o:Nat}{u v:Value}{Q:Unit->St->Prop}(h:Own s b o u)(hv:oneCell v=true)(q:Q () ((s.rdN (b+o)).wrN (b+o) (.C b v))):W (wrV ⟨b,o,none⟩ v) s Q:=by
 refine W.bind (W.rdC h.2 h.1 (W.chk ?_ (W.wrC h.1 q)))
 show(Nat.beq b b&&oneCell v)=true
 rw[Se,hv]
 rfl
theorem W.fA {γ:Type}{a:Addr}{K:Addr->M γ}{Q:γ->St->Prop}(h:W (K a) s Q):W (fA a K) s Q:=by rw[CH];exact h
theorem W.fN {γ:Type}{n:Nat}{K:Nat->M γ}{Q:γ->St->Prop}(h:W (K n) s Q):W (fN n K) s Q:=by rw[Ar];exact h
theorem W.rdL: ∀{l:List Value} {s:St} {b o:Nat} {Q:List Value->St->Prop},Row s b o l->
  (∀s1,s1.mem=s.mem->s1.next=s.next->Ext (λx=>b+o<=x/\x<b+o+l.length) Non s s1->Q l s1)->W (rdL l.length ⟨b,o,none⟩) s Q
 |[],s,b,o,Q,_,q=>W.pure (q s rfl rfl (Ext.refl s))
 |v::l,s,b,o,Q,h,q=>by
  have hv:=h 0 v rfl
  show W (Am.fA (⟨b,o,none⟩:Addr) λa=>M.bind (Am.rdV a) λv=>M.bind (Am.rdL l.length ⟨a.block,Nat.succ a.off,a.spot⟩) λl=>M.pure (v::l)) s Q
  refine W.fA (W.bind (W.rdV hv (W.bind (W.rdL (l:=l) (s:=s.rdN (b+(o+0))) (b:=b) (o:=o+1) (λi x e=>(h.tail i x e).same rfl rfl) λs1 h1 h2 h3=>W.pure (q s1 h1 h2 ?_)))))
  have e0:Ext (λx=>b+o<=x/\x<b+o+(v::l).length) Non s (s.rdN (b+(o+0))):=Ext.rdN s _ λ_=>am
  obtain⟨d1,p1,p2⟩:=e0.rd
  obtain⟨d2,p3,p4⟩:=h3.rd
  obtain⟨d3,p5,p6⟩:=h3.wr
  refine⟨Nat.le_of_eq h2.symm,h3.lim,h3.cx,λx _ _=>by rw[h1];rfl,⟨d2++d1,by rw[p3,p1,List.append_assoc],λx hx=> ?_⟩,⟨d3,p5,p6⟩⟩
  rcases List.mem_append.1 hx with hx|hx
  ·have:=p4 x hx
   simp only[List.length_cons]
   exact⟨this.1,J,J⟩
  ·exact p2 x hx
