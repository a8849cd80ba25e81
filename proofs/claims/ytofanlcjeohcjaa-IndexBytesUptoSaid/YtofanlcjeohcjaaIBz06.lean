import Derived.Test.YtofanlcjeohcjaaIBz05
import Derived.RowKit3
noncomputable section
namespace Go.Proofs.Ytofanlcjeohcjaa.Am
open Go.RowKit
theorem Lf: ∀(l:List COp),∃F,fuse l= .mk F/\ ∀call round rho tm s,F call round rho tm s=AK call round l rho tm s
 |[]=>⟨_,rfl,λ_ _ _ _ _=>rfl⟩
 |⟨g,d,keep,f⟩::l=>by
  obtain⟨k,h1,h2⟩:=Lf l
  have key: ∀f':OpT,∃F,Sm d keep f' k= .mk F/\ ∀call round rho tm s,F call round rho tm s=M.bind (f' call round rho tm) (λv=>AK call round l (Df d v rho) (Dh d keep v tm)) s:=by
   intro f'
   cases d with
   |none=>
    refine⟨_,rfl,λcall round rho tm s=> ?_⟩
    unfold M.bind
    simp only
    cases f' call round rho tm s with
    |none=>rfl
    |some v s1=>exact h2 _ _ _ _ _
    |pan c s1=>rfl
   |some d=>
    cases keep with
    |false=>
     refine⟨_,rfl,λcall round rho tm s=> ?_⟩
     unfold M.bind
     simp only
     cases f' call round rho tm s with
     |none=>rfl
     |some v s1=>exact h2 _ _ _ _ _
     |pan c s1=>rfl
    |true=>
     refine⟨_,rfl,λcall round rho tm s=> ?_⟩
     unfold M.bind
     simp only
     cases f' call round rho tm s with
     |none=>rfl
     |some v s1=>
      obtain⟨a,b,c,e⟩:=aS tm d v
      simp only[e,Dh]
      exact h2 _ _ _ _ _
     |pan c s1=>rfl
  have h0:fuse (⟨g,d,keep,f⟩::l)=NK ⟨g,d,keep,f⟩ k:=by
   show Cl.rec (motive:=λ_=>Cl RT) (λk=>NK ⟨g,d,keep,f⟩ k) (fuse l)=_
   rw[h1]
  rw[h0]
  cases g with
  |none=>
   obtain⟨F,q1,q2⟩:=key f
   exact⟨F,q1,λcall round rho tm s=>by rw[q2,GL];rfl⟩
  |some p=>
   obtain⟨F,q1,q2⟩:=key (λcall round r tm=>Bt (some p) r (f call round r tm))
   exact⟨F,q1,λcall round rho tm s=>by rw[q2,GL]⟩
def delT (ds:List Nat)(t:T Value):T Value:=List.rec (motive:=λ_=>T Value) t (λd _ t=>aW t d) ds
theorem J2 {tm:T Value}{y:Nat}{v:Value}: ∀{ds:List Nat},T.get (delT ds tm) y=some v->y∉ds/\T.get tm y=some v
 |[],h=>⟨am,h⟩
 |d::ds,h=>by
  replace h:T.get (aW (delT ds tm) d) y=some v:=h
  rw[aV]at h
  split at h
  ·cases h
  ·rename_i hne
   obtain⟨h1,h2⟩:=J2 h
   exact⟨λhm=>(List.mem_cons.1 hm).elim hne h1,h2⟩
section
variable {E:Env}{call round:Ai}{w0 w:World}{r:Inj}{base:List Deferred×List Frame}
theorem FR.csr {P:Program}{af:AF}{cx:Ctx}{fr:Frame}{cs:List Frame}(h:FR P r af cx base fr cs):af.roundOf≠none->cs=base.2:=by
 intro hne
 have hfr:fr.roundOf≠none:=by
  have:=h.round
  intro hx
  rw[hx]at this
  cases e:af.roundOf with
  |none=>exact hne e
  |some l=>rw[e]at this;exact this.elim
 have hk:=h.rk hfr
 have hc:=h.cx
 unfold CxR at hc
 cases cx with
 |no=>exact hc.2
 |cx up d=>
  cases up with
  |none=>exact hc.1.2
  |some m=>have:=hc.1.1;rw[hk]at this;cases this
theorem FR.slots {P:Program}{af:AF}{cx:Ctx}{fr:Frame}{cs:List Frame}(h:FR P r af cx base fr cs):SlR r (λ_=>True) [] [] af.tmps fr.tmps:=
 ⟨λi d v _ e=>by simp at e,λy v _ e=>(h.tm y v e).2⟩
theorem Tx_ {α:Type}{m:M α}{o:Out α}{s s':St}(h:noP m s=rOf o s'): ∃a,o= .inl a/\m s= .some a s':=by
 unfold noP at h
 cases e:m s with
 |none=>rw[e]at h;exact(AL h).elim
 |some a s1=>rw[e]at h;obtain⟨rfl,rfl⟩:=Bh h;exact⟨a,rfl,rfl⟩
 |pan c s1=>rw[e]at h;exact(AL h).elim
theorem Amk_ (he:EnvOK E)(c1:CallOK E call)(c2:RoundOK E round){af:AF}{fr:Frame}{cs:List Frame}{s s':St}{out:Out Step}{ops:Array Oper}{cops:List COp}{F:RT}{id:Nat}{k:List Item}
  (hc:B1 E af.glob af.n ops.toList ops.toList []=some cops) (hF':fuse cops= .mk F) (h:regF call round af (dstL ops.toList) F k s=rOf out s') (hF:FR E.P r af s.cx base fr cs) (hm:af.mode= .run) (htodo:af.todo= .code (.region id ops false)::k)
  (hr:Rel w0 r s.mem w) (hb:Bnd s) (hf:AU r s.next s'.next):
  ∃w' r',Goes w0 r s s' r' w'/\s'.lim=s.lim/\CL E.P r' base s'.cx fr (lone fr cs w) w' out:=by
 obtain⟨F2,q1,q2⟩:=Lf cops
 rw[hF']at q1
 cases q1
 unfold regF at h
 rw[q2]at h
 have hstart:step E.P (lone fr cs w)= .next (lone (frm fr fr.tmps fr.defers (.inRegion ops (List.range' 0 ops.toList.length)::k)) cs w):=by
  rw[hF.frm hm,htodo]
  have:=AoQ_ (P:=E.P) (b:=fr) (t:=fr.tmps) (d:=fr.defers) (k:=k) (cs:=cs) (w:=w) (ops:=ops) (id:=id)
  rw[List.range_eq_range']at this
  rw[show ops.toList.length=ops.size by simp]
  exact this
 have main: ∀{o:Out (T Value)} {s1:St},AK call round cops [] af.tmps s=rOf o s1->AU r s.next s1.next-> ∃w' r' dfs' cs',Goes w0 r s s1 r' w'/\CxR r' base s1.cx fr dfs' cs'/\s1.lim=s.lim/\
   HF E.P r' af.glob o (lone (frm fr fr.tmps fr.defers (.inRegion ops (List.range' 0 ops.toList.length)::k)) cs w) fr fr.tmps ops.toList dfs' k cs' w':=λe hf1=>
  Qn he.ty c1 c2 ops.toList 0 [] cops [] af.tmps fr.tmps fr.defers cs w r s _ _ (λj o hj=>by rw[Nat.zero_add];rw[Array.getElem?_toList]at hj;exact hj) hc hF.slots hF.tm hF.size rfl hr hF.cx hb hf1 e
 cases e:AK call round cops [] af.tmps s with
 |none=>rw[e]at h;exact(AL h).elim
 |some tm s1=>
  rw[e]at h
  obtain⟨rfl,rfl⟩:=Bh ((Dh_ af k tm s1).symm.trans h)
  obtain⟨w',r',dfs',cs',k1,k2,k3,t',k4,k5,k6⟩:=main (o:= .inl tm) e hf
  exact⟨w',r',k1,k3,frm fr t' dfs' k,cs',rfl,⟨hF.fn,k5.trans hF.size,k4,λ_=>rfl,by rw[show({af with todo:=k,tmps:=tm}:AF).mode= .run from hm];exact .run,hF.round.mono k1.le,hF.rk,hF.known,k2⟩, .head hstart k6⟩
 |pan ch s1=>
  rw[e]at h
  cases hro:af.roundOf with
  |some l=>rw[hro]at h;exact(AL h).elim
  |none=>
   rw[hro]at h
   obtain⟨rfl,rfl⟩:=Bh (show R.some (Step.go {af with mode:= .panicking ch,tmps:=delT (dstL ops.toList) af.tmps}) s1=rOf out s' from h)
   obtain⟨w',r',dfs',cs',k1,k2,k3,ch',t',td,k4,k5,k6,k7⟩:=main (o:= .inr ch) e hf
   refine⟨w',r',k1,k3,{frm fr t' dfs' td with mode:= .panicking ch'},cs',rfl,⟨hF.fn,k5.trans hF.size, ?_,(λe=>by cases e), .pan k4,hF.round.mono k1.le,hF.rk,hF.known,k2⟩, .head hstart k7⟩
   intro y v hy
   obtain⟨p1,p2⟩:=J2 hy
   obtain⟨p3,v',p4,p5⟩:=hF.tm y v p2
   exact⟨p3,v',by rw[show({frm fr t' dfs' td with mode:= .panicking ch'}:Frame).tmps=t' from rfl,k6 y p1];exact p4,p5.mono k1.le⟩
theorem Md {tm0:T Value}{cops:List COp}{bef:List Nat}{s s':St}{out:Out (Rho×T Value)}(h:Ha call round tm0 cops bef s=rOf out s'):
  ∃q logs s1,Dz call round cops [] [] tm0 ⟨s.mem,s.next,0,[],[], .no⟩= .some (q,logs) s1/\Bz s.next logs.reverse bef=true/\out= .inl q/\
   s'=⟨s1.mem,s1.next,s.lim,rdsL s.lim logs s.rd,wrsL s.lim logs s.wr,s.cx⟩:=by
 obtain⟨mem,next,lim,rd,wr,cx⟩:=s
 unfold Ha at h
 simp only at h
 cases e:Dz call round cops [] [] tm0 ⟨mem,next,0,[],[], .no⟩with
 |none=>rw[e]at h;exact(AL h).elim
 |pan c s1=>rw[e]at h;exact(AL h).elim
 |some p s1=>
  rw[e]at h
  obtain⟨q,logs⟩:=p
  obtain⟨mem1,next1,lim1,rd1,wr1,cx1⟩:=s1
  simp only at h
  cases hA:Bz next logs.reverse bef with
  |false=>rw[hA]at h;exact(AL h).elim
  |true=>
   rw[hA]at h
   obtain⟨rfl,rfl⟩:=Bh (show R.some q _=rOf out s' from h)
   exact⟨_,logs,_,rfl,hA,rfl,rfl⟩
theorem Dx: ∀(l:List COp) (m:Nat),E9 l m=l.take m
 |[],m=>by simp[E9]
 |c::l,0=>rfl
 |c::l,m+1=>by show c::E9 l m=_;rw[Dx l m];rfl
theorem E1: ∀(l:List COp) (m:Nat),Fo l m=l.drop m
 |[],m=>by simp[Fo]
 |c::l,0=>rfl
 |c::l,m+1=>by show Fo l m=_;rw[E1 l m];rfl
theorem AkH_ {ops:Array Oper}:C8 ops.size (Region.before ops).toList<=ops.size/\ops.size<=C8 ops.size (Region.before ops).toList+1/\
  ∀j,C8 ops.size (Region.before ops).toList<=j->j<ops.size-> ∀i,i<C8 ops.size (Region.before ops).toList->Bf ops j i:=by
 have key: ∀y:Bool,(y=true-> ∃b,(Region.before ops).toList[ops.size-1]?=some b/\b=2^(ops.size-1)-1)->(Bool.rec (motive:=λ_=>Nat) ops.size (Nat.pred ops.size) y)<=ops.size/\ops.size<=(Bool.rec (motive:=λ_=>Nat) ops.size (Nat.pred ops.size) y)+1/\
   ∀j,(Bool.rec (motive:=λ_=>Nat) ops.size (Nat.pred ops.size) y)<=j->j<ops.size-> ∀i,i<(Bool.rec (motive:=λ_=>Nat) ops.size (Nat.pred ops.size) y)->Bf ops j i:=by
  intro y hy
  cases y with
  |false=>exact⟨Nat.le_refl ops.size,Nat.le_succ ops.size,λj (h1:ops.size<=j) h2=>absurd h2 (Nat.not_lt.2 h1)⟩
  |true=>
   obtain⟨b,hb,hb'⟩:=hy rfl
   refine⟨Nat.pred_le ops.size, ?_,λj (h1:Nat.pred ops.size<=j) h2 i (h3:i<Nat.pred ops.size)=> ?_⟩
   ·show ops.size<=Nat.pred ops.size+1
    rw[Nat.pred_eq_sub_one];omega
   ·rw[Nat.pred_eq_sub_one]at h1 h3
    have hj:j=ops.size-1:=J
    subst hj
    refine⟨b,by rw[<-Array.getElem?_toList];exact hb, ?_⟩
    rw[hb',Nat.testBit_two_pow_sub_one]
    simpa using h3
 unfold C8
 refine key _ λh=> ?_
 split at h
 ·exact⟨_,by rw[<-Nat.pred_eq_sub_one];assumption,Nat.eq_of_beq_eq_true h⟩
 ·cases h
theorem Qs {glob n:Nat}{all:List Oper}: ∀(m:Nat) (l:List Oper) (ds:List Nat) (cs:List COp),B1 E glob n all l ds=some cs->B1 E glob n all (l.drop m) ((l.take m).foldl (λds o=>Ce o.dst ds) ds)=some (cs.drop m)
 |0,l,ds,cs,h=>h
 |m+1,[],ds,cs,h=>by cases h;rfl
 |m+1,o::l,ds,cs,h=>by
  obtain⟨g,f,r,rfl,h1,h2,h3,h4⟩:=Kk h
  exact Qs m l _ r h4
theorem TP_ (he:EnvOK E)(c1:CallOK E call)(c2:RoundOK E round){af:AF}{fr:Frame}{cs:List Frame}{s s':St}{out:Out Step}{ops:Array Oper}{cops:List COp}{id m:Nat}{k:List Item}
  (hc:B1 E af.glob af.n ops.toList ops.toList []=some cops) (hd:E2 ops.toList (Region.before ops).toList=true) (hmn:m=C8 ops.size (Region.before ops).toList) (h:Hn call round af (cops.take m) (cops.drop m) (Region.before ops).toList (dstL ops.toList) k s=rOf out s') (hF:FR E.P r af s.cx base fr cs) (hm:af.mode= .run) (htodo:af.todo= .code (.region id ops true)::k)
  (hr:Rel w0 r s.mem w) (hb:Bnd s) (hf:AU r s.next s'.next):
  ∃w' r',Goes w0 r s s' r' w'/\s'.lim=s.lim/\CL E.P r' base s'.cx fr (lone fr cs w) w' out:=by
 obtain⟨m1,m2,m3⟩:=AkH_ (ops:=ops)
 rw[<-hmn]at m1 m2 m3
 obtain⟨hlen,hcomp⟩:=Ht ops.toList [] cops hc
 have hn:cops.length=ops.size:=by rw[hlen];simp
 have hloc: ∀c∈cops,∀rho tm,Loc (Bt c.guard rho (c.run call round rho tm)):=by
  intro c hcm rho tm
  obtain⟨i,hi,rfl⟩:=List.getElem_of_mem hcm
  have hio:i<ops.toList.length:=by rw[<-hlen];exact hi
  obtain⟨g,f,p1,p2,p3,p4⟩:=hcomp i ops.toList[i] (List.getElem?_eq_getElem hio)
  rw[List.getElem?_eq_getElem hi]at p1
  rw[Option.some.inj p1]
  exact(Fy (ops:=ops) (i:=i) (keep:=BW ops.toList[i].dst af.glob) he.ty (by rw[<-Array.getElem?_toList];exact List.getElem?_eq_getElem hio) p2 p4).1 call round c1 c2 rho tm
 have hlast:=Qs m ops.toList [] cops hc
 have hds:(ops.toList.take m).foldl (λds o=>Ce o.dst ds) []=dsAt ops.toList m:=rfl
 rw[hds]at hlast
 have hsub: ∀j o,(ops.toList.drop m)[j]?=some o->ops[m+j]?=some o:=λj o hj=>by rw[List.getElem?_drop,Array.getElem?_toList]at hj;exact hj
 have hbind: ∃q sd,Ha call round af.tmps (cops.take m) (Region.before ops).toList s=rOf (.inl q) sd/\endE call round af (cops.drop m) (dstL ops.toList) k q sd=rOf out s':=by
  rcases DJ h with⟨q,sd,e1,e2⟩|⟨ch,e1,_⟩
  ·exact⟨q,sd,e1,e2⟩
  ·obtain⟨_,_,_,_,_,q3,_⟩:=Md (out:= .inr ch) e1
   cases q3
 obtain⟨q,sd,e1,e2⟩:=hbind
 obtain⟨q',logs,s1,e,hA,q3,q4⟩:=Md e1
 cases q3
 obtain⟨x,t1,t2,t3,t4,t5,t6,t7⟩:=OM (cops.take m) [] [] af.tmps _ (.inl (q,logs)) s1 (λc hc=>hloc c (List.mem_of_mem_take hc)) rfl e
 have hlm:(cops.take m).length=m:=by rw[List.length_take,hn];omega
 rw[hlm]at t6 t7
 cases t6
 have H:Pre E af.glob af.n ops call round cops x m:=by
  refine⟨λi o ho=> ?_,m1,t1,t4,hd, ?_⟩
  ·have:=hcomp i o (by rw[Array.getElem?_toList];exact ho)
   simpa using this
  ·rw[t3]
   simpa using hA
 simp only at t2 t3
 unfold endE at e2
 have hsdb:Bnd sd:=by rw[q4,t7];exact Nat.le_trans hb (by rw[<-t3];exact H.nx (Nat.zero_le _) (Nat.le_refl _))
 have hloc2:Loc (AK call round (cops.drop m) (x.Rh m) (x.Tm m)):=Ig he.ty c1 c2 (ops.toList.drop m) m _ _ hlast hsub _ _
 have hstart:step E.P (lone fr cs w)= .next (lone (frm fr fr.tmps fr.defers (.inRegion ops (Region.linearise .any ops (w.tape w.drawn (.order fr.fn id)))::k)) cs w.drew):=by
  rw[hF.frm hm,htodo]
  have:=Y4 (P:=E.P) (b:=fr) (t:=fr.tmps) (d:=fr.defers) (k:=k) (cs:=cs) (w:=w) (ops:=ops) (id:=id)
  rw[he.mixed]at this
  have hsch:Region.schedule true ops (w.tape w.drawn (.order fr.fn id))=Region.linearise .any ops (w.tape w.drawn (.order fr.fn id)):=by simp[Region.schedule]
  rw[hsch]at this
  exact this
 have main: ∀{o:Out (T Value)} {s2:St},AK call round (cops.drop m) (x.Rh m) (x.Tm m) sd=rOf o s2->AU r s.next s2.next-> ∃w' r' dfs' cs',Goes w0 r s s2 r' w'/\CxR r' base s2.cx fr dfs' cs'/\s2.lim=s.lim/\
   HF E.P r' af.glob o (lone fr cs w) fr fr.tmps ops.toList dfs' k cs' w':=by
  intro o s2 e3 hf2
  have hn2:sd.next<=s2.next:=(hloc2.at' sd o s2 e3 hsdb).next
  have hsdn:sd.next=x.Nx m:=by rw[q4,t7]
  obtain⟨t',w1,r1,g1,g2,g3,g5,g6,g4⟩:=H.draw_ok m2 m3 he.ty c1 c2 (w0:=w0) (w:=w.drew) (r:=r) (t:=fr.tmps) (by rw[t5];exact hF.tm) hF.size (by rw[t2];exact hr.drew)
   (by rw[t3];exact λb u v=>hf2 b u (Nat.lt_of_lt_of_le v (by rw[<-hsdn];exact hn2))) fr fr.defers cs k (w.tape w.drawn (.order fr.fn id))
  have hgo:=g1 s sd t3.symm hsdn (by rw[q4,t7])
  have hcx:CxR r1 base sd.cx fr fr.defers cs:=by rw[q4];exact hF.cx.mono hgo.le
  obtain⟨w2,r2,dfs2,cs2,k1,k2,k3,k4⟩:=Qn he.ty c1 c2 (b:=fr) (k:=k) (base:=base) (w0:=w0) (ops.toList.drop m) m (dsAt ops.toList m) (cops.drop m) (x.Rh m) (x.Tm m) t' fr.defers cs w1 r1 sd o s2 hsub hlast g5 g2 g3 (H.ds (Nat.le_refl m)).1
   hgo.rel hcx hsdb (hgo.fresh hf2) e3
  refine⟨w2,r2,dfs2,cs2,hgo.trans k1,k2,k3.trans (by rw[q4]), ?_⟩
  have hrl:(ops.toList.drop m).length=ops.size-m:=am
  rw[hrl]at k4
  have hto:Steps E.P (lone fr cs w) (lone (frm fr t' fr.defers (.inRegion ops (List.range' m (ops.size-m))::k)) cs w1):= .head hstart g4
  unfold HF at k4 ⊢
  cases o with
  |inl tm'=>
   obtain⟨t2,z1,z2,z3⟩:=k4
   exact⟨t2,z1,by rw[z2,g3,hF.size],hto.trans z3⟩
  |inr ch=>
   obtain⟨ch',t2,td,z1,z2,z3,z4⟩:=k4
   exact⟨ch',t2,td,z1,by rw[z2,g3,hF.size],λd hd=>by rw[z3 d hd,g6 d hd],hto.trans z4⟩
 cases e3:AK call round (cops.drop m) (x.Rh m) (x.Tm m) sd with
 |none=>rw[e3]at e2;exact(AL e2).elim
 |some tm s2=>
  rw[e3]at e2
  obtain⟨rfl,rfl⟩:=Bh ((Dh_ af k tm s2).symm.trans e2)
  obtain⟨w',r',dfs',cs',k1,k2,k3,t',k4,k5,k6⟩:=main (o:= .inl tm) e3 hf
  exact⟨w',r',k1,k3,frm fr t' dfs' k,cs',rfl,⟨hF.fn,k5.trans hF.size,k4,λ_=>rfl,by rw[show({af with todo:=k,tmps:=tm}:AF).mode= .run from hm];exact .run,hF.round.mono k1.le,hF.rk,hF.known,k2⟩,k6⟩
 |pan ch s2=>
  rw[e3]at e2
  cases hro:af.roundOf with
  |some l=>rw[hro]at e2;exact(AL e2).elim
  |none=>
   rw[hro]at e2
   obtain⟨rfl,rfl⟩:=Bh (show R.some (Step.go {af with mode:= .panicking ch,tmps:=delT (dstL ops.toList) af.tmps}) s2=rOf out s' from e2)
   obtain⟨w',r',dfs',cs',k1,k2,k3,ch',t',td,k4,k5,k6,k7⟩:=main (o:= .inr ch) e3 hf
   refine⟨w',r',k1,k3,{frm fr t' dfs' td with mode:= .panicking ch'},cs',rfl,⟨hF.fn,k5.trans hF.size, ?_,(λe=>by cases e), .pan k4,hF.round.mono k1.le,hF.rk,hF.known,k2⟩,k7⟩
   intro y v hy
   obtain⟨p1,p2⟩:=J2 hy
   obtain⟨p3,v',p4,p5⟩:=hF.tm y v p2
   exact⟨p3,v',by rw[show({frm fr t' dfs' td with mode:= .panicking ch'}:Frame).tmps=t' from rfl,k6 y p1];exact p4,p5.mono k1.le⟩
theorem Zc_ {tm0:T Value}{cops:List COp}{bef:List Nat}(hloc: ∀c∈cops,∀rho tm,Loc (Bt c.guard rho (c.run call round rho tm))):Loc (Ha call round tm0 cops bef):=⟨λs o s' h hb=>by
 obtain⟨q,logs,s1,e,hA,rfl,rfl⟩:=Md h
 obtain⟨Rd,Wr,tm',es,q1,q2,_,q4,q5⟩:=Qo cops [] [] tm0 _ (.inl (q,logs)) s1 hloc rfl (Nat.zero_le _) e
 cases q1
 refine⟨Rd,Wr,rdsL s.lim logs [],wrsL s.lim logs [],⟨IK _ _ _,H2 _ _ _,q2.nxt,rfl,Nat.le_trans hb q2.nxt,q2.rlt,q2.wlt,q2.old,λt e1 e2 e3 e4=> ?_⟩,λl e1 e2=> ?_,λl e1 e2=> ?_⟩
 ·obtain⟨t',p1,p2,p3,p4,p5,p6,p7,p8⟩:=q2.any ⟨t.mem,t.next,0,[],[], .no⟩ e1 rfl rfl e4
  obtain⟨tm1,tn1,tl1,tr1,tw1,tc1⟩:=t'
  simp only at p2
  refine⟨⟨tm1,tn1,t.lim,rdsL t.lim logs t.rd,wrsL t.lim logs t.wr,t.cx⟩, ?_,p2,e2,e3,by rw[e2];exact IK _ _ _,by rw[e2];exact H2 _ _ _,p7,p8⟩
  obtain⟨mem,next,lim,rd,wr,cx⟩:=t
  unfold Ha
  simp only at p1 e1 ⊢
  rw[p1]
  simp only[rOf]
  rw[e1,hA]
 ·obtain⟨g,a,b⟩:=q4 l e1 (Nat.lt_of_lt_of_le e2 hb)
  exact Pu e2 a b
 ·obtain⟨g,a,b⟩:=q5 l e1 (Nat.lt_of_lt_of_le e2 hb)
  exact Q3 e2 a b⟩
theorem LJ_ {b:Nat}: ∀{l:List OpLog} {i:Nat},Em b l i=true-> ∀q m,l[q]?=some m->b.testBit (i+q)=true\/(m.wr=[]/\m.lo=m.hi)
 |[],i,_,q,m,hq=>by simp at hq
 |a::l,i,h,q,m,hq=>by
  replace h:((b.testBit i||(a.wr.isEmpty&&Nat.beq a.lo a.hi))&&Em b l (Nat.succ i))=true:=h
  rw[Bool.and_eq_true,Bool.or_eq_true,Bool.and_eq_true]at h
  cases q with
  |zero=>
   simp at hq
   subst hq
   rcases h.1 with h1|h1
   ·exact .inl h1
   ·exact .inr ⟨by simpa using h1.1,Nat.eq_of_beq_eq_true h1.2⟩
  |succ q=>
   have:=LJ_ h.2 q m (by simpa using hq)
   rw[show Nat.succ i+q=i+(q+1) by omega]at this
   exact this
theorem Rp {tm0:T Value}{cops:List COp}{bef:List Nat}{b:Nat}{s s':St}{out:Out (Rho×T Value)}(h:drawQ call round tm0 cops bef b s=rOf out s'):
  ∃q logs s1,Dz call round cops [] [] tm0 ⟨s.mem,s.next,0,[],[], .no⟩= .some (q,logs) s1/\Bz s.next logs.reverse bef=true/\Em b logs.reverse 0=true/\out= .inl q/\
   s'=⟨s1.mem,s1.next,s.lim,rdsL s.lim logs s.rd,wrsL s.lim logs s.wr,s.cx⟩:=by
 obtain⟨mem,next,lim,rd,wr,cx⟩:=s
 unfold drawQ at h
 simp only at h
 cases e:Dz call round cops [] [] tm0 ⟨mem,next,0,[],[], .no⟩with
 |none=>rw[e]at h;exact(AL h).elim
 |pan c s1=>rw[e]at h;exact(AL h).elim
 |some p s1=>
  rw[e]at h
  obtain⟨q,logs⟩:=p
  obtain⟨mem1,next1,lim1,rd1,wr1,cx1⟩:=s1
  simp only at h
  cases hA:(Bz next logs.reverse bef&&Em b logs.reverse 0)with
  |false=>rw[hA]at h;exact(AL h).elim
  |true=>
   rw[hA]at h
   rw[Bool.and_eq_true]at hA
   obtain⟨rfl,rfl⟩:=Bh (show R.some q _=rOf out s' from h)
   exact⟨_,logs,_,rfl,hA.1,hA.2,rfl,rfl⟩
theorem Axm_ {tm0:T Value}{cops:List COp}{bef:List Nat}{b:Nat}(hloc: ∀c∈cops,∀rho tm,Loc (Bt c.guard rho (c.run call round rho tm))):Loc (drawQ call round tm0 cops bef b):=⟨λs o s' h hb=>by
 obtain⟨q,logs,s1,e,hA,hA2,rfl,rfl⟩:=Rp h
 obtain⟨Rd,Wr,tm',es,q1,q2,_,q4,q5⟩:=Qo cops [] [] tm0 _ (.inl (q,logs)) s1 hloc rfl (Nat.zero_le _) e
 cases q1
 refine⟨Rd,Wr,rdsL s.lim logs [],wrsL s.lim logs [],⟨IK _ _ _,H2 _ _ _,q2.nxt,rfl,Nat.le_trans hb q2.nxt,q2.rlt,q2.wlt,q2.old,λt e1 e2 e3 e4=> ?_⟩,λl e1 e2=> ?_,λl e1 e2=> ?_⟩
 ·obtain⟨t',p1,p2,p3,p4,p5,p6,p7,p8⟩:=q2.any ⟨t.mem,t.next,0,[],[], .no⟩ e1 rfl rfl e4
  obtain⟨tm1,tn1,tl1,tr1,tw1,tc1⟩:=t'
  simp only at p2
  refine⟨⟨tm1,tn1,t.lim,rdsL t.lim logs t.rd,wrsL t.lim logs t.wr,t.cx⟩, ?_,p2,e2,e3,by rw[e2];exact IK _ _ _,by rw[e2];exact H2 _ _ _,p7,p8⟩
  obtain⟨mem,next,lim,rd,wr,cx⟩:=t
  unfold drawQ
  simp only at p1 e1 ⊢
  rw[p1]
  simp only[rOf]
  rw[e1,hA,hA2]
  rfl
 ·obtain⟨g,a,b⟩:=q4 l e1 (Nat.lt_of_lt_of_le e2 hb)
  exact Pu e2 a b
 ·obtain⟨g,a,b⟩:=q5 l e1 (Nat.lt_of_lt_of_le e2 hb)
  exact Q3 e2 a b⟩
theorem Kq_ {tm0:T Value}{cops:List COp}{bef:List Nat}{j b:Nat}(hloc: ∀c∈cops,∀rho tm,Loc (Bt c.guard rho (c.run call round rho tm))):Loc (tryX call round tm0 cops bef j b):=by
 unfold tryX
 rw[Dx,Dx,E1]
 refine Au (Axm_ λc hc=>hloc c (List.mem_of_mem_take hc)) λq=> ?_
 have hd: ∀c∈cops.drop j,∀rho tm,Loc (Bt c.guard rho (c.run call round rho tm)):=λc hc=>hloc c (List.mem_of_mem_drop hc)
 generalize cops.drop j=l at hd
 match l,hd with
 |[],_=>exact As _
 |⟨g,d,k,f⟩::l,hd=>
  show Loc (AK call round [⟨g,d,k,f⟩] q.1 q.2)
  rw[GL]
  exact Au (hd ⟨g,d,k,f⟩ am _ _) λv=>As _
theorem AnS_ {α β:Type}{m:M α}{f:M β}{g:List PanicEntry->M β}(h:Loc m)(kf:Loc f)(kg: ∀c,Loc (g c)):
  Loc (λs=>R.rec (motive:=λ_=>R β) .none (λ_ s2=>f (Cj s s2)) (λc s2=>g c s2) (m s)):=⟨λs o s' e hb=>by
 cases e1:m s with
 |none=>rw[e1]at e;exact(AL e).elim
 |pan c s1=>
  rw[e1]at e
  have h1:=h.at' s (.inr c) s1 e1 hb
  exact h1.seq ((kg c).at' s1 o s' e h1.bnd) λt t1 q=>by rw[q];rfl
 |some a s2=>
  rw[e1]at e
  obtain⟨R1,W1,r1,w1,g1,i1,j1⟩:=h.at' s (.inl a) s2 e1 hb
  have hb2:Bnd (Cj s s2):=by
   obtain⟨mem,next,lim,rd,wr,cx⟩:=s
   obtain⟨mem2,next2,lim2,rd2,wr2,cx2⟩:=s2
   exact Nat.le_trans (show lim<=next from hb) g1.nxt
  obtain⟨R2,W2,r2,w2,g2,i2,j2⟩:=kf.at' (Cj s s2) o s' e hb2
  have ag: ∀t t2:St,Cj t t2=⟨t.mem,t2.next,t.lim,t2.rd,t2.wr,t.cx⟩:=λ_ _=>rfl
  have hn2:s2.next<=s'.next:=by have:=g2.nxt;rw[ag]at this;exact this
  refine⟨λl=>R1 l\/R2 l,λl=>W1 l\/W2 l,r2++r1,w2++w1,⟨?_, ?_,Nat.le_trans g1.nxt hn2,by have:=g2.lim;rw[ag]at this;exact this,g2.bnd,λl e=>e.elim (λe=>Nat.lt_of_lt_of_le (g1.rlt l e) hn2) (g2.rlt l),λl e=>e.elim (λe=>Nat.lt_of_lt_of_le (g1.wlt l e) hn2) (g2.wlt l),λl e=>by have:=g2.old l λx=>e (.inr x);rw[ag]at this;exact this,λt e1 e2 e3 e4=> ?_⟩,λl e x=> ?_,λl e x=> ?_⟩
  ·have:=g2.rd
   rw[ag]at this
   rw[this,g1.rd,List.append_assoc]
  ·have:=g2.wr
   rw[ag]at this
   rw[this,g1.wr,List.append_assoc]
  ·obtain⟨t2,q1,q2,q3,q4,q5,q6,q7,q8⟩:=g1.any t e1 e2 e3 λl e=>e4 l (e.elim (λe=> .inl (.inl e)) (λe=> .inr (.inl e)))
   obtain⟨t',p1,p2,p3,p4,p5,p6,p7,p8⟩:=g2.any (Cj t t2) (by rw[ag,ag];exact q2) (by rw[ag,ag];exact e2) (by rw[ag,ag];exact e3) (λl e=>by
    rw[ag,ag]
    exact e4 l (e.elim (λe=> .inl (.inr e)) (λe=> .inr (.inr e))))
   rw[ag]at p5 p6 p8
   refine⟨t',by rw[q1];exact p1,p2,p3,p4,by rw[p5];show r2++t2.rd=_;rw[q5,List.append_assoc],by rw[p6];show w2++t2.wr=_;rw[q6,List.append_assoc],λl e=> ?_,λl e=>p8 l λx=>e (.inr x)⟩
   by_cases hw:W2 l
   ·exact p7 l hw
   ·rw[p8 l hw]
    have:=g2.old l hw
    rw[ag]at this
    rw[this]
    exact e4 l (.inr e)
  ·rcases e with e|e
   ·exact List.mem_append_right _ (i1 l e x)
   ·exact List.mem_append_left _ (i2 l e (by rw[ag];exact x))
  ·rcases e with e|e
   ·exact List.mem_append_right _ (j1 l e x)
   ·exact List.mem_append_left _ (j2 l e (by rw[ag];exact x))⟩
theorem Ant_ {ops:Array Oper}{j b:Nat}(h:panJ ops.toList (Region.before ops).toList=some (j,b)):ops.size=j+2/\(Region.before ops)[j]?=some b/\Bf ops (j+1) j:=by
 unfold panJ at h
 rw[Array.length_toList]at h
 split at h
 ·rename_i o b1 b' e1 e2 e3
  cases hc:(WK o&&(Nat.ble (nat_lit 2) ops.size&&b1.testBit (Nat.pred (Nat.pred ops.size))))with
  |false=>rw[hc]at h;cases h
  |true=>
   rw[hc]at h
   rw[Bool.and_eq_true,Bool.and_eq_true]at hc
   have h2:2<=ops.size:=Nat.le_of_ble_eq_true hc.2.1
   have h':some (Nat.pred (Nat.pred ops.size),b')=some (j,b):=h
   injection h' with h'
   injection h' with h1 h3
   rw[Nat.pred_eq_sub_one,Nat.pred_eq_sub_one]at h1
   subst h3
   refine⟨J, ?_,b1, ?_, ?_⟩
   ·rw[<-Array.getElem?_toList,<-h1]
    exact e3
   ·rw[<-Array.getElem?_toList,show j+1=Nat.pred ops.size by rw[Nat.pred_eq_sub_one];omega]
    exact e2
   ·have:=hc.2.2
    rw[Nat.pred_eq_sub_one,Nat.pred_eq_sub_one,h1]at this
    exact this
 ·cases h
theorem Aen_ (he:EnvOK E)(c1:CallOK E call)(c2:RoundOK E round){af:AF}{fr:Frame}{cs:List Frame}{s s':St}{out:Out Step}{ops:Array Oper}{cops:List COp}{id m j b:Nat}{k:List Item}
  (hc:B1 E af.glob af.n ops.toList ops.toList []=some cops) (hd:E2 ops.toList (Region.before ops).toList=true) (hmn:m=C8 ops.size (Region.before ops).toList) (hj:panJ ops.toList (Region.before ops).toList=some (j,b)) (h:GW call round af cops (dstL ops.toList) (Region.before ops).toList m j b k s=rOf out s') (hF:FR E.P r af s.cx base fr cs) (hm:af.mode= .run) (htodo:af.todo= .code (.region id ops true)::k)
  (hr:Rel w0 r s.mem w) (hb:Bnd s) (hf:AU r s.next s'.next):
  ∃w' r',Goes w0 r s s' r' w'/\s'.lim=s.lim/\CL E.P r' base s'.cx fr (lone fr cs w) w' out:=by
 obtain⟨hlen,hcomp⟩:=Ht ops.toList [] cops hc
 have hn:cops.length=ops.size:=by rw[hlen];simp
 have hloc: ∀c∈cops,∀rho tm,Loc (Bt c.guard rho (c.run call round rho tm)):=by
  intro c hcm rho tm
  obtain⟨i,hi,rfl⟩:=List.getElem_of_mem hcm
  have hio:i<ops.toList.length:=by rw[<-hlen];exact hi
  obtain⟨g,f,p1,p2,p3,p4⟩:=hcomp i ops.toList[i] (List.getElem?_eq_getElem hio)
  rw[List.getElem?_eq_getElem hi]at p1
  rw[Option.some.inj p1]
  exact(Fy (ops:=ops) (i:=i) (keep:=BW ops.toList[i].dst af.glob) he.ty (by rw[<-Array.getElem?_toList];exact List.getElem?_eq_getElem hio) p2 p4).1 call round c1 c2 rho tm
 have hlt:=Kq_ (call:=call) (round:=round) (tm0:=af.tmps) (bef:=(Region.before ops).toList) (j:=j) (b:=b) hloc
 unfold GW at h
 cases e:tryX call round af.tmps cops (Region.before ops).toList j b s with
 |none=>rw[e]at h;exact(AL h).elim
 |some a s2=>
  rw[e]at h
  have ag:Cj s s2=⟨s.mem,s2.next,s.lim,s2.rd,s2.wr,s.cx⟩:=rfl
  have h1:=(hlt.at' s (.inl a) s2 e hb).next
  rw[Dx,E1]at h
  have h':Hn call round af (cops.take m) (cops.drop m) (Region.before ops).toList (dstL ops.toList) k (Cj s s2)=rOf out s':=h
  rw[ag]at h'
  obtain⟨w',r',k1,k2,k3⟩:=TP_ he c1 c2 (w0:=w0) (w:=w) (base:=base) hc hd hmn h' hF hm htodo hr (show s.lim<=s2.next from Nat.le_trans hb h1) (λb' x y=>hf b' (Nat.le_trans h1 x) y)
  have hx:s2.next<=s'.next:=k1.nxt
  refine⟨w',r',⟨k1.le,Nat.le_trans h1 hx,λb' x=> ?_,λb' x=> ?_,k1.rel⟩,k2,k3⟩
  ·rcases k1.domB b' x with x|x
   ·exact .inl x
   ·have x1:s2.next<=b':=x.1
    exact .inr ⟨Nat.le_trans h1 x1,x.2⟩
  ·rcases k1.domE b' x with x|x
   ·exact .inl x
   ·have x1:s2.next<=b':=x.1
    exact .inr ⟨Nat.le_trans h1 x1,x.2⟩
 |pan c s2=>
  rw[e]at h
  cases hro:af.roundOf with
  |some l=>rw[hro]at h;exact(AL h).elim
  |none=>
   rw[hro]at h
   obtain⟨rfl,rfl⟩:=Bh (show R.some (Step.go {af with mode:= .panicking c,tmps:=delT (dstL ops.toList) af.tmps}) s2=rOf out s' from h)
   obtain⟨jn,jb,jl⟩:=Ant_ hj
   have hjn:j<ops.size:=J
   obtain⟨g,f,p1,p2,p3,p4⟩:=hcomp j ops[j] (by rw[Array.getElem?_toList];exact Array.getElem?_eq_getElem hjn)
   have hds:dsAt ([]++ops.toList) (([]:List Oper).length+j)=dsAt ops.toList j:=am
   rw[hds]at p2 p3 p4
   unfold tryX at e
   rw[Dx,Dx,E1]at e
   have hcj:(cops.drop j).take 1=[⟨g,ops[j].dst,BW ops[j].dst af.glob,f⟩]:=by
    have h1:j<cops.length:=by rw[hn];exact hjn
    rw[List.drop_eq_getElem_cons h1]
    rw[List.getElem?_eq_getElem h1]at p1
    rw[Option.some.inj p1]
    rfl
   rw[hcj]at e
   obtain⟨q,sd,e1,e2⟩: ∃q sd,drawQ call round af.tmps (cops.take j) (Region.before ops).toList b s=rOf (.inl q) sd/\AK call round [⟨g,ops[j].dst,BW ops[j].dst af.glob,f⟩] q.1 q.2 sd=rOf (.inr c) s':=by
    rcases DJ (o:= .inr c) (s':=s') e with⟨q,sd,e1,e2⟩|⟨ch,e1,_⟩
    ·exact⟨q,sd,e1,e2⟩
    ·obtain⟨_,_,_,_,_,_,q3,_⟩:=Rp (out:= .inr ch) e1
     cases q3
   obtain⟨q',logs,s1,e3,hA,hA2,q3,q4⟩:=Rp e1
   cases q3
   obtain⟨x,t1,t2,t3,t4,t5,t6,t7⟩:=OM (cops.take j) [] [] af.tmps _ (.inl (q,logs)) s1 (λc hc=>hloc c (List.mem_of_mem_take hc)) rfl e3
   have hlm:(cops.take j).length=j:=by rw[List.length_take,hn];omega
   rw[hlm]at t6 t7
   cases t6
   have H:Pre E af.glob af.n ops call round cops x j:=by
    refine⟨λi o ho=> ?_,J,t1,t4,hd, ?_⟩
    ·have:=hcomp i o (by rw[Array.getElem?_toList];exact ho)
     simpa using this
    ·rw[t3]
     simpa using hA
   simp only at t2 t3
   have hsm:sd.mem=x.Mm j:=by rw[q4,t7]
   have hsn:sd.next=x.Nx j:=by rw[q4,t7]
   have hsdb:Bnd sd:=by
    show sd.lim<=sd.next
    rw[hsn,q4]
    exact Nat.le_trans hb (by rw[<-t3];exact H.nx (Nat.zero_le _) (Nat.le_refl _))
   rw[GL]at e2
   have e4:Bt g (x.Rh j) (f call round (x.Rh j) (x.Tm j)) sd=rOf (.inr c) s':=by
    rcases DJ e2 with⟨v,s3,z1,z2⟩|⟨ch,z1,z2⟩
    ·cases(show R.some (Dh ops[j].dst (BW ops[j].dst af.glob) v (x.Tm j)) s3= .pan c s' from z2)
    ·cases z2
     exact z1
   have free: ∀i,i<j-> ¬Bf ops j i-> ∀l,¬x.Wr i l:=by
    intro i hi hbf l hw
    have hli:(((List.range j).map x.log).reverse++[]).reverse[i]?=some (x.log i):=by
     rw[List.append_nil,List.reverse_reverse,List.getElem?_map,List.getElem?_range hi]
     rfl
    rcases LJ_ hA2 i _ hli with z|⟨z1,z2⟩
    ·rw[Nat.zero_add]at z
     exact hbf ⟨b,jb,z⟩
    ·obtain⟨_,_,_,_,_,_,_,tr,_⟩:=H.op hi
     have w1:l<x.Nx (i+1):=tr.run.wlt l hw
     have w2:x.Nx i=x.Nx (i+1):=z2
     have w3:=tr.iwr l hw J
     have w4:x.lw i=[]:=z1
     rw[w4]at w3
     cases w3
   have hstart:step E.P (lone fr cs w)= .next (lone (frm fr fr.tmps fr.defers (.inRegion ops (Region.linearise .any ops (w.tape w.drawn (.order fr.fn id)))::k)) cs w.drew):=by
    rw[hF.frm hm,htodo]
    have:=Y4 (P:=E.P) (b:=fr) (t:=fr.tmps) (d:=fr.defers) (k:=k) (cs:=cs) (w:=w) (ops:=ops) (id:=id)
    rw[he.mixed]at this
    have hsch:Region.schedule true ops (w.tape w.drawn (.order fr.fn id))=Region.linearise .any ops (w.tape w.drawn (.order fr.fn id)):=by simp[Region.schedule]
    rw[hsch]at this
    exact this
   obtain⟨t',w',r',dfs',cs',ch',td,z1,z2,z3,z4,z5,z6,z7,z8,z9⟩:=H.pan_ok (λq h1 h2=>by rw[show q=j+1 by omega];exact jl) free he.ty c1 c2 (w0:=w0) (w:=w.drew) (r:=r) (t:=fr.tmps) (base:=base) (by rw[t5];exact hF.tm) hF.size (by rw[t2];exact hr.drew) fr fr.defers cs k (Array.getElem?_eq_getElem hjn) p2 p4 hsm hsn hsdb
    (by rw[q4];exact hF.cx) (by rw[t3];exact hf) e4 (w.tape w.drawn (.order fr.fn id))
   rw[t3]at z3 z4
   have hlim:s'.lim=s.lim:=by
    have:=(hlt.at' s (.inr c) s' (by unfold tryX;rw[Dx,Dx,E1,hcj];exact e) hb).lim
    exact this
   have hnx:s.next<=s'.next:=(hlt.at' s (.inr c) s' (by unfold tryX;rw[Dx,Dx,E1,hcj];exact e) hb).next
   refine⟨w',r',⟨z1,hnx,z3,z4,z2⟩,hlim,{frm fr t' dfs' td with mode:= .panicking ch'},cs',rfl,⟨hF.fn,z7, ?_,(λe=>by cases e), .pan z6,hF.round.mono z1,hF.rk,hF.known,z5⟩, .head hstart z9⟩
   intro y v hy
   obtain⟨p1,p2⟩:=J2 hy
   obtain⟨p3,v',p4,p5⟩:=hF.tm y v p2
   exact⟨p3,v',by rw[show({frm fr t' dfs' td with mode:= .panicking ch'}:Frame).tmps=t' from rfl,z8 y p1];exact p4,p5.mono z1⟩
end
section
variable {E:Env}{call round:Ai}{w0 w:World}{r:Inj}{base:List Deferred×List Frame}
theorem D2 (af:AF)(k:List Item):Loc (goTo af k):=As _
theorem Ho_ (af:AF)(k:List Item)(tm:T Value):Loc (goTm af k tm):=As _
theorem GV (af:AF)(m:FrameMode)(tm:T Value):Loc (goMo af m tm):=As _
end
section
variable {E:Env}{call round:Ai}{w0 w:World}{r:Inj}{base:List Deferred×List Frame}
theorem Bj (call round:Ai)(af:AF)(k:List Item)(c:Code){f:DP}(h:Hi E af.glob af.n c= .mk f):codeF E call round af k c=f call round af k:=by
 obtain⟨fn,n,g,tm,todo,mo,ki,ro⟩:=af
 show Cl.rec (motive:=λ_=>M Step) (λf=>f call round (AF.mk fn n g tm todo mo ki ro) k) (Hi E g n c)=_
 rw[show Hi E g n c= .mk f from h]
theorem AlL_ (af:AF)(a b:Code)(k:List Item)(v:Value):Loc (GT af a b k v):=by
 cases v with
 |bool t=>cases t<;>exact D2 _ _
 |_=>exact Az
theorem AmY_ (l:Nat)(jump:Option Code):Loc (endR l jump):=by
 unfold endR
 refine Au (FT _) λc=> ?_
 cases c with
 |C a b=>exact Az
 |O o=>cases o<;>first|exact Az|exact Au (EL _ _) λ_=>As _
theorem Q4 (af:AF)(jump:Option Code):Loc (Fe af jump):=FP _ (Bk _ (GV _ _ _)) λl=>AmY_ l jump
theorem Uv_ (af:AF)(jump:Code)(k:Option (List Item)):Loc (E5 af jump k):=FP _ (Q4 _ _) λ_k=>D2 _ _
theorem Asl_ (he:EnvOK E)(c1:CallOK E call)(c2:RoundOK E round){af:AF}{ops:Array Oper}{cops:List COp}{F:RT}{ds:List Nat}{k:List Item}(hc:B1 E af.glob af.n ops.toList ops.toList []=some cops)(hF':fuse cops= .mk F):Loc (regF call round af ds F k):=by
 obtain⟨F2,q1,q2⟩:=Lf cops
 rw[hF']at q1
 cases q1
 have:regF call round af ds F k=λs=>R.rec (motive:=λ_=>R Step) .none (λtm s=>goTm af k tm s) (λc s=>Option.rec (motive:=λ_=>M Step) (Ft af ds c) (λ_=>aC) af.roundOf s) (AK call round cops [] af.tmps s):=by
  funext s
  unfold regF
  rw[q2]
  cases AK call round cops [] af.tmps s with
  |none=>rfl
  |some a s=>rfl
  |pan c s=>cases af.roundOf<;>rfl
 rw[this]
 refine H3 (f:=λtm=>goTm af k tm) (g:=λc=>Option.rec (motive:=λ_=>M Step) (Ft af ds c) (λ_=>aC) af.roundOf) ?_ (λtm=>Ho_ _ _ _) λc=>FP _ (GV _ _ _) λ_=>Az
 exact Ig he.ty c1 c2 ops.toList 0 [] cops hc (λj o hj=>by rw[Nat.zero_add];rw[Array.getElem?_toList]at hj;exact hj) [] af.tmps
theorem CE_ (he:EnvOK E)(c1:CallOK E call)(c2:RoundOK E round){af:AF}{ops:Array Oper}{cops:List COp}{bef ds:List Nat}{m:Nat}{k:List Item}(hc:B1 E af.glob af.n ops.toList ops.toList []=some cops)
  (hloc: ∀c∈cops,∀rho tm,Loc (Bt c.guard rho (c.run call round rho tm))):Loc (Hn call round af (cops.take m) (cops.drop m) bef ds k):=by
 refine Au (Zc_ λc hcm=>hloc c (List.mem_of_mem_take hcm)) λq=> ?_
 refine H3 (f:=λtm=>goTm af k tm) (g:=λc=>Option.rec (motive:=λ_=>M Step) (Ft af ds c) (λ_=>aC) af.roundOf) ?_ (λtm=>Ho_ _ _ _) λc=>FP _ (GV _ _ _) λ_=>Az
 exact Ig he.ty c1 c2 (ops.toList.drop m) m _ _ (Qs m ops.toList [] cops hc) (λj o hj=>by rw[List.getElem?_drop,Array.getElem?_toList]at hj;exact hj) _ _
theorem RH_ (g n:Nat)(ops:Array Oper)(d:Bool):(∃f,Ho E g n ops d= .mk f/\f=λ_ _ _ _=>aC)\/ ∃cops F,B1 E g n ops.toList ops.toList []=some cops/\fuse cops= .mk F/\
  ((d=false/\Ho E g n ops d= .mk λcall round fr k=>regF call round fr (dstL ops.toList) F k)\/(d=true/\E2 ops.toList (Region.before ops).toList=true/\ ∃m,m=C8 ops.size (Region.before ops).toList/\((Ho E g n ops d= .mk λcall round fr k=>Hn call round fr (cops.take m) (cops.drop m) (Region.before ops).toList (dstL ops.toList) k)\/ ∃j b,panJ ops.toList (Region.before ops).toList=some (j,b)/\Ho E g n ops d= .mk λcall round fr k=>GW call round fr cops (dstL ops.toList) (Region.before ops).toList m j b k))):=by
 unfold Ho
 cases e:B1 E g n ops.toList ops.toList []with
 |none=>exact .inl ⟨_,rfl,rfl⟩
 |some cops=>
  obtain⟨F,q1,_⟩:=Lf cops
  cases d with
  |false=>exact .inr ⟨cops,F,rfl,q1, .inl ⟨rfl,by simp only[q1]⟩⟩
  |true=>
   cases hd:E2 ops.toList (Region.before ops).toList with
   |false=>exact .inl ⟨_,rfl,rfl⟩
   |true=>
    refine .inr ⟨cops,F,rfl,q1, .inr ⟨rfl,rfl,_,rfl, ?_⟩⟩
    have hn:cops.length=ops.size:=by rw[(Ht ops.toList [] cops e).1];simp
    cases hp:panJ ops.toList (Region.before ops).toList with
    |none=>
     refine .inl ?_
     show Q2 cops (dstL ops.toList) (Region.before ops).toList (C8 cops.length (Region.before ops).toList)=_
     unfold Q2
     simp only[Dx,E1,hn]
    |some p=>
     refine .inr ⟨p.1,p.2,rfl, ?_⟩
     show Ru cops (dstL ops.toList) (Region.before ops).toList (C8 cops.length (Region.before ops).toList) p.1 p.2=_
     unfold Ru
     rw[hn]
theorem Wt_ (he:EnvOK E)(c1:CallOK E call)(c2:RoundOK E round){af:AF}{ops:Array Oper}{cops:List COp}{bef ds:List Nat}{m j b:Nat}{k:List Item}(hc:B1 E af.glob af.n ops.toList ops.toList []=some cops)
  (hloc: ∀c∈cops,∀rho tm,Loc (Bt c.guard rho (c.run call round rho tm))):Loc (GW call round af cops ds bef m j b k):=by
 unfold GW
 rw[Dx,E1]
 exact AnS_ (g:=λc=>Option.rec (motive:=λ_=>M Step) (Ft af ds c) (λ_=>aC) af.roundOf) (Kq_ hloc) (CE_ he c1 c2 hc hloc) λc=>FP _ (GV _ _ _) λ_=>Az
theorem Yq (he:EnvOK E)(c1:CallOK E call)(c2:RoundOK E round){g n:Nat}{ops:Array Oper}{cops:List COp}(hc:B1 E g n ops.toList ops.toList []=some cops): ∀c∈cops,∀rho tm,Loc (Bt c.guard rho (c.run call round rho tm)):=by
 obtain⟨hlen,hcomp⟩:=Ht ops.toList [] cops hc
 intro c hcm rho tm
 obtain⟨i,hi,rfl⟩:=List.getElem_of_mem hcm
 have hio:i<ops.toList.length:=by rw[<-hlen];exact hi
 obtain⟨g,f,p1,p2,p3,p4⟩:=hcomp i ops.toList[i] (List.getElem?_eq_getElem hio)
 rw[List.getElem?_eq_getElem hi]at p1
 rw[Option.some.inj p1]
 exact(Fy (ops:=ops) (i:=i) (keep:=BW ops.toList[i].dst _) he.ty (by rw[<-Array.getElem?_toList];exact List.getElem?_eq_getElem hio) p2 p4).1 call round c1 c2 rho tm
theorem AeN_ (he:EnvOK E)(c1:CallOK E call)(c2:RoundOK E round)(af:AF)(k:List Item)(c:Code):Loc (codeF E call round af k c):=by
 cases c with
 |skip=>rw[Bj (f:=λ_ _ fr k=>goTo fr k) call round af k _ rfl];exact D2 _ _
 |region id ops d=>
  rcases RH_ (E:=E) af.glob af.n ops d with⟨f,q1,rfl⟩|⟨cops,F,q1,q2,⟨rfl,q3⟩|⟨rfl,q4,m,hm0,q3|⟨j,b,qj,q3⟩⟩⟩
  ·rw[Bj call round af k (.region id ops d) q1];exact Az
  ·rw[Bj call round af k (.region id ops false) q3];exact Asl_ he c1 c2 q1 q2
  ·rw[Bj call round af k (.region id ops true) q3];exact CE_ he c1 c2 q1 (Yq he c1 c2 q1)
  ·rw[Bj call round af k (.region id ops true) q3];exact Wt_ he c1 c2 q1 (Yq he c1 c2 q1)
 |seq a b=>rw[Bj (f:=λ_ _ fr k=>goTo fr (.code a:: .code b::k)) call round af k _ rfl];exact D2 _ _
 |cond x a b=>
  obtain⟨g,h1,_⟩:=BD [] x
  rw[Bj (f:=λ_ _ fr k=>M.on (g [] fr.tmps) (GT fr a b k)) call round af k (.cond x a b) (by unfold Hi;simp only[h1])]
  exact BA _ λv=>AlL_ _ _ _ _ _
 |block id b=>rw[Bj (f:=λ_ _ fr k=>goTo fr (.code b:: .inBlock id::k)) call round af k _ rfl];exact D2 _ _
 |loop b=>rw[Bj (f:=λ_ _ fr k=>goTo fr (.code b:: .inLoop b::k)) call round af k _ rfl];exact D2 _ _
 |rangeFunc f ps as bd=>rw[Bj (f:=λ_ _ _ _=>aC) call round af k _ rfl];exact Az
 |exit id=>rw[Bj (f:=λ_ _ fr k=>E5 fr (.exit id) (exitTo id k)) call round af k _ rfl];exact Uv_ _ _ _
 |scope b=>rw[Bj (f:=λ_ _ fr k=>goTo fr (.code b:: .inScope b::k)) call round af k _ rfl];exact D2 _ _
 |label l=>rw[Bj (f:=λ_ _ fr k=>goTo fr k) call round af k _ rfl];exact D2 _ _
 |goto l=>rw[Bj (f:=λ_ _ fr k=>E5 fr (.goto l) (gotoIn l k)) call round af k _ rfl];exact Uv_ _ _ _
 |ret=>rw[Bj (f:=λ_ _ fr _=>Fe fr (some .ret)) call round af k _ rfl];exact Q4 _ _
 |refuse x=>rw[Bj (f:=λ_ _ _ _=>aC) call round af k _ rfl];exact Az
theorem AjG_ (he:EnvOK E)(c1:CallOK E call)(c2:RoundOK E round){af:AF}{fr:Frame}{cs:List Frame}{s s':St}{out:Out Step}{c:Code}{k:List Item}(h:codeF E call round af k c s=rOf out s')(hF:FR E.P r af s.cx base fr cs)(hm:af.mode= .run)(htodo:af.todo= .code c::k)
  (hr:Rel w0 r s.mem w) (hb:Bnd s) (hf:AU r s.next s'.next):
  ∃w' r',Goes w0 r s s' r' w'/\s'.lim=s.lim/\CL E.P r' base s'.cx fr (lone fr cs w) w' out:=by
 cases c with
 |skip=>rw[Bj (f:=λ_ _ fr k=>goTo fr k) call round af k _ rfl]at h;exact Dy h hF hm hr (by rw[htodo];exact NJ_)
 |region id ops d=>
  rcases RH_ (E:=E) af.glob af.n ops d with⟨f,q1,rfl⟩|⟨cops,F,q1,q2,⟨rfl,q3⟩|⟨rfl,q4,m,hm0,q3|⟨j,b,qj,q3⟩⟩⟩
  ·rw[Bj call round af k (.region id ops d) q1]at h;exact(AL h).elim
  ·rw[Bj call round af k (.region id ops false) q3]at h;exact Amk_ he c1 c2 q1 q2 h hF hm htodo hr hb hf
  ·rw[Bj call round af k (.region id ops true) q3]at h;exact TP_ he c1 c2 q1 q4 hm0 h hF hm htodo hr hb hf
  ·rw[Bj call round af k (.region id ops true) q3]at h;exact Aen_ he c1 c2 q1 q4 hm0 qj h hF hm htodo hr hb hf
 |seq a b=>rw[Bj (f:=λ_ _ fr k=>goTo fr (.code a:: .code b::k)) call round af k _ rfl]at h;exact Dy h hF hm hr (by rw[htodo];exact Wd)
 |cond x a b=>
  obtain⟨g,h1,h2⟩:=BD [] x
  rw[Bj (f:=λ_ _ fr k=>M.on (g [] fr.tmps) (GT fr a b k)) call round af k (.cond x a b) (by unfold Hi;simp only[h1])]at h
  obtain⟨v,e1,h⟩:=HO h
  have hv:VR r v (Act.eval ⟨fr.tmps,fr.defers⟩ x):=h2 _ _ _ _ ⟨fr.tmps,fr.defers⟩ _ hF.slots (λ_ _=>True.intro) e1
  cases v with
  |bool t=>
   have hx:Act.eval ⟨fr.tmps,fr.defers⟩ x= .bool t:=by
    generalize Act.eval ⟨fr.tmps,fr.defers⟩ x=y at hv
    cases hv;rfl
   cases t with
   |true=>exact Dy (k:= .code a::k) h hF hm hr (by rw[htodo];exact Yg hx)
   |false=>exact Dy (k:= .code b::k) h hF hm hr (by rw[htodo];exact Yg hx)
  |_=>exact(AL h).elim
 |block id b=>rw[Bj (f:=λ_ _ fr k=>goTo fr (.code b:: .inBlock id::k)) call round af k _ rfl]at h;exact Dy h hF hm hr (by rw[htodo];exact KM_)
 |loop b=>rw[Bj (f:=λ_ _ fr k=>goTo fr (.code b:: .inLoop b::k)) call round af k _ rfl]at h;exact Dy h hF hm hr (by rw[htodo];exact XO)
 |rangeFunc f ps as bd=>rw[Bj (f:=λ_ _ _ _=>aC) call round af k _ rfl]at h;exact(AL h).elim
 |exit id=>
  rw[Bj (f:=λ_ _ fr k=>E5 fr (.exit id) (exitTo id k)) call round af k _ rfl]at h
  exact JP_ h hF hm hr hF.csr (λk' e=>by rw[htodo];exact Hi_ e) λe=> .inl ⟨id,k,htodo,e,rfl⟩
 |scope b=>rw[Bj (f:=λ_ _ fr k=>goTo fr (.code b:: .inScope b::k)) call round af k _ rfl]at h;exact Dy h hF hm hr (by rw[htodo];exact UH_)
 |label l=>rw[Bj (f:=λ_ _ fr k=>goTo fr k) call round af k _ rfl]at h;exact Dy h hF hm hr (by rw[htodo];exact Em_)
 |goto l=>
  rw[Bj (f:=λ_ _ fr k=>E5 fr (.goto l) (gotoIn l k)) call round af k _ rfl]at h
  exact JP_ h hF hm hr hF.csr (λk' e=>by rw[htodo];exact XT_ e) λe=> .inr ⟨l,k,htodo,e,rfl⟩
 |ret=>rw[Bj (f:=λ_ _ fr _=>Fe fr (some .ret)) call round af k _ rfl]at h;exact QP h hF hm hr hF.csr (.inr (.inl ⟨k,htodo,rfl⟩))
 |refuse x=>rw[Bj (f:=λ_ _ _ _=>aC) call round af k _ rfl]at h;exact(AL h).elim
theorem Abm_ (he:EnvOK E)(c1:CallOK E call)(c2:RoundOK E round)(af:AF)(k:List Item)(x:Item):Loc (PN E call round af k x):=by
 cases x with
 |code c=>exact AeN_ he c1 c2 _ _ _
 |inBlock id=>exact D2 _ _
 |inLoop b=>exact D2 _ _
 |inScope b=>exact D2 _ _
 |_=>exact Az
theorem Aqc_ (he:EnvOK E)(c1:CallOK E call)(c2:RoundOK E round){af:AF}{fr:Frame}{cs:List Frame}{s s':St}{out:Out Step}{x:Item}{k:List Item}(h:PN E call round af k x s=rOf out s')(hF:FR E.P r af s.cx base fr cs)(hm:af.mode= .run)(htodo:af.todo=x::k)
  (hr:Rel w0 r s.mem w) (hb:Bnd s) (hf:AU r s.next s'.next):
  ∃w' r',Goes w0 r s s' r' w'/\s'.lim=s.lim/\CL E.P r' base s'.cx fr (lone fr cs w) w' out:=by
 cases x with
 |code c=>exact AjG_ he c1 c2 h hF hm htodo hr hb hf
 |inBlock id=>exact Dy (k:=k) h hF hm hr (by rw[htodo];exact Dx_)
 |inLoop b=>exact Dy (k:= .code b:: .inLoop b::k) h hF hm hr (by rw[htodo];exact CI_)
 |inScope b=>exact Dy (k:=k) h hF hm hr (by rw[htodo];exact Up)
 |_=>exact(AL h).elim
theorem Adh_ (tm:T Value)(x:ResultVar):Loc (resV E tm x):=by
 cases x with
 |tmp t=>exact Fg _
 |cell a t=>exact BA _ λa=>Au (JD _) λa=>XC _ _ _
theorem Gd_ (tm:T Value): ∀(l:List ResultVar),Loc (resL E tm l)
 |[]=>As _
 |x::l=>Au (Adh_ tm x) λ_v=>Au (Gd_ tm l) λ_l=>As _
def resM (t:Array Value)(x:ResultVar):Sem Value:=
 match x with
 | .tmp i=>pure (t.getD i undef)
 | .cell a ty=>do loadVar ty (<-asAddr (t.getD a undef))
theorem Ank_ (fn:Func)(t:Array Value):results fn t=(do let vs <-fn.results.mapM (resM t);pure (if h:vs.size=1 then vs[0]else .tuple vs)):=rfl
theorem App_ (he:EnvTy E){g:Nat}{tm:T Value}{t:Array Value}{x:ResultVar}{s s':St}{v:Value}(h:resV E tm x s= .some v s')(hT:TmR r g tm t)(hr:Rel w0 r s.mem w):
  ∃v',((resM t x).run E.P w= .ok v' w)/\VR r v v'/\Same s s':=by
 cases x with
 |tmp i=>
  obtain⟨h1,rfl⟩:=Ek h
  obtain⟨_,v',k1,k2⟩:=hT i v h1
  exact⟨v',by simp[resM,Array.getD_eq_getD_getElem?,k1],k2, .refl _⟩
 |cell a ty=>
  obtain⟨av,h1,h⟩:=Cw h
  obtain⟨ad,s1,h2,h3⟩:=bind_some h
  obtain⟨rfl,rfl⟩:=IV h2
  obtain⟨_,v',k1,k2⟩:=hT a _ h1
  obtain⟨ad',rfl,k3⟩:=k2.ptr_inv
  obtain⟨v',k4,k5,k6⟩:=DO_ he h3 hr k3
  refine⟨v', ?_,k5,k6⟩
  simp only[resM,Array.getD_eq_getD_getElem?,k1,Option.getD_some,Sem.run_bind,asAddr,Sem.run_pure,Result.andThen_ok,k4]
theorem Od_ (he:EnvTy E){g:Nat}{tm:T Value}{t:Array Value}(hT:TmR r g tm t): ∀(l:List ResultVar) {s s':St} {vs:List Value},resL E tm l s= .some vs s'->Rel w0 r s.mem w->
  ∃vs',(l.mapM (resM t)).run E.P w= .ok vs' w/\VRs r vs vs'/\Same s s'
 |[],s,s',vs,h,hr=>by
  obtain⟨rfl,rfl⟩:=Aq h
  exact⟨[],am, .nil, .refl _⟩
 |x::l,s,s',vs,h,hr=>by
  obtain⟨v,s1,h1,h⟩:=bind_some h
  obtain⟨ws,s2,h2,h⟩:=bind_some h
  obtain⟨rfl,rfl⟩:=Aq h
  obtain⟨v',k1,k2,k3⟩:=App_ he h1 hT hr
  obtain⟨ws',k4,k5,k6⟩:=Od_ he hT l h2 (by rw[k3.1];exact hr)
  refine⟨v'::ws', ?_, .cons k2 k5,k3.trans k6⟩
  rw[List.mapM_cons]
  simp only[Sem.run_bind,k1,Result.andThen_ok,k4,Sem.run_pure]
theorem WN_ (he:EnvTy E){g:Nat}{tm:T Value}{t:Array Value}{fn:Func}{s s':St}{v:Value}(h:AN_ E fn tm s= .some v s')(hT:TmR r g tm t)(hr:Rel w0 r s.mem w): ∃v',(results fn t).run E.P w= .ok v' w/\VR r v v'/\Same s s':=by
 obtain⟨vs,s1,h1,h⟩:=bind_some h
 obtain⟨rfl,rfl⟩:=Aq h
 obtain⟨vs',k1,k2,k3⟩:=Od_ he hT _ h1 hr
 have hm:(fn.results.mapM (resM t)).run E.P w= .ok vs'.toArray w:=by
  rw[Array.mapM_eq_mapM_toList,map_eq_pure_bind]
  simp only[Sem.run_bind,k1,Result.andThen_ok,Sem.run_pure]
 refine⟨tupV vs', ?_, ?_,k3⟩
 ·rw[Ank_]
  simp only[Sem.run_bind,hm,Result.andThen_ok,Sem.run_pure]
  congr 1
  unfold tupV
  cases vs' with
  |nil=>rfl
  |cons a l=>cases l<;>simp
 ·cases vs with
  |nil=>rw[k2.inv_nil];exact VRs.tuple .nil
  |cons a l=>
   obtain⟨a',l',rfl,q1,q2⟩:=k2.inv
   cases l with
   |nil=>rw[q2.inv_nil];exact q1
   |cons b m=>
    obtain⟨b',m',rfl,q3,q4⟩:=q2.inv
    exact VRs.tuple (.cons q1 (.cons q3 q4))
end
structure DeferOK (E:Env)(dcall:He):Prop where
 loc: ∀f args m,Loc (dcall f args m)
 ok: ∀{w0 w:World} {r:Inj} {f:Nat} {args args':List Value} {m m':FrameMode} {s:St} {out:Out (Option (List PanicEntry)×FrameMode)} {s':St},dcall f args m s=rOf out s'->Rel w0 r s.mem w->Bnd s->AU r s.next s'.next->VRs r args args'->MoR r m m'->
  (∀w,(callFunc f args'.toArray).run E.P w= .ok (.enter f args'.toArray) w)/\
  ∀c cs,c.mode=m'-> ∃w' r' p m2,out= .inl p/\Goes w0 r s s' r' w'/\s'.lim=s.lim/\s'.cx=s.cx/\MoR r' p.2 m2/\
   (match p.1 with
    |none=> ∃v',Steps E.P (lone (Frame.enter E.P f args'.toArray .deferred) (c::cs) w) (lone (Gw .deferred {c with mode:=m2} v') cs w')
    |some ch=> ∃ch',ChR r' ch ch'/\Steps E.P (lone (Frame.enter E.P f args'.toArray .deferred) (c::cs) w) (lone (({c with mode:=m2}:Frame).raise ch') cs w'))
theorem ChR.drop {r:Inj}{l l':List PanicEntry}(h:ChR r l l'):ChR r (l.dropWhile (!·.goexit)) (l'.dropWhile (!·.goexit)):=by
 induction h with
 |nil=>exact .nil
 | @cons e e' l l' a b c d ih=>
  rw[List.dropWhile_cons,List.dropWhile_cons,c]
  cases e.goexit with
  |true=>simp;exact .cons a b c d
  |false=>simp;exact ih
theorem AvY_ {r:Inj}{m m2:FrameMode}(h:MoR r m m2)(c:Frame)(v:Value): ∃m3,Gw .deferred {c with mode:=m2} v={c with mode:=m3}/\MoR r (EI m) m3:=by
 cases h with
 |run=>exact⟨.run,rfl, .run⟩
 |ret=>exact⟨.returning,rfl, .ret⟩
 |pan hc=>
  cases hc with
  |nil=>exact⟨.panicking [],rfl, .pan .nil⟩
  | @cons e e' l l' a b cc d=>
   obtain⟨ev,er,eg⟩:=e
   obtain⟨ev',er',eg'⟩:=e'
   simp only at b cc a
   subst b
   cases er' with
   |false=>exact⟨.panicking (⟨ev',false,eg'⟩::l'),rfl, .pan (.cons a rfl cc d)⟩
   |true=>
    have hd:=d.drop
    simp only[Gw,EI]
    generalize l.dropWhile (!·.goexit)=x at hd
    generalize l'.dropWhile (!·.goexit)=y at hd
    cases hd with
    |nil=>exact⟨.returning,rfl, .ret⟩
    |cons a b c d=>exact⟨_,rfl, .pan (.cons a b c d)⟩
theorem AcV_ {r:Inj}{m m2:FrameMode}(h:MoR r m m2){ch ch':List PanicEntry}(hc:ChR r ch ch')(c:Frame): ∃m3,({c with mode:=m2}:Frame).raise ch'={c with mode:=m3}/\MoR r (HY m ch) m3:=by
 cases h with
 |run=>exact⟨_,rfl, .pan hc⟩
 |ret=>exact⟨_,rfl, .pan hc⟩
 |pan hd=>exact⟨_,rfl, .pan (hc.append hd)⟩
theorem DfsR.inv_nil {r:Inj}{l:List Deferred}(h:DfsR r [] l):l=[]:=by cases h;rfl
section
variable {E:Env}{call round:Ai}{dcall:He}{w0 w:World}{r:Inj}{base:List Deferred×List Frame}
theorem Aqk_ (af:AF)(up:Option FrameMode):Loc (outF E af up):=by
 unfold outF
 cases af.mode with
 |run=>exact Az
 |returning=>exact BA _ λfn=>Au (Au (Gd_ _ _) λl=>As _) λv=>As _
 |panicking c=>exact QN _
theorem SV_ (tm:T Value): ∀(l:List ResultVar),NoPan (resL E tm l)
 |[]=>AG _
 |x::l=>by
  refine AC ?_ λv=>AC (SV_ tm l) λl=>AG _
  cases x with
  |tmp t=>exact Fs _
  |cell a t=>exact B2 _ λa=>AC (KY _) λa=>RJ_ _ _ _
theorem ApX_ (c3:DeferOK E dcall)(af:AF)(d:Deferred):Loc (runD dcall af d):=by
 unfold runD
 split
 ·refine Au (FT _) λc=> ?_
  split
  ·exact Au (EL _ _) λ_=>As _
  ·exact Az
 ·refine Au (c3.loc _ _ _) λp=> ?_
  unfold GN
  cases p.1 with
  |none=>simp only;split<;>first|exact Az|exact GV _ _ _
  |some c=>exact GV _ _ _
 ·exact Az
theorem AuD_ (c3:DeferOK E dcall)(af:AF):Loc (Dw E dcall af):=by
 unfold Dw
 refine Au IL λcx=> ?_
 cases cx with
 |no=>exact Az
 |cx up d=>
  cases d with
  |none=>exact Az
  |some d=>
   cases d with
   |nil=>exact Aqk_ _ _
   |cons d ds=>exact Id_ (Au (PP _) λ_=>ApX_ c3 _ _)
theorem SL (af:AF)(hm:af.mode= .run):D4 E call round dcall af=noP (Fd E call round {af with todo:=skim 64 af.todo} (skim 64 af.todo)):=by
 obtain⟨fn,n,g,tm,todo,mo,ki,ro⟩:=af
 simp only at hm
 subst hm
 rfl
theorem XR (af:AF)(hm:af.mode≠ .run):D4 E call round dcall af=Dw E dcall af:=by
 obtain⟨fn,n,g,tm,todo,mo,ki,ro⟩:=af
 simp only at hm
 cases mo with
 |run=>exact absurd rfl hm
 |returning=>rfl
 |panicking c=>rfl
theorem Ap_ (he:EnvOK E)(c1:CallOK E call)(c2:RoundOK E round)(c3:DeferOK E dcall)(af:AF):Loc (D4 E call round dcall af):=by
 by_cases hm:af.mode= .run
 ·rw[SL af hm]
  refine Id_ ?_
  generalize skim 64 af.todo=l
  cases l with
  |nil=>exact Q4 _ _
  |cons x k=>exact Abm_ he c1 c2 _ _ _
 ·rw[XR af hm];exact AuD_ c3 _
theorem Acl_ (he:EnvOK E)(c3:DeferOK E dcall){af:AF}{fr:Frame}{cs:List Frame}{s s':St}{out:Out Step}(h:Dw E dcall af s=rOf out s')(hF:FR E.P r af s.cx base fr cs)(hm:af.mode≠ .run)(hr:Rel w0 r s.mem w)(hb:Bnd s)(hf:AU r s.next s'.next):
  ∃w' r',Goes w0 r s s' r' w'/\s'.lim=s.lim/\CL E.P r' base s'.cx fr (lone fr cs w) w' out:=by
 unfold Dw at h
 rw[Qg]at h
 have hmode:fr.mode≠ .run:=by
  have:=hF.mode
  intro hx
  rw[hx]at this
  generalize af.mode=m at this hm
  cases this
  exact hm rfl
 have hunw: ∀{w:World} {dd:List Deferred},stepG E.P true {frame:={fr with defers:=dd},callers:=cs,status:= .running,dying:=none} w=unwind E.P true {fr with defers:=dd} cs none w:=by
  intro w dd
  have:({fr with defers:=dd}:Frame).mode=fr.mode:=rfl
  cases hx:fr.mode with
  |run=>exact absurd hx hmode
  |returning=>simp[stepG]
  |panicking c=>simp[stepG]
 have hfr:fr={fr with defers:=fr.defers}:=rfl
 have hc:=hF.cx
 cases hcx:s.cx with
 |no=>rw[hcx]at h;exact(AL h).elim
 |cx up d=>
  rw[hcx]at hc h
  cases d with
  |none=>exact(AL h).elim
  |some d=>
   obtain⟨q1,q2,q3⟩:=hc
   obtain⟨fn0,hfn0⟩:=hF.known q2
   cases d with
   |nil=>
    have hd0:=q3.inv_nil
    have hends: ∀{s1:St} {o:Out (Value×FrameMode)},s1.cx=s.cx->(∀v u,o= .inl (v,u)->u=up.getD .run)->((fr.kind= .normal/\cs=base.2)\/ ∃u c0 rest m',s1.cx= .cx (some u) (some [])/\fr.kind= .deferred/\base.2=c0::rest/\cs={c0 with mode:=m'}::rest/\MoR r u m'/\ ∀v up,o= .inl (v,up)->up=u):=by
     intro s1 o e1 e2
     cases up with
     |none=>exact .inl q1
     |some m=>
      obtain⟨p1,c0,rest,m',p2,p3,p4⟩:=q1
      exact .inr ⟨m,c0,rest,m',by rw[e1,hcx],p1,p2,p3,p4,λv u e=>e2 v u e⟩
    replace h:outF E af up s=rOf out s':=h
    unfold outF at h
    have hMo:=hF.mode
    cases hmo:af.mode with
    |run=>exact absurd hmo hm
    |returning=>
     rw[hmo]at h hMo
     obtain⟨fn,e1,h⟩:=HO h
     rcases DJ h with⟨v,s1,e2,e3⟩|⟨c,e2,_⟩
     ·obtain⟨rfl,rfl⟩:=Bh (show R.some (Step.fin v (up.getD .run)) s1=rOf out s' from e3)
      obtain⟨v',k1,k2,k3⟩:=WN_ he.ty e2 hF.tm hr
      have hfmode:fr.mode= .returning:=by cases hx:fr.mode<;>rw[hx]at hMo<;>cases hMo
      have hfuncs:E.P.funcs[fr.fn]?=some fn:=by rw[hF.fn];exact(he.fn _ _ e1).1
      refine⟨w,r, .same k3 hr,k3.2.2.1,cs,hends k3.2.2.2 (λv u e=>by cases e;rfl),v',k2,λc rest hcs=> .one (step_lone_go ?_),λ_ hk=>⟨fr,rfl,⟨hfmode,hd0,hk,fn,hfuncs,k1⟩, .refl _ _⟩⟩
      subst hcs
      have hkind:fr.kind= .normal\/fr.kind= .deferred:=by
       cases up with
       |none=>exact .inl q1.1
       |some m=>exact .inr q1.1
      have h0:=hunw (w:=w) (dd:=fr.defers)
      rw[<-hfr]at h0
      rw[h0]
      rcases hkind with hk|hk
      ·simp only[unwind,hd0,hfmode,hfuncs,Sem.runT_eq,k1,GStep.bare_after,doReturn,hk,Gw]
       rfl
      ·simp only[unwind,hd0,hfmode,hfuncs,Sem.runT_eq,k1,GStep.bare_after,doReturn,hk,Gw]
       rfl
     ·exact((AC (SV_ _ _) λl=>AG _).no _ _ _ e2).elim
    |panicking c=>
     rw[hmo]at h hMo
     obtain⟨rfl,rfl⟩:=HU (show R.pan c s=rOf out s' from h)
     generalize hfm:fr.mode=fm at hMo
     cases hMo with
     | @pan _ c' hch=>
      refine⟨w,r, .of_rel rfl hr,rfl,cs,hends rfl (λv u e=>by cases e),c',hch,λc1 rest hcs=> .one (step_lone_go ?_)⟩
      subst hcs
      have h0:=hunw (w:=w) (dd:=fr.defers)
      rw[<-hfr]at h0
      rw[h0]
      have hcat: ∀g:Frame,g.fn=fr.fn->g.catches E.P=false:=by intro g hg;unfold Frame.catches;rw[hg,hfn0]
      simp only[unwind,hd0,hfm]
      rw[if_neg (by have:=hcat ⟨fr.fn,fr.tmps,fr.todo,[], .panicking c',fr.kind,fr.roundOf⟩ rfl;rw[this];simp)]
      rfl
   |cons d ds=>
    replace h:noP (M.bind (DT (.cx up (some ds))) λ_=>runD dcall af d) s=rOf out s':=h
    obtain⟨p,hout,h'⟩:=Tx_ h
    clear h
    subst hout
    have h:=h'
    clear h'
    rw[Zd_]at h
    generalize hdd:fr.defers=dd at q3
    cases q3 with
    | @cons _ d' _ ds' k1 k2=>
     have hc':CxR r base (.cx up (some ds)) fr ds' cs:=⟨q1,q2,k2⟩
     have h0:=hunw (w:=w) (dd:=d'::ds')
     have hfr':({fr with defers:=d'::ds'}:Frame)=fr:=by rw[<-hdd]
     rw[hfr']at h0
     have hF2: ∀{r':Inj} {m:FrameMode} {m3:FrameMode} {cx:Ctx},r.le r'->m≠ .run->MoR r' m m3->cx= .cx up (some ds)->FR E.P r' {af with mode:=m} cx base {fr with defers:=ds',mode:=m3} cs:=by
      intro r' m m3 cx hle hne hmo hcx
      refine⟨hF.fn,hF.size,hF.tm.mono hle,λe=>absurd e hne,hmo,hF.round.mono hle,hF.rk,hF.known, ?_⟩
      rw[hcx]
      exact hc'.mono hle
     cases k1 with
     | @coll bb bb' o hbb=>
      replace h:M.bind (rdC bb) (λc=>(match c with| .O (.deferred (some []))=>M.bind (wrC bb (.O (.deferred none))) λ_=>M.pure (Step.go af)|_=>aC)) ⟨s.mem,s.next,s.lim,s.rd,s.wr, .cx up (some ds)⟩= .some p s':=h
      obtain⟨c,s1,e1,e2⟩:=bind_some h
      obtain⟨z1,z2⟩:=F7 e1
      have fin:c= .O (.deferred (some [])):=by
       cases c with
       |C a b=>cases e2
       |O o=>
        cases o with
        |deferred l=>
         cases l with
         |none=>cases e2
         |some l=>cases l with
          |nil=>rfl
          |cons=>cases e2
        |_=>cases e2
      subst fin
      obtain⟨u,s2,e3,e4⟩:=bind_some e2
      obtain⟨rfl,rfl⟩:=Aq e4
      obtain⟨b2,d2,o',y1,y2,y3⟩:=hr.obj _ _ z1 rfl
      rw[hbb]at y1
      cases y1
      have ho':o'= .deferred (some []):=by
       unfold OR at y3
       cases o' with
       |deferred l=>
        cases l with
        |none=>exact y3.elim
        |some l=>cases l with
         |nil=>rfl
         |cons=>exact y3.elim
       |_=>exact y3.elim
      subst ho'
      obtain⟨x1,x2,x3⟩:=CU_ (o2':= .deferred none) e3 (by rw[z2.1];exact hr) (by rw[z2.1];exact z1) rfl hbb (by simp[OR]) rfl
      have hgo:Goes w0 r s s2 r (World.setO w bb' (.deferred none)):=⟨x1.le,by rw[<-show(⟨s.mem,s.next,s.lim,s.rd,s.wr, .cx up (some ds)⟩:St).next=s.next from rfl,<-z2.2.1];exact x1.nxt,λb hb=>by
       have:=x1.domB b hb;rw[z2.2.1]at this;exact this,λb hb=>by have:=x1.domE b hb;rw[z2.2.1]at this;exact this,x1.rel⟩
      refine⟨_,r,hgo,x2.trans z2.2.2.1,{fr with defers:=ds',mode:=fr.mode},cs,rfl,hF2 (m:=af.mode) (Inj.le_refl r) hm hF.mode (x3.trans z2.2.2.2), .one (step_lone_go ?_)⟩
      rw[h0]
      have hrun:(Instr.takeDeferred bb').run E.P w= .ok [] (World.setO w bb' (.deferred none)):=by
       simp[Instr.takeDeferred,getObj,setObj,Sem.run,y2,World.setO]
      simp only[unwind,hdd,Sem.runT_eq,hrun,GStep.bare_after]
      rfl
     | @fn f f' cc cc' aa aa' j1 j2 j3=>
      cases f with
      |func f=>
       cases f' with
       |func f'=>
        simp only[FnR]at j1
        subst j1
        replace h:M.bind (dcall f (aa.toList++cc.toList) af.mode) (GN af) ⟨s.mem,s.next,s.lim,s.rd,s.wr, .cx up (some ds)⟩= .some p s':=h
        obtain⟨p1,s1,e1,e2⟩:=bind_some h
        have hnx:s'.next=s1.next/\s'.lim=s1.lim/\s'.cx=s1.cx/\s'.mem=s1.mem/\p= .go {af with mode:=match p1.1 with|none=>EI p1.2|some c=>HY p1.2 c}/\(p1.1=none->EI p1.2≠ .run):=by
         unfold GN at e2
         cases hp:p1.1 with
         |none=>
          rw[hp]at e2
          simp only at e2
          cases hD:EI p1.2 with
          |run=>rw[hD]at e2;cases e2
          |returning=>rw[hD]at e2;cases e2;exact⟨rfl,rfl,rfl,rfl,rfl,λ_ h=>by cases h⟩
          |panicking c=>rw[hD]at e2;cases e2;exact⟨rfl,rfl,rfl,rfl,rfl,λ_ h=>by cases h⟩
         |some c=>rw[hp]at e2;cases e2;exact⟨rfl,rfl,rfl,rfl,rfl,λh=>by cases h⟩
        obtain⟨n1,n2,n3,n4,rfl,n5⟩:=hnx
        obtain⟨i1,i2⟩:=c3.ok (out:= .inl p1) (args':=aa'.toList++cc'.toList) e1 hr hb (by rw[<-n1];exact hf) (j3.append j2) hF.mode
        obtain⟨w',r',p',m2,a1,a2,a3,a4,a5,a6⟩:=i2 {fr with defers:=ds'} cs rfl
        cases a1
        have hgo:Goes w0 r s s' r' w':=⟨a2.le,by rw[n1];exact a2.nxt,λb hb=>by rw[n1];exact a2.domB b hb,λb hb=>by rw[n1];exact a2.domE b hb,by rw[n4];exact a2.rel⟩
        have henter:step E.P (lone fr cs w)= .next (lone (Frame.enter E.P f (aa'.toList++cc'.toList).toArray .deferred) ({fr with defers:=ds'}::cs) w):=by
         refine step_lone_go ?_
         rw[h0]
         have e0:aa'++cc'=(aa'.toList++cc'.toList).toArray:=by apply Array.toList_inj.1;simp
         have hrun:(invoke (.fn (.func f) cc') aa').run E.P w= .ok (.enter f (aa'.toList++cc'.toList).toArray) w:=by
          simp only[invoke,e0,i1]
         simp only[unwind,hdd,callDeferred,Sem.runT_eq,hrun]
         rfl
        cases hp:p1.1 with
        |none=>
         rw[hp]at a6
         obtain⟨v',a6⟩:=a6
         obtain⟨m3,t1,t2⟩:=AvY_ a5 {fr with defers:=ds'} v'
         rw[t1]at a6
         have hne:EI p1.2≠ .run:=n5 hp
         exact⟨w',r',hgo,by rw[n2];exact a3,{fr with defers:=ds',mode:=m3},cs,rfl,hF2 a2.le hne t2 (n3.trans a4), .head henter a6⟩
        |some ch=>
         rw[hp]at a6
         obtain⟨ch',a6,a7⟩:=a6
         obtain⟨m3,t1,t2⟩:=AcV_ a5 a6 {fr with defers:=ds'}
         rw[t1]at a7
         have hne:HY p1.2 ch≠ .run:=by
          unfold HY
          cases p1.2<;>(intro h;cases h)
         exact⟨w',r',hgo,by rw[n2];exact a3,{fr with defers:=ds',mode:=m3},cs,rfl,hF2 a2.le hne t2 (n3.trans a4), .head henter a7⟩
       |_=>simp only[FnR]at j1
      |_=>cases h
end
section
variable {E:Env}{call round:Ai}{dcall:He}{w0 w:World}{r:Inj}{base:List Deferred×List Frame}
theorem FinE.head {P:Program}{cx':Ctx}{fr fr0:Frame}(hk:Kin fr0 fr){m m1:Machine}{w':World}{out:Out (Value×FrameMode)}(hs:Steps P m m1)(h:FinE P r base cx' fr m1 w' out):FinE P r base cx' fr0 m w' out:=by
 obtain⟨cs',h1,h2⟩:=h
 unfold Kin at hk
 simp only[Prod.mk.injEq]at hk
 obtain⟨e1,e2,e3⟩:=hk
 rw[e1]at h1
 refine⟨cs',h1, ?_⟩
 cases out with
 |inl p=>
  obtain⟨v',q1,q2,q3⟩:=h2
  rw[e1,e2,e3]at *
  exact⟨v',q1,λc rest e=>hs.trans (q2 c rest e),λa b=>let ⟨fr',x,y,z⟩:=q3 a b;⟨fr',x,y,hs.trans z⟩⟩
 |inr ch=>obtain⟨ch',q1,q2⟩:=h2;exact⟨ch',q1,λc rest e=>hs.trans (q2 c rest e)⟩
theorem CL.head {P:Program}{cx':Ctx}{fr fr0:Frame}(hk:Kin fr0 fr){m m1:Machine}{w':World}{out:Out Step}(hs:Steps P m m1)(h:CL P r base cx' fr m1 w' out):CL P r base cx' fr0 m w' out:=by
 cases out with
 |inr ch=>exact FinE.head hk hs h
 |inl p=>
  cases p with
  |fin v up=>exact FinE.head hk hs h
  |go af'=>
   obtain⟨fr',cs',q1,q2,q3⟩:=h
   exact⟨fr',cs',q1.trans hk,q2,hs.trans q3⟩
theorem FQ_ (he:EnvOK E)(c1:CallOK E call)(c2:RoundOK E round)(c3:DeferOK E dcall){af:AF}{fr:Frame}{cs:List Frame}{s s':St}{out:Out Step}(h:D4 E call round dcall af s=rOf out s')(hF:FR E.P r af s.cx base fr cs)
  (hr:Rel w0 r s.mem w) (hb:Bnd s) (hf:AU r s.next s'.next):
  ∃w' r',Goes w0 r s s' r' w'/\s'.lim=s.lim/\CL E.P r' base s'.cx fr (lone fr cs w) w' out:=by
 by_cases hm:af.mode= .run
 ·rw[SL af hm]at h
  obtain⟨p,hout,h'⟩:=Tx_ h
  clear h
  subst hout
  have h:=h'
  clear h'
  have hsk:=DS (P:=E.P) (b:=fr) (t:=fr.tmps) (d:=fr.defers) (cs:=cs) (w:=w) 64 af.todo
  rw[<-hF.frm hm]at hsk
  have hF':=hF.to (skim 64 af.todo)
  rw[<-hm]at hF'
  have fin: ∃w' r',Goes w0 r s s' r' w'/\s'.lim=s.lim/\CL E.P r' base s'.cx (frm fr fr.tmps fr.defers (skim 64 af.todo)) (lone (frm fr fr.tmps fr.defers (skim 64 af.todo)) cs w) w' (.inl p):=by
   cases ht:skim 64 af.todo with
   |nil=>rw[ht]at h hF';exact QP (out:= .inl p) h hF' hm hr hF'.csr (.inl ⟨rfl,rfl⟩)
   |cons x k=>rw[ht]at h hF';exact Aqc_ (out:= .inl p) he c1 c2 h hF' hm rfl hr hb hf
  obtain⟨w',r',k1,k2,k3⟩:=fin
  exact⟨w',r',k1,k2,k3.head rfl hsk⟩
 ·rw[XR af hm]at h
  exact Acl_ he c3 h hF hm hr hb hf
structure RunOK (E:Env)(run:AF->M (Value×FrameMode)):Prop where
 loc: ∀af,Loc (run af)
 ok: ∀{w0 w:World} {r:Inj} {base:List Deferred×List Frame} {af:AF} {fr:Frame} {cs:List Frame} {s:St} {out:Out (Value×FrameMode)} {s':St},run af s=rOf out s'->FR E.P r af s.cx base fr cs->Rel w0 r s.mem w->Bnd s->AU r s.next s'.next->
  ∃w' r',Goes w0 r s s' r' w'/\s'.lim=s.lim/\FinE E.P r' base s'.cx fr (lone fr cs w) w' out
theorem U2 {g:Nat}{y:Nat}{v:Value}: ∀{l:List Value} {i:Nat} {t:T Value},T.get (BM g l i t) y=some v->(∃j,y=i+j/\l[j]?=some v/\Nat.testBit g y=true)\/T.get t y=some v
 |[],_,_,h=> .inr h
 |a::l,i,t,h=>by
  replace h:T.get (BM g l (Nat.succ i) (putG g i a t)) y=some v:=h
  rcases U2 h with⟨j,h1,h2,h3⟩|h
  ·exact .inl ⟨j+1,J,by simpa using h2,h3⟩
  ·unfold putG at h
   cases hb:Nat.testBit g i with
   |false=>rw[hb]at h;exact .inr h
   |true=>
    rw[hb]at h
    simp only[T.get_set]at h
    split at h
    ·rename_i hy
     cases h
     exact .inl ⟨0,hy,rfl,by rw[hy];exact hb⟩
    ·exact .inr h
theorem KX_ {f:Nat}{args:List Value}{kind:CallKind}{s s':St}{af:AF}(h:B8 E f args kind s= .some af s'):s=s'/\ ∃fn c,E.fn.get f=some fn/\fn.body=some c/\args.length<=fn.ntmps/\
  af={fn:=f,n:=fn.ntmps,glob:=Ao fn,tmps:=BM (Ao fn) args 0 .E,todo:=[.code c],mode:= .run,kind,roundOf:=none}:=by
 unfold B8 at h
 obtain⟨fn,h1,h⟩:=Cw h
 obtain⟨c,h2,h⟩:=Cw h
 obtain⟨h3,h⟩:=Bw h
 rw[AB,AB]at h
 obtain⟨rfl,rfl⟩:=Aq h
 exact⟨rfl,fn,c,h1,h2,Nat.le_of_ble_eq_true h3,rfl⟩
theorem Rl_ (f:Nat)(args:List Value)(kind:CallKind):Loc (B8 E f args kind):=BA _ λ_fn=>BA _ λ_c=>Bk _ (E3 _ λ_n=>E3 _ λ_g=>As _)
theorem Io (f:Nat)(args:List Value)(kind:CallKind):NoPan (B8 E f args kind):=B2 _ λ_fn=>B2 _ λ_c=>BB _ (E6 _ λ_n=>E6 _ λ_g=>AG _)
theorem Lj (he:EnvOK E){f:Nat}{args args':List Value}{kind:CallKind}{s s':St}{af:AF}(h:B8 E f args kind s= .some af s')(ha:VRs r args args'){cx:Ctx}{cs:List Frame}(hcx:CxR r base cx (Frame.enter E.P f args'.toArray kind) [] cs):
  (∀w,(callFunc f args'.toArray).run E.P w= .ok (.enter f args'.toArray) w)/\FR E.P r af cx base (Frame.enter E.P f args'.toArray kind) cs/\s=s':=by
 obtain⟨rfl,fn,c,h1,h2,h3,rfl⟩:=KX_ h
 obtain⟨k1,k2⟩:=he.fn f fn h1
 refine⟨λw=> ?_,⟨rfl, ?_, ?_,λ_=> ?_, .run,True.intro,λe=>absurd rfl e,λ_=>⟨fn,k1⟩,hcx⟩,rfl⟩
 ·unfold callFunc
  simp[Sem.run,program,k1,k2,h2]
 ·simp only[Frame.enter,k1,Option.map_some,Option.getD_some,Array.size_append,List.size_toArray,Array.size_replicate]
  have:=ha.1
  omega
 ·intro y v e
  rcases U2 e with⟨j,e1,e2,e3⟩|e
  ·obtain⟨v',q1,q2⟩:=ha.get e2
   refine⟨e3,v', ?_,q2⟩
   rw[Nat.zero_add]at e1
   subst e1
   simp only[Frame.enter]
   rw[Array.getElem?_append_left (by simpa using(List.getElem?_eq_some_iff.1 q1).1)]
   simpa using q1
  ·cases e
 ·simp[Frame.enter,k1,h2]
theorem MP_ {α:Type}(c:Ctx)(m:M α)(s:St):within c m s=match m ⟨s.mem,s.next,s.lim,s.rd,s.wr,c⟩with
  | .none=> .none
  | .some a s1=> .some a ⟨s1.mem,s1.next,s1.lim,s1.rd,s1.wr,s.cx⟩
  | .pan p s1=> .pan p ⟨s1.mem,s1.next,s1.lim,s1.rd,s1.wr,s.cx⟩:=by
 obtain⟨mem,next,lim,rd,wr,cx⟩:=s
 unfold within
 simp only
 cases m ⟨mem,next,lim,rd,wr,c⟩<;>rfl
theorem GC {α:Type}{c:Ctx}{m:M α}{s s':St}{o:Out α}(h:within c m s=rOf o s'): ∃s1,m ⟨s.mem,s.next,s.lim,s.rd,s.wr,c⟩=rOf o s1/\s'=⟨s1.mem,s1.next,s1.lim,s1.rd,s1.wr,s.cx⟩:=by
 rw[MP_]at h
 cases e:m ⟨s.mem,s.next,s.lim,s.rd,s.wr,c⟩with
 |none=>rw[e]at h;exact(AL h).elim
 |some a s1=>rw[e]at h;obtain⟨rfl,rfl⟩:=Bh h;exact⟨s1,rfl,rfl⟩
 |pan p s1=>rw[e]at h;obtain⟨rfl,rfl⟩:=HU h;exact⟨s1,rfl,rfl⟩
theorem SP_ {α:Type}(c:Ctx){m:M α}(h:Loc m):Loc (within c m):=⟨λs o s' e hb=>by
 obtain⟨s1,e1,rfl⟩:=GC e
 obtain⟨Rd,Wr,dr,dw,g,i1,i2⟩:=h.at' _ o s1 e1 hb
 refine⟨Rd,Wr,dr,dw,⟨g.rd,g.wr,g.nxt,g.lim,g.bnd,g.rlt,g.wlt,g.old,λt e1 e2 e3 e4=> ?_⟩,i1,i2⟩
 obtain⟨t',q1,q2,q3,q4,q5,q6,q7,q8⟩:=g.any ⟨t.mem,t.next,t.lim,t.rd,t.wr,c⟩ e1 e2 rfl e4
 refine⟨⟨t'.mem,t'.next,t'.lim,t'.rd,t'.wr,t.cx⟩, ?_,q2,q3,e3,q5,q6,q7,q8⟩
 rw[MP_,q1]
 cases o<;>rfl⟩
theorem KG {run:AF->M (Value×FrameMode)}{m:M AF}(hm:NoPan m){s s':St}{out:Out Value}(h:M.bind (M.bind m run) fstV s=rOf out s'):
  ∃af s1 o,m s= .some af s1/\run af s1=rOf o s'/\out=(match o with| .inl p=> .inl p.1| .inr c=> .inr c):=by
 rcases DJ h with⟨p,s2,e1,e2⟩|⟨c,e1,rfl⟩
 ·obtain⟨af,s1,e3,e4⟩:=bind_some e1
  obtain⟨rfl,rfl⟩:=Bh (show R.some p.1 s2=rOf out s' from e2)
  exact⟨af,s1, .inl p,e3,e4,rfl⟩
 ·rcases Pn e1 with e3|⟨af,s1,e3,e4⟩
  ·exact(hm.no _ _ _ e3).elim
  ·exact⟨af,s1, .inr c,e3,e4,rfl⟩
theorem Atw_ (he:EnvOK E){run:AF->M (Value×FrameMode)}(hrun:RunOK E run):CallOK E (Ac E run) where
 loc:=λf args=>by
  unfold Ac
  cases ho:E.orc.get f with
  |some m=>exact he.orcLoc f m ho args
  |none=>
   cases hx:E.ext.get f with
   |some m=>exact he.extLoc f m hx args
   |none=>exact SP_ _ (Au (Au (Rl_ _ _ _) hrun.loc) λp=>As _)
 ok:=by
  intro w0 w r f args args' s out s' h hr hb hf ha
  unfold Ac at h
  cases ho:E.orc.get f with
  |some m=>rw[ho]at h;exact .inl (he.orc ho h hr hb hf ha)
  |none=>
   rw[ho]at h
   cases hx:E.ext.get f with
   |some m=>rw[hx]at h;exact .inr ⟨(λe=>by cases e),he.ext hx h hr ha⟩
   |none=>
   rw[hx]at h
   refine .inl ?_
   obtain⟨s2,e1,rfl⟩:=GC (show within cxN (M.bind (M.bind (B8 E f args .normal) run) fstV) s=rOf out s' from h)
   obtain⟨af,s1,o,e2,e3,rfl⟩:=KG (Io _ _ _) e1
   have hen:=λ(c:Frame) (cs:List Frame)=>Lj (base:=([],c::cs)) (cx:=cxN) he e2 ha (cs:=c::cs) ⟨⟨rfl,rfl⟩,rfl, .nil⟩
   refine⟨(hen default []).1,λc cs=> ?_⟩
   obtain⟨_,hF,rfl⟩:=hen c cs
   obtain⟨w',r',k1,k2,cs',k3,k4⟩:=hrun.ok e3 hF hr hb hf
   have hcs:cs'=c::cs:=by
    rcases k3 with k3|⟨_,_,_,_,_,k,_⟩
    ·exact k3.2
    ·cases k
   refine⟨w',r',⟨k1.le,k1.nxt,k1.domB,k1.domE,k1.rel⟩,k2,rfl, ?_⟩
   cases o with
   |inl p=>
    obtain⟨v',q1,q2,q3⟩:=k4
    exact⟨v',q1,q2 c cs hcs⟩
   |inr ch=>
    obtain⟨ch',q1,q2⟩:=k4
    exact⟨ch',q1,q2 c cs hcs⟩
theorem Ado_ {run:AF->M (Value×FrameMode)}:RoundOK E (AS run) where
 loc:=λ_ _=>Az
 ok:=λh=>(AL h).elim
theorem AwB_ (he:EnvOK E){run:AF->M (Value×FrameMode)}(hrun:RunOK E run):DeferOK E (Co E run) where
 loc:=λf args m=>SP_ _ (by
  refine H3 (m:=M.bind (B8 E f args .deferred) run) (f:=λp=>M.pure (none,p.2)) (g:=λc=>M.bind GD λcx=>M.pure (some c,upOf cx)) (Au (Rl_ _ _ _) hrun.loc) (λp=>As _) λc=>Au IL λcx=>As _)
 ok:=by
  intro w0 w r f args args' m m' s out s' h hr hb hf ha hm
  obtain⟨s2,e1,rfl⟩:=GC h
  have e1':R.rec (motive:=λ_=>R (Option (List PanicEntry)×FrameMode)) .none (λp s=> .some (none,p.2) s) (λc s=> .some (some c,upOf s.cx) s) (M.bind (B8 E f args .deferred) run ⟨s.mem,s.next,s.lim,s.rd,s.wr, .cx (some m) (some [])⟩)=rOf out s2:=e1
  have main: ∃af s1 o,B8 E f args .deferred ⟨s.mem,s.next,s.lim,s.rd,s.wr, .cx (some m) (some [])⟩= .some af s1/\run af s1=rOf o s2/\out= .inl (match o with| .inl p=>(none,p.2)| .inr c=>(some c,upOf s2.cx)):=by
   cases e2:M.bind (B8 E f args .deferred) run ⟨s.mem,s.next,s.lim,s.rd,s.wr, .cx (some m) (some [])⟩with
   |none=>rw[e2]at e1';exact(AL e1').elim
   |some p s3=>
    rw[e2]at e1'
    obtain⟨rfl,rfl⟩:=Bh (show R.some (none,p.2) s3=rOf out s2 from e1')
    obtain⟨af,s1,e3,e4⟩:=bind_some e2
    exact⟨af,s1, .inl p,e3,e4,rfl⟩
   |pan c s3=>
    rw[e2]at e1'
    obtain⟨rfl,rfl⟩:=Bh (show R.some (some c,upOf s3.cx) s3=rOf out s2 from e1')
    rcases Pn e2 with e3|⟨af,s1,e3,e4⟩
    ·exact((Io _ _ _).no _ _ _ e3).elim
    ·exact⟨af,s1, .inr c,e3,e4,rfl⟩
  obtain⟨af,s1,o,e2,e3,rfl⟩:=main
  have hen:=λ(c:Frame) (cs:List Frame) (hc:c.mode=m')=>Lj (base:=([],c::cs)) (cx:= .cx (some m) (some [])) he e2 ha (cs:=c::cs) ⟨⟨rfl,c,cs,m',rfl,by rw[<-hc],hm⟩,rfl, .nil⟩
  refine⟨(hen {(default:Frame)with mode:=m'} [] rfl).1,λc cs hc=> ?_⟩
  obtain⟨_,hF,rfl⟩:=hen c cs hc
  obtain⟨w',r',k1,k2,cs',k3,k4⟩:=hrun.ok e3 hF hr hb hf
  rcases k3 with⟨k3,_⟩|⟨u,c0,rest,m2,k5,k6,k7,k8,k9,k10⟩
  ·cases k3
  ·cases k7
   refine⟨w',r',_,m2,rfl,⟨k1.le,k1.nxt,k1.domB,k1.domE,k1.rel⟩,k2,rfl, ?_, ?_⟩
   ·cases o with
    |inl p=>rw[show p.2=u from k10 p.1 p.2 rfl];exact k9
    |inr ch=>rw[show upOf s2.cx=u by rw[k5];rfl];exact k9
   ·cases o with
    |inl p=>
     obtain⟨v',q1,q2,q3⟩:=k4
     exact⟨v',q2 _ _ k8⟩
    |inr ch=>
     obtain⟨ch',q1,q2⟩:=k4
     exact⟨ch',q1,q2 _ _ k8⟩
theorem N2 (he:EnvOK E): ∀fuel,RunOK E (runF E fuel)
 |0=>⟨λ_=>Az,λh=>(AL h).elim⟩
 |fuel+1=>by
  have ih:=N2 he fuel
  have c1:=Atw_ he ih
  have c2:=Ado_ (E:=E) (run:=runF E fuel)
  have c3:=AwB_ he ih
  have h0: ∀af,runF E (fuel+1) af=M.bind (D4 E (Ac E (runF E fuel)) (AS (runF E fuel)) (Co E (runF E fuel)) af) (Ff (runF E fuel)):=λ_=>rfl
  have lR: ∀p,Loc (Ff (runF E fuel) p):=λp=>by
   cases p with
   |go af=>exact ih.loc af
   |fin v u=>exact As _
  refine⟨λaf=>by rw[h0];exact Au (Ap_ he c1 c2 c3 af) lR, ?_⟩
  intro w0 w r base af fr cs s out s' h hF hr hb hf
  rw[h0]at h
  rcases DJ h with⟨p,s1,e1,e2⟩|⟨c,e1,rfl⟩
  ·have L1:=(Ap_ he c1 c2 c3 af).at' s (.inl p) s1 e1 hb
   have L2:=(lR p).at' s1 out s' e2 L1.bnd
   obtain⟨w1,r1,k1,k2,k3⟩:=FQ_ (out:= .inl p) he c1 c2 c3 e1 hF hr hb (λb x y=>hf b x (Nat.lt_of_lt_of_le y L2.next))
   cases p with
   |go af'=>
    obtain⟨fr',cs',k4,k5,k6⟩:=k3
    obtain⟨w2,r2,q1,q2,q3⟩:=ih.ok (show runF E fuel af' s1=rOf out s' from e2) k5 k1.rel L1.bnd (k1.fresh hf)
    exact⟨w2,r2,k1.trans q1,q2.trans k2,q3.head k4 k6⟩
   |fin v u=>
    obtain⟨rfl,rfl⟩:=Bh (show R.some (v,u) s1=rOf out s' from e2)
    exact⟨w1,r1,k1,k2,k3⟩
  ·obtain⟨w1,r1,k1,k2,k3⟩:=FQ_ (out:= .inr c) he c1 c2 c3 e1 hF hr hb hf
   exact⟨w1,r1,k1,k2,k3⟩
end
theorem Rel.empty (w:World){K:Know}(hK:K.sure w):Rel w (.nil K) .E w:=
 ⟨.refl _ _,(λb b' d e=>by cases e),(λl b v e=>by cases e),(λl1 l2 b1 v1 b2 v2 b' d1 d2 e=>by cases e),(λl o e=>by cases e),(λl1 l2 o1 o2 b' d1 d2 e=>by cases e),(λt sz e=>by cases e),(λt1 t2 s1 s2 k1 k2 e=>by cases e),hK,(λl n e=>by cases e),⟨(λl b v e=>by cases e),(λl b v b' d e=>by cases e),(λl o b' d e=>by cases e),(λl n b' d e=>by cases e)⟩⟩
def st0:St:=⟨.E,0,0,[],[], .no⟩
theorem Gy_ {E:Env}(he:EnvOK E){fuel f:Nat}{v:Value}{s':St}(ho:E.orc.get f=none)(hx:E.ext.get f=none)(h:callF E fuel f [] st0= .some v s')(hp:plain v=true)(w:World):Calls E.P f #[] w λe w'=>e= .returned v/\Below w.heap.size w w':=by
 intro cs
 replace h:Ac E (runF E fuel) f [] st0= .some v s':=h
 unfold Ac at h
 rw[ho,hx]at h
 obtain⟨s2,e1,rfl⟩:=GC (o:= .inl v) (show within cxN (M.bind (M.bind (B8 E f [] .normal) (runF E fuel)) fstV) st0=rOf (.inl v) s' from h)
 obtain⟨af,s1,o,e2,e3,e4⟩:=KG (Io _ _ _) e1
 obtain⟨_,hF,rfl⟩:=Lj (r:= .nil .no) (base:=([],cs)) (cx:=cxN) he e2 .nil (cs:=cs) ⟨⟨rfl,rfl⟩,rfl, .nil⟩
 obtain⟨w',r',k1,k2,cs',k3,k4⟩:=(N2 he fuel).ok e3 hF (Rel.empty w (Know.no_sure w)) (Nat.le_refl _) (λ_ _ _=>⟨rfl,rfl⟩)
 cases o with
 |inr c=>cases e4
 |inl p=>
  cases e4
  obtain⟨v',q1,q2,q3⟩:=k4
  obtain⟨fr',x1,x2,x3⟩:=q3 rfl rfl
  have hcs:cs'=cs:=by
   rcases k3 with k3|⟨_,_,_,_,_,k,_⟩
   ·exact k3.2
   ·cases k
  subst hcs
  exact⟨.returned v',w',fr',⟨by rw[q1.eq_of_plain hp],k1.rel.below⟩,x3,x1,x2⟩
def T.tab {α:Type}(f:Nat->Option α)(fuel:Nat):Nat->Nat->T α:=
 Nat.rec (motive:=λ_=>Nat->Nat->T α) (λ_ _=> .E) (λ_ ih a s=>fN (Nat.add a s) λb=>fN (Nat.add b s) λc=>fN (Nat.add s s) λd=> .N (f a) (ih b d) (ih c d)) fuel
theorem a9 {α:Type}(f:Nat->Option α)(n a s:Nat):T.tab f (n+1) a s= .N (f a) (T.tab f n (a+s) (s+s)) (T.tab f n (a+s+s) (s+s)):=by
 show fN (Nat.add a s) (λb=>fN (Nat.add b s) λc=>fN (Nat.add s s) λd=>T.N (f a) (T.tab f n b d) (T.tab f n c d))=_
 rw[AB,AB,AB]
 rfl
theorem aX {α:Type}(f:Nat->Option α): ∀(n a s k:Nat) {x:α},T.get (T.tab f n a s) k=some x->f (a+s*k)=some x
 |0,_,_,_,_,h=>by cases h
 |n+1,a,s,0,x,h=>by
  rw[a9,aQ]at h
  simpa using h
 |n+1,a,s,k+1,x,h=>by
  rw[a9,aL]at h
  split at h
  ·rename_i hk
   have:=aX f n _ _ _ h
   rw[<-this]
   congr 1
   have e:k=2*(k/2):=J
   rw[Nat.add_mul,Nat.mul_add,<-Nat.two_mul,Nat.mul_left_comm,<-e]
   omega
  ·rename_i hk
   have:=aX f n _ _ _ h
   rw[<-this]
   congr 1
   have e:k=2*(k/2)+1:=J
   have e2:s*(k+1)=s*(2*(k/2))+s+s:=by rw[e];rw[show 2*((2*(k/2)+1)/2)=2*(k/2) by omega];rw[Nat.mul_add,Nat.mul_add];omega
   rw[e2,Nat.add_mul,<-Nat.two_mul,Nat.mul_left_comm]
   omega
theorem T.tab_get {α:Type}(f:Nat->Option α): ∀(n a s k:Nat),k+1<2^n->T.get (T.tab f n a s) k=f (a+s*k)
 |0,_,_,k,h=>by simp at h
 |n+1,a,s,0,_=>by rw[a9];rfl
 |n+1,a,s,k+1,h=>by
  rw[a9,aL]
  split
  ·rename_i hk
   rw[T.tab_get f n _ _ _ (by rw[Nat.pow_succ]at h;omega)]
   congr 1
   have e:k=2*(k/2):=J
   rw[Nat.add_mul,Nat.mul_add,<-Nat.two_mul,Nat.mul_left_comm,<-e]
   omega
  ·rename_i hk
   rw[T.tab_get f n _ _ _ (by rw[Nat.pow_succ]at h;omega)]
   congr 1
   have e:k=2*(k/2)+1:=J
   have e2:s*(k+1)=s*(2*(k/2))+s+s:=by rw[e];rw[show 2*((2*(k/2)+1)/2)=2*(k/2) by omega];rw[Nat.mul_add,Nat.mul_add];omega
   rw[e2,Nat.add_mul,<-Nat.two_mul,Nat.mul_left_comm]
   omega
def ti0 (P:Program)(t:Nat):Option TI:=
 match P.info? t,P.underlying t with
 |some n,some u=>(match n.zero with
  |some z=>Bool.rec (motive:=λ_=>Option TI) none (some ⟨u,n.size,aggD u,z.cells.toList,n.bytes⟩) (Nat.beq z.cells.toList.length n.size&&z.cells.toList.all plain&&(aggV z==aggD u))
  |none=>none)
 |_,_=>none
def FO (ok:Nat->Bool)(u:TypeDesc):Bool:=
 match u with
 | .struct fs=>fs.toList.all λf=>ok f.type
 |_=>true
def tyB (P:Program)(n:Nat):Nat->Bool:=
 Nat.rec (motive:=λ_=>Nat->Bool) (λ_=>false) (λ_ ih t=>Nat.blt t 4095&&Option.rec (motive:=λ_=>Bool) false (λi=>FO ih i.u) (ti0 P t)) n
def tyAt (P:Program)(t:Nat):Option TI:=Bool.rec (motive:=λ_=>Option TI) none (ti0 P t) (tyB P 8 t)
def fnAt (P:Program)(f:Nat):Option Func:=
 match P.funcs[f]? with
 | some fn => Bool.rec (motive := fun _ => Option Func) (some fn) none (fn.name == "runtime.NumGoroutine")
 |none=>none
def envOf (P:Program)(orc ext:T (List Value->M Value)):Env:=⟨P,T.tab (tyAt P) 12 0 1,T.tab (fnAt P) 12 0 1,orc,ext⟩
theorem Ael_ {P:Program}{t:Nat}{i:TI}(h:ti0 P t=some i):TyOK P t i:=by
 unfold ti0 at h
 split at h
 ·rename_i n u h1 h2
  split at h
  ·rename_i z h3
   cases hb:(Nat.beq z.cells.toList.length n.size&&z.cells.toList.all plain&&(aggV z==aggD u))with
   |false=>rw[hb]at h;cases h
   |true=>
    rw[hb]at h
    cases h
    rw[Bool.and_eq_true,Bool.and_eq_true]at hb
    refine⟨⟨n,h1,rfl,rfl,z,h3,rfl⟩,h2,rfl,Nat.eq_of_beq_eq_true hb.1.1,λv hv=>List.all_eq_true.1 hb.1.2 v hv,λn' z' e1 e2=> ?_⟩
    rw[h1]at e1
    cases e1
    rw[h3]at e2
    cases e2
    exact eq_of_beq hb.2
  ·cases h
 ·cases h
theorem Q6 {P:Program}{n t:Nat}:tyB P (n+1) t=(Nat.blt t 4095&&Option.rec (motive:=λ_=>Bool) false (λi=>FO (tyB P n) i.u) (ti0 P t)):=rfl
theorem Ug_ {P:Program}: ∀{n t:Nat},tyB P n t=true->tyB P (n+1) t=true
 |0,_,h=>by cases h
 |n+1,t,h=>by
  rw[Q6,Bool.and_eq_true]at h ⊢
  refine⟨h.1, ?_⟩
  have h2:=h.2
  cases e:ti0 P t with
  |none=>rw[e]at h2;cases h2
  |some i=>
   rw[e]at h2
   replace h2:FO (tyB P n) i.u=true:=h2
   show FO (tyB P (n+1)) i.u=true
   unfold FO at h2 ⊢
   cases hu:i.u with
   |struct fs=>
    rw[hu]at h2
    simp only at h2 ⊢
    exact List.all_eq_true.2 λf hf=>Ug_ (List.all_eq_true.1 h2 f hf)
   |_=>rfl
theorem Ik_ {P:Program}{t:Nat}{i:TI}(h:tyAt P t=some i):tyB P 8 t=true/\ti0 P t=some i:=by
 unfold tyAt at h
 cases e:tyB P 8 t with
 |false=>rw[e]at h;cases h
 |true=>rw[e]at h;exact⟨rfl,h⟩
theorem NE_ (P:Program)(orc ext:T (List Value->M Value)):EnvTy (envOf P orc ext) where
 ok:=λt i h=>by
  have h1:=aX (tyAt P) 12 0 1 t h
  rw[Nat.zero_add,Nat.one_mul]at h1
  exact Ael_ (Ik_ h1).2
 flds:=λt i fs h hu f hf=>by
  have h1:=aX (tyAt P) 12 0 1 t h
  rw[Nat.zero_add,Nat.one_mul]at h1
  obtain⟨h2,h3⟩:=Ik_ h1
  rw[show(8:Nat)=7+1 from rfl,Q6,Bool.and_eq_true,h3]at h2
  have h4:FO (tyB P 7) i.u=true:=h2.2
  unfold FO at h4
  rw[hu]at h4
  have h5:tyB P 7 f.type=true:=List.all_eq_true.1 h4 f (by simpa using hf)
  have h6:=Ug_ h5
  have h7:=h6
  rw[Q6,Bool.and_eq_true]at h7
  have h8:f.type<4095:=BF h7.1
  have h9:T.get (envOf P orc ext).ty f.type=tyAt P f.type:=by
   have:=T.tab_get (tyAt P) 12 0 1 f.type (Nat.succ_lt_succ h8)
   rw[Nat.zero_add,Nat.one_mul]at this
   exact this
  rw[h9]
  unfold tyAt
  rw[h6]
  cases e:ti0 P f.type with
  |none=>rw[e]at h7;cases h7.2
  |some fi=>exact⟨fi,rfl⟩
theorem Tw (P : Program) (orc ext : T (List Value → M Value)) (f : Nat) (fn : Func) (h : T.get (envOf P orc ext).fn f = some fn) : P.funcs[f]? = some fn ∧ fn.name ≠ "runtime.NumGoroutine" := by
 have h1:=aX (fnAt P) 12 0 1 f h
 rw[Nat.zero_add,Nat.one_mul]at h1
 unfold fnAt at h1
 split at h1
 ·rename_i fn' h2
  cases hb : (fn'.name == "runtime.NumGoroutine") with
  |true=>rw[hb]at h1;cases h1
  |false=>
   rw[hb]at h1
   cases h1
   exact⟨h2,λe=>by rw[e]at hb;simp at hb⟩
 ·cases h1
theorem envOf_ok (P:Program)(h:P.follows .mixedOrders=true):EnvOK (envOf P .E .E):=
 ⟨NE_ P .E .E,Tw P .E .E,h,(λf m e=>by cases e),(λe=>by cases e),(λf m e=>by cases e),(λe=>by cases e)⟩
structure OrcOK (P:Program)(f:Nat)(m:List Value->M Value):Prop where
 loc: ∀args,Loc (m args)
 ok: ∀{w0 w:World} {r:Inj} {args args':List Value} {s:St} {out:Out Value} {s':St},m args s=rOf out s'->Rel w0 r s.mem w->Bnd s->AU r s.next s'.next->VRs r args args'->
  (∀w,(callFunc f args'.toArray).run P w= .ok (.enter f args'.toArray) w)/\
  ∀c cs,∃w' r',Goes w0 r s s' r' w'/\s'.lim=s.lim/\s'.cx=s.cx/\Ends P r' out (lone (Frame.enter P f args'.toArray .normal) (c::cs) w) c cs w'
def OrcT (P:Program)(orc:T (List Value->M Value)):Prop:= ∀f m,T.get orc f=some m->OrcOK P f m
theorem OrcT.E (P:Program):OrcT P .E:=λf m h=>by cases h
theorem OrcT.set {P:Program}{orc:T (List Value->M Value)}(h:OrcT P orc){f:Nat}{m:List Value->M Value}(k:OrcOK P f m):OrcT P (T.set orc f m):=λg n e=>by
 rw[T.get_set]at e
 split at e
 ·rename_i hg
  cases e
  rw[hg]
  exact k
 ·exact h g n e
def valR (r:R Value):Option Value:=R.rec (motive:=λ_=>Option Value) none (λv _=>some v) (λ_ _=>none) r
theorem BH_ {r:R Value}{v:Value}(h:valR r=some v): ∃s,r= .some v s:=by
 cases r with
 |none=>cases h
 |some a s=>cases h;exact⟨s,rfl⟩
 |pan c s=>cases h
def PM (v:Value)(args:List Value):M Value:=List.rec (motive:=λ_=>M Value) (M.pure v) (λ_ _ _=>aC) args
theorem Akd_ {E:Env}(he:EnvOK E){fuel f:Nat}{args:List Value}{v:Value}{s s':St}(ho:E.orc.get f=none)(hx:E.ext.get f=none)(h:callF E fuel f args s= .some v s')(args':Array Value)(w:World):(callFunc f args').run E.P w= .ok (.enter f args') w:=by
 replace h:Ac E (runF E fuel) f args s= .some v s':=h
 unfold Ac at h
 rw[ho,hx]at h
 obtain⟨s2,e1,rfl⟩:=GC (o:= .inl v) (show within cxN (M.bind (M.bind (B8 E f args .normal) (runF E fuel)) fstV) s=rOf (.inl v) s' from h)
 obtain⟨af,s1,o,e2,_⟩:=KG (Io _ _ _) e1
 obtain⟨_,fn,c,h1,h2,_⟩:=KX_ e2
 obtain⟨k1,k2⟩:=he.fn f fn h1
 unfold callFunc
 simp[Sem.run,program,k1,k2,h2]
theorem WT_ {E:Env}(he:EnvOK E){fuel f:Nat}{v:Value}(ho:E.orc.get f=none)(hx:E.ext.get f=none)(h:valR (callF E fuel f [] st0)=some v)(hp:plain v=true):OrcOK E.P f (PM v) where
 loc:=λargs=>by cases args<;>first|exact As _|exact Az
 ok:=by
  intro w0 w r args args' s out s' e hr hb hf ha
  obtain⟨s1,h⟩:=BH_ h
  cases args with
  |cons a l=>exact(AL e).elim
  |nil=>
   obtain⟨rfl,rfl⟩:=Bh (show R.some v s=rOf out s' from e)
   rw[ha.inv_nil]
   refine⟨λw=>Akd_ he ho hx h _ w,λc cs=> ?_⟩
   obtain⟨e,w',fr,⟨rfl,hbl⟩,hs,_,hl⟩:=Gy_ he ho hx h hp w (c::cs)
   exact⟨w',r, .of_rel rfl (hr.beyond hbl),rfl,rfl,v, .of_plain hp,hs.trans (.one (step_leave_returned hl))⟩
theorem calls_of {E:Env}(he:EnvOK E){fuel f:Nat}{v:Value}(ho:E.orc.get f=none)(hx:E.ext.get f=none)(h:valR (callF E fuel f [] st0)=some v)(hp:plain v=true)(w:World):Calls E.P f #[] w λe w'=>e= .returned v/\Below w.heap.size w w':=by
 obtain⟨s1,h⟩:=BH_ h
 exact Gy_ he ho hx h hp w
structure ExtOK (P:Program)(f:Nat)(m:List Value->M Value):Prop where
 loc: ∀args,Loc (m args)
 ok: ∀{w0 w:World} {r:Inj} {args args':List Value} {s:St} {out:Out Value} {s':St},m args s=rOf out s'->Rel w0 r s.mem w->VRs r args args'->MW P w0 w r s f args' out s'
def ExtT (P:Program)(ext:T (List Value->M Value)):Prop:= ∀f m,T.get ext f=some m->ExtOK P f m
theorem ExtT.E (P:Program):ExtT P .E:=λf m h=>by cases h
theorem Vm (P:Program)(h:P.follows .mixedOrders=true){orc ext:T (List Value->M Value)}(ho:OrcT P orc)(hx:ExtT P ext):EnvOK (envOf P orc ext):=
 ⟨NE_ P orc ext,Tw P orc ext,h,λf m e=>(ho f m e).loc,λe=>(ho _ _ e).ok,λf m e=>(hx f m e).loc,λe=>(hx _ _ e).ok⟩
section
variable {P:Program}{f:Nat}{fn:Func}
end
end Go.Proofs.Ytofanlcjeohcjaa.Am
namespace Go.Proofs.Ytofanlcjeohcjaa
def rot (x n:Nat):Nat:=x/2^n|||x*2^(32-n)%4294967296
namespace Sha
def s0 (x:Nat):Nat:=rot x 7^^^rot x 18^^^x/2^3
def s1 (x:Nat):Nat:=rot x 17^^^rot x 19^^^x/2^10
theorem xor_lt {a b:Nat}(ha:a<4294967296)(hb:b<4294967296):a^^^b<4294967296:=Nat.xor_lt_two_pow (n:=32) ha hb
def be (a b c d:Nat):Nat:=a*2^24|||b*2^16|||c*2^8|||d
def sch (B:Nat->Nat)(i:Nat):Nat:=
 if i<16 then be (B (4*i)) (B (4*i+1)) (B (4*i+2)) (B (4*i+3))
 else(((sch B (i-16)+s0 (sch B (i-15)))%4294967296+sch B (i-7))%4294967296+s1 (sch B (i-2)))%4294967296
termination_by i
decreasing_by all_goals omega
structure St8 where
 a:Nat
 b:Nat
 c:Nat
 d:Nat
 e:Nat
 f:Nat
 g:Nat
 h:Nat
structure St8.Ok (s:St8):Prop where
 a:s.a<4294967296
 b:s.b<4294967296
 c:s.c<4294967296
 d:s.d<4294967296
 e:s.e<4294967296
 f:s.f<4294967296
 g:s.g<4294967296
 h:s.h<4294967296
def t1 (s:St8)(k w:Nat):Nat:=
 ((((s.h+(rot s.e 6^^^rot s.e 11^^^rot s.e 25))%4294967296+(s.e&&&s.f^^^(4294967295^^^s.e)&&&s.g))%4294967296+k)%4294967296+w)%4294967296
def t2 (s:St8):Nat:=
 ((rot s.a 2^^^rot s.a 13^^^rot s.a 22)+(s.a&&&s.b^^^s.a&&&s.c^^^s.b&&&s.c))%4294967296
def rnd (s:St8)(k w:Nat):St8:=⟨(t1 s k w+t2 s)%4294967296,s.a,s.b,s.c,(s.d+t1 s k w)%4294967296,s.e,s.f,s.g⟩
def rnds (K W:Nat->Nat)(s:St8):Nat->St8
 |0=>s
 |n+1=>rnd (rnds K W s n) (K n) (W n)
def plus (s r:St8):St8:=⟨(r.a+s.a)%4294967296,(r.b+s.b)%4294967296,(r.c+s.c)%4294967296,(r.d+s.d)%4294967296,(r.e+s.e)%4294967296,(r.f+s.f)%4294967296,(r.g+s.g)%4294967296,(r.h+s.h)%4294967296⟩
def ks:List Nat:=[0x428a2f98,0x71374491,0xb5c0fbcf,0xe9b5dba5,0x3956c25b,0x59f111f1,0x923f82a4,0xab1c5ed5,0xd807aa98,0x12835b01,0x243185be,0x550c7dc3,0x72be5d74,0x80deb1fe,0x9bdc06a7,0xc19bf174,0xe49b69c1,0xefbe4786,0x0fc19dc6,0x240ca1cc,0x2de92c6f,0x4a7484aa,0x5cb0a9dc,0x76f988da,0x983e5152,0xa831c66d,0xb00327c8,0xbf597fc7,0xc6e00bf3,0xd5a79147,0x06ca6351,0x14292967,0x27b70a85,0x2e1b2138,0x4d2c6dfc,0x53380d13,0x650a7354,0x766a0abb,0x81c2c92e,0x92722c85,0xa2bfe8a1,0xa81a664b,0xc24b8b70,0xc76c51a3,0xd192e819,0xd6990624,0xf40e3585,0x106aa070,0x19a4c116,0x1e376c08,0x2748774c,0x34b0bcb5,0x391c0cb3,0x4ed8aa4a,0x5b9cca4f,0x682e6ff3,0x748f82ee,0x78a5636f,0x84c87814,0x8cc70208,0x90befffa,0xa4506ceb,0xbef9a3f7,0xc67178f2]
def K (i:Nat):Nat:=ks.getD i 0
def next (s:St8)(B:Nat->Nat):St8:=plus s (rnds K (sch B) s 64)
