import Derived.Test.YtheboekhpelhlaaDSb04
import Derived.Orders
noncomputable section
namespace Go.Proofs.Ytheboekhpelhlaa.Am
open Go.RowKit
section
variable {E:Env}{glob n:Nat}{ops:Array Oper}
theorem KR {all:List Oper}{o:Oper}{l:List Oper}{ds:List Nat}{cs:List COp}(h:BX E glob n all (o::l) ds=some cs):
  ∃g f r,cs=⟨g,o.dst,B1 o.dst glob,f⟩::r/\Ep all ds o.guard=some g/\newD o.dst n ds=true/\DG E ds o.op= .mk f/\BX E glob n all l (BM o.dst ds)=some r:=by
 have h0:BX E glob n all (o::l) ds=onO (Ep all ds o.guard) λg=>Bool.rec (motive:=λ_=>Option (List COp)) none (onO (BX E glob n all l (BM o.dst ds)) λr=>
   Cl.rec (motive:=λ_=>Option (List COp)) (λf=>Bool.rec (motive:=λ_=>Option (List COp)) (some (⟨g,o.dst,false,f⟩::r)) (some (⟨g,o.dst,true,f⟩::r)) (B1 o.dst glob)) (DG E ds o.op)) (newD o.dst n ds):=rfl
 rw[h0]at h
 obtain⟨g,h1,h⟩:=D4 h
 cases h2:newD o.dst n ds with
 |false=>rw[h2]at h;cases h
 |true=>
  rw[h2]at h
  obtain⟨r,h3,h⟩:=D4 h
  cases h4:DG E ds o.op with
  |mk f=>
   rw[h4]at h
   cases h5:B1 o.dst glob with
   |false=>rw[h5]at h;cases h;exact⟨g,f,r,rfl,h1,rfl,rfl,h3⟩
   |true=>rw[h5]at h;cases h;exact⟨g,f,r,rfl,h1,rfl,rfl,h3⟩
theorem Uj_ {all:List Oper}{ds:List Nat}{gd:Option (Nat×Bool)}{g:Option (Nat×Bool)}(h:Ep all ds gd=some g):
  (gd=none/\g=none)\/ ∃j want q d p,gd=some (j,want)/\all[j]?=some q/\q.dst=some d/\g=some (p,want)/\ds[p]?=some d:=by
 unfold Ep at h
 split at h
 ·cases h;exact .inl ⟨rfl,rfl⟩
 ·split at h
  ·split at h
   ·split at h
    ·cases h
     exact .inr ⟨_,_,_,_,_,rfl,by assumption,by assumption,rfl,PV (by assumption)⟩
    ·cases h
   ·cases h
  ·cases h
theorem GU_: ∀(n:Nat) (l:Rho),nthV n l=l[n]?
 |0,l=>CB_ l
 |_n+1,[]=>rfl
 |n+1,_v::l=>GU_ n l
theorem Tt_ {r:Inj}{v v':Value}{want:Bool}(h:VR r v v')(hk:isK v=true):((match v' with| .bool b=>some b|_=>none)==some want)=isB v want:=by
 cases h<;>first|rfl|(rename_i b;cases b<;>cases want<;>rfl)|exact absurd hk (by simp[isK])
theorem Anv_ {g:Option (Nat×Bool)}{rho:Rho}{x:M Value}(h:Loc x):Loc (BG g rho x):=by
 cases g with
 |none=>exact h
 |some p=>exact Bj _ λv=>AS _ (D7 _ h (Ah _))
def OpG (E:Env)(ops:Array Oper)(i:Nat)(o:Oper)(ds:List Nat)(c:COp):Prop:=
 (∀call round,CallOK E call->RoundOK E round-> ∀rho tm,Loc (BG c.guard rho (c.run call round rho tm)))/\
  ∀call round,CallOK E call->RoundOK E round-> ∀(w0 w:World) (r:Inj) (U:Nat->Prop) rho tm (b:Frame) (t:Array Value) (dfs:List Deferred) (cs:List Frame) (base:List Deferred×List Frame) (s:St) (out:Out Value) (s':St),
   SlR r U ds rho tm t->(∀t,t∈DI ops.toList o->U t)->rho.length=ds.length->Rel w0 r s.mem w->CxR r base s.cx b dfs cs->Bnd s->AK r s.next s'.next->BG c.guard rho (c.run call round rho tm) s=rOf out s'->
   ∀rest k,∃w' r' dfs' cs',Goes w0 r s s' r' w'/\CxR r' base s'.cx b dfs' cs'/\s'.lim=s.lim/\
    LY E.P r' out (lone (frm b t dfs (.inRegion ops (i::rest)::k)) cs w) b t dfs' ops o rest k cs' w'
theorem Ade_ {all:List Oper}{o:Oper}{t:Nat}(h:Operand.tmp t∈o.op.operands.toList):t∈DI all o:=by
 unfold DI
 apply List.mem_append_right
 exact List.mem_filterMap.2 ⟨_,h,rfl⟩
theorem ArE_ {all:List Oper}{o q:Oper}{j d:Nat}{want:Bool}(h:o.guard=some (j,want))(h1:all[j]?=some q)(h2:q.dst=some d):d∈DI all o:=by
 unfold DI
 apply List.mem_append_left
 simp[h,h1,h2]
theorem IY (he:EnvTy E){i:Nat}{o:Oper}{ds:List Nat}{g:Option (Nat×Bool)}{f:OpT}{keep:Bool}(ho:ops[i]?=some o)(hg:Ep ops.toList ds o.guard=some g)(hf:DG E ds o.op= .mk f):
  OpG E ops i o ds ⟨g,o.dst,keep,f⟩:=by
 obtain⟨f',h1,h2,h3⟩:=Act_ he o ds
 rw[hf]at h1
 cases h1
 refine⟨λcall round c1 c2 rho tm=>Anv_ (h2 call round c1 c2 rho tm), ?_⟩
 intro call round c1 c2 w0 w r U rho tm b t dfs cs base s out s' hs hu hlen hr hx hb hfr e rest k
 have run:Region.wanted o (yielded ops t)=true->f call round rho tm s=rOf out s'-> ∃w' r' dfs' cs',Goes w0 r s s' r' w'/\CxR r' base s'.cx b dfs' cs'/\s'.lim=s.lim/\
   LY E.P r' out (lone (frm b t dfs (.inRegion ops (i::rest)::k)) cs w) b t dfs' ops o rest k cs' w':=λhw e=>
  h3 call round c1 c2 w0 w r U rho tm b t dfs cs base s out s' hs (λt q=>hu t (Ade_ q)) hr hx hb hfr e ops i rest k ho hw
 rcases Uj_ hg with⟨q1,q2⟩|⟨j,want,q,d,p,q1,q2,q3,q4,q5⟩
 ·subst q2
  exact run (by unfold Region.wanted;rw[q1]) e
 ·subst q4
  replace e:M.on (nthV p rho) (λv=>M.chk (isK v) (aT (isB v want) (f call round rho tm) (M.pure undef))) s=rOf out s':=e
  obtain⟨v,e1,e⟩:=OP e
  obtain⟨hk,e⟩:=Wj_ e
  rw[GU_]at e1
  obtain⟨v',e2,e3⟩:=hs.loc p d v (hu d (ArE_ q1 q2 q3)) q5 e1
  have hj:ops[j]?=some q:=by rw[<-Array.getElem?_toList];exact q2
  have hy:Region.wanted o (yielded ops t)=isB v want:=by
   rw[<-Tt_ e3 hk]
   unfold Region.wanted yielded
   simp only[q1,hj,q3,Option.bind_some,e2]
   cases v'<;>rfl
  rw[DO]at e
  cases hB:isB v want with
  |true=>
   rw[hB]at e
   exact run (by rw[hy,hB]) e
  |false=>
   rw[hB]at e
   obtain⟨rfl,rfl⟩:=A6 (show R.some undef s=rOf out s' from e)
   exact⟨w,r,dfs,cs, .of_rel rfl hr,hx,rfl,undef, .undef, .one (Aev_ ho (by rw[hy,hB]))⟩
theorem J1 (t:Array Value)(d:Option Nat)(v:Value):(putT t d v).size=t.size:=by cases d<;>simp[putT]
theorem Hz {t:Array Value}{d:Option Nat}{v:Value}{x:Nat}(h:d≠some x):(putT t d v)[x]?=t[x]?:=by
 cases d with
 |none=>rfl
 |some d=>exact Array.getElem?_setIfInBounds_ne (λe=>h (by rw[e]))
theorem SD {t:Array Value}{d:Nat}{v:Value}(h:d<t.size):(putT t (some d) v)[d]?=some v:=by simp[putT,h]
theorem Kc {d n:Nat}{ds:List Nat}(h:newD (some d) n ds=true):d<n/\d∉ds:=by
 have h':(Nat.blt d n&& !ds.any λe=>Nat.beq d e)=true:=h
 rw[Bool.and_eq_true]at h'
 refine⟨Bg h'.1,λhm=> ?_⟩
 have h2:=h'.2
 rw[Bool.not_eq_true']at h2
 have:=List.any_eq_false.1 h2 d hm
 exact this (by show Nat.beq d d=true;exact Nat.beq_refl d)
def CZ (d:Option Nat)(keep:Bool)(v:Value)(tm:T Value):T Value:=
 match d,keep with
 |some d,true=>T.set tm d v
 |_,_=>tm
theorem Ls_ {β:Type}(d:Option Nat)(keep:Bool)(v:Value)(tm:T Value)(K:T Value->M β):Hx d keep v tm K=K (CZ d keep v tm):=by
 unfold Hx CZ
 cases keep with
 |false=>cases d<;>rfl
 |true=>
  cases d with
  |none=>rfl
  |some d=>
   obtain⟨a,b,c,e⟩:=aZ tm d v
   simp only[e]
theorem TmR.keep {r:Inj}{tm:T Value}{t:Array Value}{d:Option Nat}{v v':Value}(h:TmR r glob tm t)(hv:VR r v v')(hd: ∀x,d=some x->x<t.size):TmR r glob (CZ d (B1 d glob) v tm) (putT t d v'):=by
 intro x u e
 cases d with
 |none=>exact h x u e
 |some d=>
  unfold CZ at e
  cases hk:B1 (some d) glob with
  |true=>
   rw[hk]at e
   simp only[T.get_set]at e
   split at e
   ·rename_i hx
    cases e
    subst hx
    exact⟨hk,v',SD (hd _ rfl),hv⟩
   ·rename_i hx
    obtain⟨q1,u',q2,q3⟩:=h x u e
    exact⟨q1,u',by rw[Hz (by simpa using λe=>hx e.symm)];exact q2,q3⟩
  |false=>
   rw[hk]at e
   obtain⟨q1,u',q2,q3⟩:=h x u e
   refine⟨q1,u', ?_,q3⟩
   rw[Hz]
   ·exact q2
   ·intro hx
    cases hx
    rw[show B1 (some x) glob=Nat.testBit glob x from rfl,q1]at hk
    cases hk
theorem SlR.push {r:Inj}{ds:List Nat}{rho:Rho}{tm tm':T Value}{t:Array Value}{d:Option Nat}{v v':Value}(h:SlR r (λ_=>True) ds rho tm t)(hv:VR r v v')(hd:newD d t.size ds=true)(hT:TmR r glob tm' (putT t d v')):
  SlR r (λ_=>True) (BM d ds) (CC d v rho) tm' (putT t d v'):=by
 refine⟨?_,λx u _ e=>(hT x u e).2⟩
 intro i x u _ e1 e2
 cases d with
 |none=>exact h.loc i x u True.intro e1 e2
 |some d=>
  obtain⟨q1,q2⟩:=Kc hd
  replace e1:(d::ds)[i]?=some x:=e1
  replace e2:(v::rho)[i]?=some u:=e2
  cases i with
  |zero=>
   simp at e1 e2
   subst e1
   subst e2
   exact⟨v',SD q1,hv⟩
  |succ i=>
   simp at e1 e2
   obtain⟨u',p1,p2⟩:=h.loc i x u True.intro e1 e2
   refine⟨u', ?_,p2⟩
   rw[Hz]
   ·exact p1
   ·intro hx
    cases hx
    exact q2 (List.mem_of_getElem? e1)
theorem J3 (call round:Ag)(g:Option (Nat×Bool))(d:Option Nat)(k:Bool)(f:OpT)(l:List COp)(rho:Rho)(tm:T Value):
  AB call round (⟨g,d,k,f⟩::l) rho tm=M.bind (BG g rho (f call round rho tm)) λv=>AB call round l (CC d v rho) (CZ d k v tm):=by
 show M.bind (BG g rho (f call round rho tm)) (λv=>Hx d k v tm (AB call round l (CC d v rho)))=_
 congr
 funext v
 rw[Ls_]
theorem ApT_ (o:Oper)(l:List Oper):dstL (o::l)=BM o.dst (dstL l):=rfl
theorem Lt {o:Oper}{d:Nat}: ∀{l:List Oper},o∈l->o.dst=some d->d∈dstL l
 |[],h,_=>by cases h
 |x::l,h,e=>by
  rw[ApT_]
  rcases List.mem_cons.1 h with rfl|h
  ·rw[e];exact List.mem_cons_self
  ·cases hx:x.dst with
   |none=>exact Lt h e
   |some y=>exact List.mem_cons_of_mem _ (Lt h e)
def Ic (P:Program)(r:Inj)(glob:Nat)(out:Out (T Value))(m:Machine)(b:Frame)(t:Array Value)(all:List Oper)(dfs:List Deferred)(k:List Item)(cs:List Frame)(w':World):Prop:=
 match out with
 | .inl tm=> ∃t',TmR r glob tm t'/\t'.size=t.size/\Steps P m (lone (frm b t' dfs k) cs w')
 | .inr ch=> ∃ch' t' td,ChR r ch ch'/\t'.size=t.size/\(∀d,d∉dstL all->t'[d]?=t[d]?)/\Steps P m (lone {frm b t' dfs td with mode:= .panicking ch'} cs w')
theorem IA (he:EnvTy E){call round:Ag}(c1:CallOK E call)(c2:RoundOK E round): ∀(l:List Oper) (i:Nat) (ds:List Nat) (cops:List COp),BX E glob n ops.toList l ds=some cops->(∀j o,l[j]?=some o->ops[i+j]?=some o)->
  ∀rho tm,Loc (AB call round cops rho tm)
 |[],_,_,_,hc,_,rho,tm=>by cases hc;exact Ah _
 |o::l,i,ds,cops,hc,hl,rho,tm=>by
  obtain⟨g,f,cr,rfl,q1,q2,q3,q4⟩:=KR hc
  rw[J3]
  exact Ae ((IY (keep:=B1 o.dst glob) he (hl 0 o rfl) q1 q3).1 call round c1 c2 rho tm) λv=>
   IA he c1 c2 l (i+1) _ cr q4 (λj x hj=>by have:=hl (j+1) x (by simpa using hj);rw[<-this];congr 1;omega) _ _
theorem Ou (he:EnvTy E){call round:Ag}(c1:CallOK E call)(c2:RoundOK E round){b:Frame}{k:List Item}{base:List Deferred×List Frame}{w0:World}:
  ∀(l:List Oper) (i:Nat) (ds:List Nat) (cops:List COp) (rho:Rho) (tm:T Value) (t:Array Value) (dfs:List Deferred) (cs:List Frame) (w:World) (r:Inj) (s:St) (out:Out (T Value)) (s':St),
   (∀j o,l[j]?=some o->ops[i+j]?=some o)->BX E glob n ops.toList l ds=some cops->SlR r (λ_=>True) ds rho tm t->TmR r glob tm t->t.size=n->rho.length=ds.length->
   Rel w0 r s.mem w->CxR r base s.cx b dfs cs->Bnd s->AK r s.next s'.next->AB call round cops rho tm s=rOf out s'->
   ∃w' r' dfs' cs',Goes w0 r s s' r' w'/\CxR r' base s'.cx b dfs' cs'/\s'.lim=s.lim/\Ic E.P r' glob out (lone (frm b t dfs (.inRegion ops (List.range' i l.length)::k)) cs w) b t ops.toList dfs' k cs' w'
 |[],i,ds,cops,rho,tm,t,dfs,cs,w,r,s,out,s',hl,hc,hs,hT,hn,hlen,hr,hx,hb,hf,e=>by
  cases hc
  obtain⟨rfl,rfl⟩:=A6 (show R.some tm s=rOf out s' from e)
  exact⟨w,r,dfs,cs, .of_rel rfl hr,hx,rfl,t,hT,rfl, .one Anw_⟩
 |o::l,i,ds,cops,rho,tm,t,dfs,cs,w,r,s,out,s',hl,hc,hs,hT,hn,hlen,hr,hx,hb,hf,e=>by
  obtain⟨g,f,cr,rfl,q1,q2,q3,q4⟩:=KR hc
  have ho:ops[i]?=some o:=hl 0 o rfl
  obtain⟨hloc,hop⟩:=IY (keep:=B1 o.dst glob) he ho q1 q3
  rw[J3]at e
  have hrange:List.range' i (o::l).length=i::List.range' (i+1) l.length:=by simp[List.range'_succ]
  rw[hrange]
  rcases Cj e with⟨v,s1,e1,e2⟩|⟨ch,e1,rfl⟩
  ·have hL:=(hloc call round c1 c2 rho tm).at' s (.inl v) s1 e1 hb
   have hnx:s1.next<=s'.next:=((IA he c1 c2 l (i+1) (BM o.dst ds) cr q4 (λj x hj=>by have:=hl (j+1) x (by simpa using hj);rw[<-this];congr 1;omega) _ _).at' _ _ _ e2 hL.bnd).next
   obtain⟨w1,r1,dfs1,cs1,k1,k2,k3,v',k4,k5⟩:=hop call round c1 c2 w0 w r _ rho tm b t dfs cs base s (.inl v) s1 hs (λ_ _=>True.intro) hlen hr hx hb (λb x y=>hf b x (Nat.lt_of_lt_of_le y hnx)) e1 (List.range' (i+1) l.length) k
   have hT1:TmR r1 glob (CZ o.dst (B1 o.dst glob) v tm) (putT t o.dst v'):=(hT.mono k1.le).keep k4 (λx hx=>by
    rw[hx]at q2
    rw[hn]
    exact(Kc q2).1)
   obtain⟨w2,r2,dfs2,cs2,p1,p2,p3,p4⟩:=Ou he c1 c2 l (i+1) (BM o.dst ds) cr (CC o.dst v rho) _ (putT t o.dst v') dfs1 cs1 w1 r1 s1 out s'
    (λj x hj=>by have:=hl (j+1) x (by simpa using hj);rw[<-this];congr 1;omega) q4 ((hs.mono k1.le).push k4 (by rw[hn];exact q2) hT1) hT1 (by rw[J1];exact hn)
    (by cases hd:o.dst<;>simp[BM,CC,hlen]) k1.rel k2 hL.bnd (k1.fresh hf) e2
   refine⟨w2,r2,dfs2,cs2,k1.trans p1,p2,p3.trans k3, ?_⟩
   unfold Ic at p4 ⊢
   cases out with
   |inl tm'=>
    obtain⟨t',z1,z2,z3⟩:=p4
    exact⟨t',z1,by rw[z2,J1],k5.trans z3⟩
   |inr ch=>
    obtain⟨ch',t',td,z1,z2,z3,z4⟩:=p4
    refine⟨ch',t',td,z1,by rw[z2,J1],λd hd=> ?_,k5.trans z4⟩
    rw[z3 d hd,Hz]
    intro hx
    exact hd (Lt (by rw[Array.mem_toList_iff];exact Array.mem_of_getElem? ho) hx)
  ·obtain⟨w1,r1,dfs1,cs1,k1,k2,k3,ch',td,k4,k5⟩:=hop call round c1 c2 w0 w r _ rho tm b t dfs cs base s (.inr ch) s' hs (λ_ _=>True.intro) hlen hr hx hb hf e1 (List.range' (i+1) l.length) k
   exact⟨w1,r1,dfs1,cs1,k1,k2,k3,ch',t,td,k4,rfl,λ_ _=>rfl,k5⟩
end
def Bf (ops:Array Oper)(j i:Nat):Prop:= ∃b,(Region.before ops)[j]?=some b/\b.testBit i=true
theorem Qy (i k:Nat):(2^k).testBit i=decide (i=k):=by
 rw[Nat.testBit_two_pow]
 by_cases h:k=i
 ·simp[h]
 ·simp[h];exact λe=>h e.symm
theorem Z9 (acc:Array Nat)(i:Nat): ∀(l:List Edge) (s:Nat),(l.foldl (λs e=>if Region.binds .any e then s|||2^e.on|||acc.getD e.on 0 else s) s).testBit i=true->
  s.testBit i=true\/ ∃e∈l,Region.binds .any e=true/\(i=e.on\/(acc.getD e.on 0).testBit i=true)
 |[],s,h=> .inl h
 |e::l,s,h=>by
  rcases Z9 acc i l _ h with h|⟨e',h1,h2⟩
  ·replace h:(if Region.binds .any e=true then s|||2^e.on|||acc.getD e.on 0 else s).testBit i=true:=h
   by_cases hb:Region.binds .any e=true
   ·rw[if_pos hb,Nat.testBit_or,Nat.testBit_or,Qy]at h
    simp only[Bool.or_eq_true,decide_eq_true_eq]at h
    rcases h with(h|h)|h
    ·exact .inl h
    ·exact .inr ⟨e,List.mem_cons_self,hb, .inl h⟩
    ·exact .inr ⟨e,List.mem_cons_self,hb, .inr h⟩
   ·rw[if_neg hb]at h
    exact .inl h
  ·exact .inr ⟨e',List.mem_cons_of_mem _ h1,h2⟩
def Ew (acc:Array Nat)(o:Oper):Nat:=o.after.foldl (λs e=>if Region.binds .any e then s|||2^e.on|||acc.getD e.on 0 else s) 0
theorem AkU_ {acc:Array Nat}{o:Oper}{i:Nat}(h:(Ew acc o).testBit i=true): ∃e∈o.after,Region.binds .any e=true/\(i=e.on\/(acc.getD e.on 0).testBit i=true):=by
 unfold Ew at h
 rw[<-Array.foldl_toList]at h
 rcases Z9 acc i _ _ h with h|⟨e,h1,h2⟩
 ·simp at h
 ·exact⟨e,by simpa using h1,h2⟩
theorem Nv: ∀(l:List Oper) (acc:Array Nat),(l.foldl (λacc o=>acc.push (Ew acc o)) acc).size=acc.size+l.length/\
  (∀j,j<acc.size->(l.foldl (λacc o=>acc.push (Ew acc o)) acc)[j]?=acc[j]?)/\
  ∀q o,l[q]?=some o-> ∃acc',acc'.size=acc.size+q/\(∀j,j<acc'.size->(l.foldl (λacc o=>acc.push (Ew acc o)) acc)[j]?=acc'[j]?)/\(l.foldl (λacc o=>acc.push (Ew acc o)) acc)[acc.size+q]?=some (Ew acc' o)
 |[],acc=>⟨am,λ_ _=>rfl,λq o h=>by simp at h⟩
 |o::l,acc=>by
  obtain⟨h1,h2,h3⟩:=Nv l (acc.push (Ew acc o))
  simp only[List.foldl_cons]
  refine⟨by rw[h1];simp;omega,λj hj=> ?_,λq x hx=> ?_⟩
  ·rw[h2 j (by simp;omega),Array.getElem?_push,if_neg J]
  ·cases q with
   |zero=>
    simp at hx
    subst hx
    refine⟨acc,rfl,λj hj=> ?_, ?_⟩
    ·rw[h2 j (by simp;omega),Array.getElem?_push,if_neg J]
    ·rw[Nat.add_zero,h2 acc.size am,Array.getElem?_push,if_pos rfl]
   |succ q=>
    obtain⟨acc',k1,k2,k3⟩:=h3 q x (by simpa using hx)
    refine⟨acc',by rw[k1];simp;omega,k2, ?_⟩
    rw[<-k3]
    congr 1
    simp
    omega
theorem OY (ops:Array Oper):Region.before ops=ops.toList.foldl (λacc o=>acc.push (Ew acc o)) #[]:=by
 unfold Region.before
 rw[<-Array.foldl_toList]
 rfl
theorem Acc_ {ops:Array Oper}{j i:Nat}(h:Bf ops j i): ∃o e,ops[j]?=some o/\e∈o.after/\Region.binds .any e=true/\(i=e.on\/Bf ops e.on i):=by
 obtain⟨b,h1,h2⟩:=h
 rw[OY]at h1
 obtain⟨k1,k2,k3⟩:=Nv ops.toList #[]
 have hj:j<ops.toList.length:=by
  have:=(Array.getElem?_eq_some_iff.1 h1).1
  rw[k1]at this
  simpa using this
 obtain⟨acc',q1,q2,q3⟩:=k3 j ops.toList[j] (List.getElem?_eq_getElem hj)
 rw[show(#[]:Array Nat).size+j=j by simp]at q3
 rw[q3]at h1
 cases h1
 obtain⟨e,p1,p2,p3⟩:=AkU_ h2
 refine⟨ops.toList[j],e,by rw[<-Array.getElem?_toList];exact List.getElem?_eq_getElem hj,p1,p2, ?_⟩
 rcases p3 with p3|p3
 ·exact .inl p3
 ·refine .inr ?_
  have he:e.on<acc'.size:=by
   rcases Nat.lt_or_ge e.on acc'.size with h|h
   ·exact h
   ·rw[Array.getD_eq_getD_getElem?,Array.getElem?_eq_none h]at p3
    simp at p3
  refine⟨acc'.getD e.on 0, ?_,p3⟩
  rw[OY,q2 e.on he,Array.getD_eq_getD_getElem?,Array.getElem?_eq_getElem he]
  rfl
theorem AgR_ (ops:Array Oper):(Region.before ops).toList.length=ops.size:=by
 rw[OY]
 have:=(Nv ops.toList #[]).1
 simpa using this
def cnt (p:Nat->Bool):Nat->Nat
 |0=>0
 |n+1=>cnt p n+if p n then 1 else 0
theorem L4 {p:Nat->Bool}: ∀{n:Nat},cnt p n=0-> ∀i,i<n->p i=false
 |0,_,i,h=>absurd h (Nat.not_lt_zero _)
 |n+1,h,i,hi=>by
  simp only[cnt]at h
  by_cases e:i=n
  ·subst e
   cases hp:p i with
   |false=>rfl
   |true=>rw[hp]at h;simp at h
  ·exact L4 (n:=n) J i J
theorem OX {p:Nat->Bool}: ∀{n:Nat},0<cnt p n-> ∃i,i<n/\p i=true/\ ∀j,j<i->p j=false
 |0,h=>absurd h (Nat.lt_irrefl _)
 |n+1,h=>by
  by_cases h0:0<cnt p n
  ·obtain⟨i,h1,h2,h3⟩:=OX h0
   exact⟨i,J,h2,h3⟩
  ·have h1:cnt p n=0:=J
   cases hp:p n with
   |true=>exact⟨n,J,hp,λj hj=>L4 h1 j hj⟩
   |false=>simp[cnt,h1,hp]at h
theorem Apx_ (n:Nat):cnt (λ_=>true) n=n:=by
 induction n with
 |zero=>rfl
 |succ n ih=>simp[cnt,ih]
theorem M2 {p q:Nat->Bool}: ∀{n:Nat},(∀i,i<n->p i=q i)->cnt p n=cnt q n
 |0,_=>rfl
 |n+1,h=>by simp only[cnt];rw[M2 (n:=n) λi hi=>h i J,h n J]
theorem TM {p q:Nat->Bool}{i:Nat}(hp:p i=true)(hq:q i=false)(h: ∀j,j≠i->p j=q j): ∀{n:Nat},i<n->cnt p n=cnt q n+1
 |0,hi=>absurd hi (Nat.not_lt_zero _)
 |n+1,hi=>by
  simp only[cnt]
  by_cases e:i=n
  ·subst e
   rw[M2 (n:=i) λj hj=>h j J,hp,hq]
   simp
  ·rw[TM hp hq h (n:=n) J,h n (λx=>e x.symm)]
   omega
theorem Rw_ {α:Type}(m:M α)(s:St):apartO m s=match m ⟨s.mem,s.next,s.next,[],[],s.cx⟩with
  | .some a s1=>(match s1.cx with| .no=> .some (a,⟨s.next,s1.next,s1.rd,s1.wr⟩) ⟨s1.mem,s1.next,s.lim,s.rd,s.wr, .no⟩|_=> .none)
  |_=> .none:=by
 obtain⟨mem,next,lim,rd,wr,cx⟩:=s
 unfold apartO
 simp only
 cases m ⟨mem,next,next,[],[],cx⟩with
 |none=>rfl
 |some a s1=>obtain⟨mem',next',lim',rd',wr',cx'⟩:=s1;cases cx'<;>rfl
 |pan c s1=>rfl
structure TrAt (m:M Value)(mem:T Cell)(nx:Nat)(v:Value)(mem1:T Cell)(nx1:Nat)(Rd Wr:Nat->Prop)(lr lw:List Nat):Prop where
 run:LocG m ⟨mem,nx,nx,[],[], .no⟩ (.inl v) ⟨mem1,nx1,nx,lr,lw, .no⟩ Rd Wr lr lw
 ird: ∀l,Rd l->l<nx->l∈lr
 iwr: ∀l,Wr l->l<nx->l∈lw
theorem Ji {m:M Value}(hm:Loc m){s s':St}{o:Out (Value×OpLog)}(hs:s.cx= .no)(h:apartO m s=rOf o s'):
  ∃v mem1 nx1 Rd Wr lr lw,o= .inl (v,⟨s.next,nx1,lr,lw⟩)/\s'=⟨mem1,nx1,s.lim,s.rd,s.wr, .no⟩/\TrAt m s.mem s.next v mem1 nx1 Rd Wr lr lw/\(Bnd s->LocG (apartO m) s o s' Rd Wr [] []):=by
 rw[Rw_]at h
 cases e:m ⟨s.mem,s.next,s.next,[],[],s.cx⟩with
 |none=>rw[e]at h;exact(Aw h).elim
 |pan c s1=>rw[e]at h;exact(Aw h).elim
 |some v s1=>
  rw[e]at h
  rw[hs]at e
  obtain⟨mem1,nx1,lim1,lr,lw,cx1⟩:=s1
  cases cx1 with
  |cx a b=>exact(Aw h).elim
  |no=>
   obtain⟨rfl,rfl⟩:=A6 h
   obtain⟨Rd,Wr,dr,dw,g,i1,i2⟩:=hm.at' _ (.inl v) _ e (Nat.le_refl _)
   have e1:lr=dr:=by have:=g.rd;simpa using this
   have e2:lw=dw:=by have:=g.wr;simpa using this
   have e3:lim1=s.next:=g.lim
   subst e1
   subst e2
   subst e3
   refine⟨v,mem1,nx1,Rd,Wr,lr,lw,rfl,rfl,⟨g,i1,i2⟩,λhb=>⟨rfl,rfl,g.nxt,rfl, ?_,g.rlt,g.wlt,g.old,λt e1 e2 e3 e4=> ?_⟩⟩
   ·exact Nat.le_trans hb g.nxt
   ·obtain⟨t',q1,q2,q3,q4,q5,q6,q7,q8⟩:=g.any ⟨t.mem,t.next,t.next,[],[], .no⟩ e1 e1 rfl e4
    obtain⟨tm,tn,tl,tr,tw,tc⟩:=t'
    simp only[List.append_nil]at q2 q3 q4 q5 q6
    subst q2
    subst q4
    subst q5
    subst q6
    refine⟨⟨tm,tn,t.lim,t.rd,t.wr, .no⟩, ?_,rfl,e2,rfl,rfl,rfl,q7,q8⟩
    rw[Rw_,e3,hs,q1]
    simp only[rOf,e1]
theorem T2 (call round:Ag)(g:Option (Nat×Bool))(d:Option Nat)(k:Bool)(f:OpT)(l:List COp)(acc:List OpLog)(rho:Rho)(tm:T Value):
  D5 call round (⟨g,d,k,f⟩::l) acc rho tm=M.bind (apartO (BG g rho (f call round rho tm))) λp=>D5 call round l (p.2::acc) (CC d p.1 rho) (CZ d k p.1 tm):=by
 show M.bind (apartO (BG g rho (f call round rho tm))) (λp=>Hx d k p.1 tm λtm=>D5 call round l (p.2::acc) (CC d p.1 rho) tm)=_
 congr
 funext p
 rw[Ls_]
structure Tra where
 V:Nat->Value
 Mm:Nat->T Cell
 Nx:Nat->Nat
 Rh:Nat->Rho
 Tm:Nat->T Value
 Rd:Nat->Nat->Prop
 Wr:Nat->Nat->Prop
 lr:Nat->List Nat
 lw:Nat->List Nat
def Tra.log (x:Tra)(i:Nat):OpLog:=⟨x.Nx i,x.Nx (i+1),x.lr i,x.lw i⟩
def sh {α:Type}(a:α)(f:Nat->α):Nat->α
 |0=>a
 |i+1=>f i
structure TraOK (call round:Ag)(cops:List COp)(x:Tra):Prop where
 at': ∀i c,cops[i]?=some c->TrAt (BG c.guard (x.Rh i) (c.run call round (x.Rh i) (x.Tm i))) (x.Mm i) (x.Nx i) (x.V i) (x.Mm (i+1)) (x.Nx (i+1)) (x.Rd i) (x.Wr i) (x.lr i) (x.lw i)/\
  x.Rh (i+1)=CC c.slot (x.V i) (x.Rh i)/\x.Tm (i+1)=CZ c.slot c.keep (x.V i) (x.Tm i)
theorem Zo {call round:Ag}: ∀(cops:List COp) (acc:List OpLog) (rho:Rho) (tm:T Value) (s:St) (o:Out ((Rho×T Value)×List OpLog)) (s':St),
  (∀c∈cops,∀rho tm,Loc (BG c.guard rho (c.run call round rho tm)))->s.cx= .no->D5 call round cops acc rho tm s=rOf o s'->
  ∃x:Tra,TraOK call round cops x/\x.Mm 0=s.mem/\x.Nx 0=s.next/\x.Rh 0=rho/\x.Tm 0=tm/\o= .inl ((x.Rh cops.length,x.Tm cops.length),((List.range cops.length).map x.log).reverse++acc)/\
   s'=⟨x.Mm cops.length,x.Nx cops.length,s.lim,s.rd,s.wr, .no⟩
 |[],acc,rho,tm,s,o,s',hl,hs,h=>by
  obtain⟨rfl,rfl⟩:=A6 (show R.some ((rho,tm),acc) s=rOf o s' from h)
  refine⟨⟨λ_=>undef,λ_=>s'.mem,λ_=>s'.next,λ_=>rho,λ_=>tm,λ_ _=>False,λ_ _=>False,λ_=>[],λ_=>[]⟩,⟨λi c hc=>by simp at hc⟩,rfl,rfl,rfl,rfl,rfl, ?_⟩
  obtain⟨a,b,c,d,e,f⟩:=s'
  simp only at hs
  rw[hs]
 |⟨g,d,k,f⟩::l,acc,rho,tm,s,o,s',hl,hs,h=>by
  rw[T2]at h
  have hm:Loc (BG g rho (f call round rho tm)):=hl _ List.mem_cons_self rho tm
  rcases Cj h with⟨p,s1,e1,e2⟩|⟨ch,e1,rfl⟩
  ·obtain⟨v,mem1,nx1,Rd,Wr,lr,lw,q1,rfl,q3,_⟩:=Ji hm hs (o:= .inl p) e1
   cases q1
   obtain⟨x,k1,k2,k3,k4,k5,k6,k7⟩:=Zo l _ _ _ _ o s' (λc hc=>hl c (List.mem_cons_of_mem _ hc)) rfl e2
   refine⟨⟨sh v x.V,sh s.mem x.Mm,sh s.next x.Nx,sh rho x.Rh,sh tm x.Tm,sh Rd x.Rd,sh Wr x.Wr,sh lr x.lr,sh lw x.lw⟩,⟨λi c hc=> ?_⟩,rfl,rfl,rfl,rfl, ?_, ?_⟩
   ·cases i with
    |zero=>
     simp at hc
     subst hc
     simp only[sh,k2,k3,k4,k5]
     exact⟨q3,trivial,trivial⟩
    |succ i=>exact k1.at' i c (by simpa using hc)
   ·rw[k6]
    simp only[List.length_cons,List.range_succ_eq_map,List.map_cons,List.map_map,List.reverse_cons,List.append_assoc,List.singleton_append]
    congr 2
    simp only[Tra.log,sh,k3]
    rfl
   ·rw[k7];rfl
  ·obtain⟨v,mem1,nx1,Rd,Wr,lr,lw,q1,_⟩:=Ji hm hs (o:= .inr ch) e1
   cases q1
theorem Ar_ {call round:Ag}: ∀(cops:List COp) (acc:List OpLog) (rho:Rho) (tm:T Value) (s:St) (o:Out ((Rho×T Value)×List OpLog)) (s':St),
  (∀c∈cops,∀rho tm,Loc (BG c.guard rho (c.run call round rho tm)))->s.cx= .no->Bnd s->D5 call round cops acc rho tm s=rOf o s'->
  ∃Rd Wr tm' es,o= .inl (tm',es)/\LocG (D5 call round cops acc rho tm) s o s' Rd Wr [] []/\(∀g∈acc,g∈es)/\(∀l,Rd l->l<s.next-> ∃g∈es,l∈g.rd)/\(∀l,Wr l->l<s.next-> ∃g∈es,l∈g.wr)
 |[],acc,rho,tm,s,o,s',hl,hs,hb,h=>by
  obtain⟨rfl,rfl⟩:=A6 (show R.some ((rho,tm),acc) s=rOf o s' from h)
  refine⟨λ_=>False,λ_=>False,(rho,tm),acc,rfl,⟨rfl,rfl,Nat.le_refl _,rfl,hb,λ_ e=>e.elim,λ_ e=>e.elim,λ_ _=>rfl,λt e1 e2 e3 _=>⟨t,rfl,e1,e2,e3,rfl,rfl,λ_ e=>e.elim,λ_ _=>rfl⟩⟩,λg e=>e,λ_ e=>e.elim,λ_ e=>e.elim⟩
 |⟨g,d,k,f⟩::l,acc,rho,tm,s,o,s',hl,hs,hb,h=>by
  rw[T2]at h ⊢
  have hm:Loc (BG g rho (f call round rho tm)):=hl _ List.mem_cons_self rho tm
  rcases Cj h with⟨p,s1,e1,e2⟩|⟨ch,e1,rfl⟩
  ·obtain⟨v,mem1,nx1,Rd,Wr,lr,lw,q1,rfl,q3,q4⟩:=Ji hm hs (o:= .inl p) e1
   cases q1
   have g1:=q4 hb
   obtain⟨Rd2,Wr2,tm',es,k1,k2,k3,k4,k5⟩:=Ar_ l _ _ _ _ o s' (λc hc=>hl c (List.mem_cons_of_mem _ hc)) rfl g1.bnd e2
   refine⟨_,_,tm',es,k1,g1.seq k2 (λt t1 q=>by unfold M.bind;rw[q];rfl),λg hg=>k3 g (List.mem_cons_of_mem _ hg),λl e x=> ?_,λl e x=> ?_⟩
   ·rcases e with e|e
    ·exact⟨_,k3 _ List.mem_cons_self,q3.ird l e x⟩
    ·exact k4 l e (Nat.lt_of_lt_of_le x g1.nxt)
   ·rcases e with e|e
    ·exact⟨_,k3 _ List.mem_cons_self,q3.iwr l e x⟩
    ·exact k5 l e (Nat.lt_of_lt_of_le x g1.nxt)
  ·obtain⟨v,mem1,nx1,Rd,Wr,lr,lw,q1,_⟩:=Ji hm hs (o:= .inr ch) e1
   cases q1
theorem HK (lim:Nat)(base:List Nat): ∀(l:List Nat),addL lim l base=addL lim l []++base
 |[]=>rfl
 |a::l=>by
  have h: ∀b,addL lim (a::l) b=notes a lim (addL lim l b):=λ_=>rfl
  rw[h,h,HK lim base l,E6,E6 (l:=addL lim l []),List.append_assoc]
theorem E0 {lim x:Nat}(hx:x<lim): ∀{l base:List Nat},(x∈l\/x∈base)->x∈addL lim l base
 |[],base,h=>h.elim (λh=>by cases h) id
 |a::l,base,h=>by
  show x∈notes a lim (addL lim l base)
  rw[JF]
  rcases h with h|h
  ·rcases List.mem_cons.1 h with rfl|h
   ·rw[if_pos hx];exact List.mem_cons_self
   ·split
    ·exact List.mem_cons_of_mem _ (E0 hx (.inl h))
    ·exact E0 hx (.inl h)
  ·split
   ·exact List.mem_cons_of_mem _ (E0 hx (.inr h))
   ·exact E0 hx (.inr h)
theorem O8 (lim:Nat)(base:List Nat): ∀(l:List OpLog),rdsL lim l base=rdsL lim l []++base
 |[]=>rfl
 |g::l=>by
  show addL lim g.rd (rdsL lim l base)=addL lim g.rd (rdsL lim l [])++base
  rw[HK,O8 lim base l,HK (base:=rdsL lim l []),List.append_assoc]
theorem OD (lim:Nat)(base:List Nat): ∀(l:List OpLog),wrsL lim l base=wrsL lim l []++base
 |[]=>rfl
 |g::l=>by
  show addL lim g.wr (wrsL lim l base)=addL lim g.wr (wrsL lim l [])++base
  rw[HK,OD lim base l,HK (base:=wrsL lim l []),List.append_assoc]
theorem Jo_ {lim x:Nat}(hx:x<lim): ∀{l:List OpLog} {g:OpLog},g∈l->x∈g.rd->x∈rdsL lim l []
 |g'::l,g,h,e=>by
  show x∈addL lim g'.rd (rdsL lim l [])
  rcases List.mem_cons.1 h with rfl|h
  ·exact E0 hx (.inl e)
  ·exact E0 hx (.inr (Jo_ hx h e))
theorem AX_ {lim x:Nat}(hx:x<lim): ∀{l:List OpLog} {g:OpLog},g∈l->x∈g.wr->x∈wrsL lim l []
 |g'::l,g,h,e=>by
  show x∈addL lim g'.wr (wrsL lim l [])
  rcases List.mem_cons.1 h with rfl|h
  ·exact E0 hx (.inl e)
  ·exact E0 hx (.inr (AX_ hx h e))
theorem GM {n0 x:Nat}: ∀{l acc:List Nat},(x∈l/\n0<=x)\/x∈acc->x∈Bi n0 l acc
 |[],acc,h=>h.elim (λh=>by cases h.1) id
 |a::l,acc,h=>by
  show x∈Bool.rec (motive:=λ_=>List Nat) (Bi n0 l acc) (a::Bi n0 l acc) (Nat.ble n0 a)
  cases hb:Nat.ble n0 a with
  |true=>
   rcases h with⟨h,h'⟩|h
   ·rcases List.mem_cons.1 h with rfl|h
    ·exact List.mem_cons_self
    ·exact List.mem_cons_of_mem _ (GM (.inl ⟨h,h'⟩))
   ·exact List.mem_cons_of_mem _ (GM (.inr h))
  |false=>
   rcases h with⟨h,h'⟩|h
   ·rcases List.mem_cons.1 h with rfl|h
    ·rw[Nat.ble_eq_true_of_le h']at hb;cases hb
    ·exact GM (.inl ⟨h,h'⟩)
   ·exact GM (.inr h)
theorem U3 {lo hi:Nat}: ∀{l:List Nat},Db lo hi l=false-> ∀x∈l,¬(lo<=x/\x<hi)
 |[],_,x,hx=>by cases hx
 |a::l,h,x,hx=>by
  replace h:Bool.rec (motive:=λ_=>Bool) (Db lo hi l) (Bool.rec (motive:=λ_=>Bool) (Db lo hi l) true (Nat.blt a hi)) (Nat.ble lo a)=false:=h
  intro⟨h1,h2⟩
  rcases List.mem_cons.1 hx with rfl|hx
  ·rw[Nat.ble_eq_true_of_le h1,show Nat.blt x hi=true from Nat.ble_eq_true_of_le h2]at h
   cases h
  ·refine U3 (l:=l) ?_ x hx ⟨h1,h2⟩
   cases hb:Nat.ble lo a with
   |false=>rw[hb]at h;exact h
   |true=>
    cases hb2:Nat.blt a hi with
    |false=>rw[hb,hb2]at h;exact h
    |true=>rw[hb,hb2]at h;cases h
theorem Bc_ {bj:Nat}{news:List Nat}: ∀{acc:List OpLog} {i:Nat},Ef bj news acc i=true-> ∀q a,acc[q]?=some a->bj.testBit (i+q)=false->Db a.lo a.hi news=false
 |[],i,_,q,a,hq,_=>by simp at hq
 |m::acc,i,h,q,a,hq,hb=>by
  replace h:((bj.testBit i|| !Db m.lo m.hi news)&&Ef bj news acc (Nat.succ i))=true:=h
  rw[Bool.and_eq_true,Bool.or_eq_true]at h
  cases q with
  |zero=>
   simp at hq
   subst hq
   rw[Nat.add_zero]at hb
   rcases h.1 with h1|h1
   ·rw[hb]at h1;cases h1
   ·simpa using h1
  |succ q=>exact Bc_ h.2 q a (by simpa using hq) (by rw[<-hb];congr 1;omega)
theorem Mr_ {n0:Nat}{all:List OpLog}: ∀{l:List OpLog} {bef:List Nat} {j:Nat},Gk n0 all l bef j=true-> ∀q m b,l[q]?=some m->bef[q]?=some b->
  ∀i a,(all.take (j+q))[i]?=some a->b.testBit i=false-> ∀x,(x∈m.rd\/x∈m.wr)->n0<=x-> ¬(a.lo<=x/\x<a.hi)
 |[],bef,j,_,q,m,b,hq,_=>by simp at hq
 |m'::l,[],j,_,q,m,b,_,hb=>by simp at hb
 |m'::l,b'::bef,j,h,q,m,b,hq,hb=>by
  replace h:(GJ b' (Bi n0 m'.rd (Bi n0 m'.wr [])) (all.take j)&&Gk n0 all l bef (Nat.succ j))=true:=h
  rw[Bool.and_eq_true]at h
  cases q with
  |zero=>
   simp at hq hb
   subst hq
   subst hb
   intro i a ha hbit x hx hn
   have hmem:x∈Bi n0 m'.rd (Bi n0 m'.wr []):=GM (hx.elim (λe=> .inl ⟨e,hn⟩) (λe=> .inr (GM (.inl ⟨e,hn⟩))))
   have h1:=h.1
   generalize Bi n0 m'.rd (Bi n0 m'.wr [])=news at h1 hmem
   cases news with
   |nil=>cases hmem
   |cons y ys=>
    have h2:Ef b' (y::ys) (all.take j) 0=true:=h1
    exact U3 (Bc_ h2 i a ha (by rw[Nat.zero_add];exact hbit)) x hmem
  |succ q=>
   intro i a ha
   exact Mr_ h.2 q m b (by simpa using hq) (by simpa using hb) i a (by rw[<-ha];congr 2;omega)
theorem Hj {x:Nat}: ∀{l:List Nat} {m:Nat},(x∈l\/m.testBit x=true)->(BQ l m).testBit x=true
 |[],m,h=>h.elim (λh=>by cases h) id
 |a::l,m,h=>by
  show(fN (Nat.lor m (Nat.shiftLeft (nat_lit 1) a)) (BQ l)).testBit x=true
  rw[Ar]
  have e:Nat.lor m (Nat.shiftLeft (nat_lit 1) a)=m|||2^a:=by
   show m|||(1<<<a)=_
   rw[Nat.one_shiftLeft]
  rw[e]
  refine Hj ?_
  rw[Nat.testBit_or,Qy]
  rcases h with h|h
  ·rcases List.mem_cons.1 h with rfl|h
   ·right;simp
   ·exact .inl h
  ·right;simp[h]
theorem KM (m:OpLog):Bx m=(BQ m.rd 0,BQ m.wr 0):=by
 obtain⟨lo,hi,rd,wr⟩:=m
 show fN (BQ rd 0) (λr=>fN (BQ wr 0) λw=>(r,w))=_
 rw[Ar,Ar]
theorem Mg: ∀(l:List OpLog),KA l=l.map Bx
 |[]=>rfl
 |m::l=>by
  have h: ∀p:Nat×Nat,Prod.rec (motive:=λ_=>List (Nat×Nat)) (λr w=>(r,w)::KA l) p=p::l.map Bx:=by
   intro p
   rw[Mg l]
  exact h (Bx m)
theorem Yi {a b x:Nat}(h:Nat.beq (Nat.land a b) (nat_lit 0)=true)(h1:a.testBit x=true)(h2:b.testBit x=true):False:=by
 have e:a&&&b=0:=Nat.eq_of_beq_eq_true h
 have:=congrArg (λn=>n.testBit x) e
 simp only[Nat.testBit_and,h1,h2,Nat.zero_testBit]at this
 cases this
theorem AiF_ {a m:OpLog}(h:Eo (Bx a) (Bx m)=true)(x:Nat): ¬(x∈a.wr/\(x∈m.rd\/x∈m.wr))/\ ¬(x∈m.wr/\x∈a.rd):=by
 unfold Eo at h
 rw[Bool.and_eq_true,KM,KM]at h
 refine⟨λ⟨h1,h2⟩=>Yi h.1 (Hj (.inl h1)) ?_,λ⟨h1,h2⟩=>Yi h.2 (Hj (.inl h1)) (Hj (.inl h2))⟩
 show(BQ m.rd 0|||BQ m.wr 0).testBit x=true
 rw[Nat.testBit_or]
 rcases h2 with h2|h2
 ·rw[Hj (.inl h2)];rfl
 ·rw[Hj (m:=0) (l:=m.wr) (.inl h2),Bool.or_true]
theorem CV_ {bj:Nat}{m:Nat×Nat}: ∀{acc:List (Nat×Nat)} {i:Nat},FW bj m acc i=true-> ∀q a,acc[q]?=some a->bj.testBit (i+q)=false->Eo a m=true
 |[],i,_,q,a,hq,_=>by simp at hq
 |m'::acc,i,h,q,a,hq,hb=>by
  replace h:((bj.testBit i||Eo m' m)&&FW bj m acc (Nat.succ i))=true:=h
  rw[Bool.and_eq_true,Bool.or_eq_true]at h
  cases q with
  |zero=>
   simp at hq
   subst hq
   rw[Nat.add_zero]at hb
   rcases h.1 with h1|h1
   ·rw[hb]at h1;cases h1
   ·exact h1
  |succ q=>exact CV_ h.2 q a (by simpa using hq) (by rw[<-hb];congr 1;omega)
theorem Uw {all:List (Nat×Nat)}: ∀{l:List (Nat×Nat)} {bef:List Nat} {j:Nat},HP all l bef j=true-> ∀q m b,l[q]?=some m->bef[q]?=some b->
  ∀i a,(all.take (j+q))[i]?=some a->b.testBit i=false->Eo a m=true
 |[],bef,j,_,q,m,b,hq,_=>by simp at hq
 |m'::l,[],j,_,q,m,b,_,hb=>by simp at hb
 |m'::l,b'::bef,j,h,q,m,b,hq,hb=>by
  replace h:(FW b' m' (all.take j) 0&&HP all l bef (Nat.succ j))=true:=h
  rw[Bool.and_eq_true]at h
  cases q with
  |zero=>
   simp at hq hb
   subst hq
   subst hb
   intro i a ha hbit
   exact CV_ h.1 i a ha (by rw[Nat.zero_add];exact hbit)
  |succ q=>
   intro i a ha
   exact Uw h.2 q m b (by simpa using hq) (by simpa using hb) i a (by rw[<-ha];congr 2;omega)
theorem AqB_ {n0:Nat}{l:List OpLog}{bef:List Nat}(h:BN n0 l bef=true){i j:Nat}{a m:OpLog}{b:Nat}(hij:i<j)(ha:l[i]?=some a)(hm:l[j]?=some m)(hb:bef[j]?=some b)(hbit:b.testBit i=false):
  (∀x,(x∈m.rd\/x∈m.wr)->n0<=x-> ¬(a.lo<=x/\x<a.hi))/\(∀x,¬(x∈a.wr/\(x∈m.rd\/x∈m.wr))/\ ¬(x∈m.wr/\x∈a.rd)):=by
 unfold BN at h
 rw[Bool.and_eq_true,Bool.or_eq_true]at h
 have hat:(l.take (0+j))[i]?=some a:=by rw[Nat.zero_add,List.getElem?_take,if_pos hij];exact ha
 refine⟨Mr_ h.1 j m b hm hb i a hat hbit, ?_⟩
 rcases h.2 with h2|h2
 ·have q: ∀{g:OpLog} {k:Nat},l[k]?=some g->g.wr=[]:=by
   intro g k hk
   have:=List.all_eq_true.1 h2 g (List.mem_of_getElem? hk)
   simpa using this
  intro x
  rw[q ha,q hm]
  exact⟨λe=>(by cases e.1),λe=>(by cases e.1)⟩
 ·rw[Mg]at h2
  refine AiF_ (Uw h2 j (Bx m) b (by rw[List.getElem?_map,hm];rfl) hb i (Bx a) ?_ hbit)
  rw[<-List.map_take,List.getElem?_map,hat]
  rfl
theorem MT_: ∀{ops:List Oper} {j:Nat},MM ops j=true-> ∀q o,ops[q]?=some o-> ∀e∈o.after,Region.binds .any e=true->e.on<j+q
 |[],j,_,q,o,hq=>by simp at hq
 |p::ops,j,h,q,o,hq=>by
  replace h:((p.after.toList.all λe=> !Region.binds .any e||Nat.blt e.on j)&&MM ops (Nat.succ j))=true:=h
  rw[Bool.and_eq_true]at h
  cases q with
  |zero=>
   simp at hq
   subst hq
   intro e he hb
   have:=List.all_eq_true.1 h.1 e (by simpa using he)
   rw[hb]at this
   exact Bg (by simpa using this)
  |succ q=>
   intro e he hb
   have:=MT_ h.2 q o (by simpa using hq) e he hb
   omega
theorem GS_ {bef:List Nat}{j:Nat}{looks:List Nat}: ∀{l:List Oper} {i:Nat},Ib bef j looks l i=true-> ∀q o d,l[q]?=some o->o.dst=some d->d∈looks->i+q≠j-> ∃b,bef[max (i+q) j]?=some b/\b.testBit (min (i+q) j)=true
 |[],i,_,q,o,d,hq,_,_,_=>by simp at hq
 |p::l,i,h,q,o,d,hq,hd,hl,hn=>by
  replace h:((match p.dst with
   |some d=>Nat.beq i j|| !(looks.any λt=>Nat.beq t d)||(match bef[Nat.max i j]? with|some b=>b.testBit (Nat.min i j)|none=>false)
   |none=>true)&&Ib bef j looks l (Nat.succ i))=true:=h
  rw[Bool.and_eq_true]at h
  cases q with
  |zero=>
    simp at hq
    subst hq
    rw[Nat.add_zero]at hn ⊢
    have h1:=h.1
    rw[hd]at h1
    simp only[Bool.or_eq_true]at h1
    rcases h1 with(h1|h1)|h1
    ·exact absurd (Nat.eq_of_beq_eq_true h1) hn
    ·rw[Bool.not_eq_true']at h1
     have:=List.any_eq_false.1 h1 d hl
     exact absurd (Nat.beq_refl d) this
    ·change (match bef[max i j]? with|some b=>b.testBit (min i j)|none=>false)=true at h1
     cases hb:bef[max i j]? with
     |none=>rw[hb]at h1;cases h1
     |some b=>rw[hb]at h1;exact⟨b,rfl,h1⟩
  |succ q=>
    have:=GS_ h.2 q o d (by simpa using hq) hd hl J
    rw[show Nat.succ i+q=i+(q+1) by omega]at this
    exact this
theorem Zk {all:List Oper}{bef:List Nat}: ∀{l:List Oper} {j:Nat},OI all bef l j=true-> ∀q o,l[q]?=some o->Ib bef (j+q) (DI all o) all 0=true
 |[],j,_,q,o,hq=>by simp at hq
 |p::l,j,h,q,o,hq=>by
  replace h:(Ib bef j (DI all p) all 0&&OI all bef l (Nat.succ j))=true:=h
  rw[Bool.and_eq_true]at h
  cases q with
  |zero=>simp at hq;subst hq;exact h.1
  |succ q=>
   have:=Zk h.2 q o (by simpa using hq)
   rw[show Nat.succ j+q=j+(q+1) by omega]at this
   exact this
section
variable {E:Env}{glob N:Nat}{ops:Array Oper}{call round:Ag}{cops:List COp}{x:Tra}{m:Nat}
def dsAt (ops:List Oper)(i:Nat):List Nat:=(ops.take i).foldl (λds o=>BM o.dst ds) []
theorem Jm: ∀(l:List Oper) (pre:List Oper) (cs:List COp),BX E glob N ops.toList l (pre.foldl (λds o=>BM o.dst ds) [])=some cs->cs.length=l.length/\
  ∀i o,l[i]?=some o-> ∃g f,cs[i]?=some ⟨g,o.dst,B1 o.dst glob,f⟩/\Ep ops.toList (dsAt (pre++l) (pre.length+i)) o.guard=some g/\newD o.dst N (dsAt (pre++l) (pre.length+i))=true/\DG E (dsAt (pre++l) (pre.length+i)) o.op= .mk f
 |[],pre,cs,h=>by cases h;exact⟨rfl,λi o hi=>by simp at hi⟩
 |o::l,pre,cs,h=>by
  obtain⟨g,f,r,rfl,h1,h2,h3,h4⟩:=KR h
  have hp:(pre++[o]).foldl (λds o=>BM o.dst ds) []=BM o.dst (pre.foldl (λds o=>BM o.dst ds) []):=by rw[List.foldl_append];rfl
  obtain⟨k1,k2⟩:=Jm l (pre++[o]) r (by rw[hp];exact h4)
  refine⟨by simp[k1],λi x hi=> ?_⟩
  cases i with
  |zero=>
   simp at hi
   subst hi
   have e:dsAt (pre++o::l) (pre.length+0)=pre.foldl (λds o=>BM o.dst ds) []:=by unfold dsAt;simp
   rw[e]
   exact⟨g,f,rfl,h1,h2,h3⟩
  |succ i=>
   obtain⟨g',f',q1,q2,q3,q4⟩:=k2 i x (by simpa using hi)
   have e:dsAt (pre++[o]++l) ((pre++[o]).length+i)=dsAt (pre++o::l) (pre.length+(i+1)):=by
    rw[List.append_assoc]
    simp only[List.length_append,List.length_cons,List.length_nil,List.singleton_append]
    congr 1
    omega
   rw[e]at q2 q3 q4
   exact⟨g',f',by simpa using q1,q2,q3,q4⟩
theorem SU {l:List Oper}{i:Nat}{o:Oper}(h:l[i]?=some o):dsAt l (i+1)=BM o.dst (dsAt l i):=by
 unfold dsAt
 rw[List.take_succ_eq_append_getElem (List.getElem?_eq_some_iff.1 h).1,List.foldl_append,(List.getElem?_eq_some_iff.1 h).2]
 rfl
structure Pre (E:Env)(glob N:Nat)(ops:Array Oper)(call round:Ag)(cops:List COp)(x:Tra)(m:Nat):Prop where
 comp: ∀i o,ops[i]?=some o-> ∃g f,cops[i]?=some ⟨g,o.dst,B1 o.dst glob,f⟩/\Ep ops.toList (dsAt ops.toList i) o.guard=some g/\newD o.dst N (dsAt ops.toList i)=true/\DG E (dsAt ops.toList i) o.op= .mk f
 len:m<=ops.size
 tra:TraOK call round (cops.take m) x
 rh0:x.Rh 0=[]
 draw:FB ops.toList (Region.before ops).toList=true
 apart:BN (x.Nx 0) ((List.range m).map x.log) (Region.before ops).toList=true
variable (H:Pre E glob N ops call round cops x m)
include H
theorem Pre.op {i:Nat}(hi:i<m): ∃o g f,ops[i]?=some o/\Ep ops.toList (dsAt ops.toList i) o.guard=some g/\newD o.dst N (dsAt ops.toList i)=true/\DG E (dsAt ops.toList i) o.op= .mk f/\
  TrAt (BG g (x.Rh i) (f call round (x.Rh i) (x.Tm i))) (x.Mm i) (x.Nx i) (x.V i) (x.Mm (i+1)) (x.Nx (i+1)) (x.Rd i) (x.Wr i) (x.lr i) (x.lw i)/\
  x.Rh (i+1)=CC o.dst (x.V i) (x.Rh i)/\x.Tm (i+1)=CZ o.dst (B1 o.dst glob) (x.V i) (x.Tm i):=by
 have hi':i<ops.size:=Nat.lt_of_lt_of_le hi H.len
 obtain⟨g,f,h1,h2,h3,h4⟩:=H.comp i ops[i] (Array.getElem?_eq_getElem hi')
 obtain⟨k1,k2,k3⟩:=H.tra.at' i _ (by rw[List.getElem?_take,if_pos hi];exact h1)
 exact⟨ops[i],g,f,Array.getElem?_eq_getElem hi',h2,h3,h4,k1,k2,k3⟩
theorem Pre.nx1 {i:Nat}(hi:i<m):x.Nx i<=x.Nx (i+1):=let ⟨_,_,_,_,_,_,_,k,_⟩:=H.op hi;k.run.nxt
theorem Pre.nx {i:Nat}: ∀{j:Nat},i<=j->j<=m->x.Nx i<=x.Nx j
 |0,h,_=>by rw[Nat.le_zero.1 h];exact Nat.le_refl _
 |j+1,h,hj=>by
  rcases Nat.lt_or_ge j i with h1|h1
  ·rw[show i=j+1 by omega];exact Nat.le_refl _
  ·exact Nat.le_trans (Pre.nx (j:=j) h1 J) (H.nx1 J)
theorem Pre.old {i:Nat}(hi:i<m){l:Nat}(h: ¬x.Wr i l):T.get (x.Mm (i+1)) l=T.get (x.Mm i) l:=let ⟨_,_,_,_,_,_,_,k,_⟩:=H.op hi;k.run.old l h
theorem Pre.sep {i j:Nat}(hij:i<j)(hj:j<m)(hb: ¬Bf ops j i):(∀l,¬(x.Wr i l/\(x.Rd j l\/x.Wr j l)))/\(∀l,¬(x.Wr j l/\x.Rd i l)):=by
 obtain⟨_,_,_,_,_,_,_,ki,_⟩:=H.op (i:=i) J
 obtain⟨_,_,_,_,_,_,_,kj,_⟩:=H.op hj
 have hbl:((Region.before ops).toList).length=ops.size:=AgR_ ops
 have hb0:(Region.before ops).toList[j]?=some ((Region.before ops).toList[j]'(by rw[hbl];exact Nat.lt_of_lt_of_le hj H.len)):=List.getElem?_eq_getElem _
 have hbit:((Region.before ops).toList[j]'(by rw[hbl];exact Nat.lt_of_lt_of_le hj H.len)).testBit i=false:=by
  cases h:((Region.before ops).toList[j]'(by rw[hbl];exact Nat.lt_of_lt_of_le hj H.len)).testBit i with
  |false=>rfl
  |true=>exact absurd ⟨_,by rw[<-Array.getElem?_toList];exact hb0,h⟩ hb
 have hli:((List.range m).map x.log)[i]?=some (x.log i):=by rw[List.getElem?_map,List.getElem?_range J];rfl
 have hlj:((List.range m).map x.log)[j]?=some (x.log j):=by rw[List.getElem?_map,List.getElem?_range J];rfl
 obtain⟨s1,s2⟩:=AqB_ H.apart hij hli hlj hb0 hbit
 have n1:x.Nx (i+1)<=x.Nx j:=H.nx J J
 have n0:x.Nx 0<=x.Nx i:=H.nx J J
 constructor
 ·intro l ⟨h1,h2⟩
  have hl:l<x.Nx (i+1):=ki.run.wlt l h1
  have hlog:l∈x.lr j\/l∈x.lw j:=h2.elim (λe=> .inl (kj.ird l e J)) (λe=> .inr (kj.iwr l e J))
  rcases Nat.lt_or_ge l (x.Nx i)with h3|h3
  ·exact(s2 l).1 ⟨ki.iwr l h1 h3,hlog⟩
  ·exact s1 l hlog J ⟨h3,hl⟩
 ·intro l ⟨h1,h2⟩
  have hl:l<x.Nx (i+1):=ki.run.rlt l h2
  have hlog:l∈x.lw j:=kj.iwr l h1 J
  rcases Nat.lt_or_ge l (x.Nx i)with h3|h3
  ·exact(s2 l).2 ⟨hlog,ki.ird l h2 h3⟩
  ·exact s1 l (.inr hlog) J ⟨h3,hl⟩
theorem Pre.edge {j:Nat}{o:Oper}(ho:ops[j]?=some o){e:Edge}(he:e∈o.after)(hb:Region.binds .any e=true):e.on<j:=by
 have h:=H.draw
 unfold FB at h
 rw[Bool.and_eq_true,Bool.and_eq_true]at h
 have:=MT_ h.1.2 j o (by rw[Array.getElem?_toList];exact ho) e he hb
 omega
theorem Pre.looks {j i:Nat}{o p:Oper}{d:Nat}(ho:ops[j]?=some o)(hp:ops[i]?=some p)(hd:p.dst=some d)(hl:d∈DI ops.toList o)(hne:i≠j):Bf ops (max i j) (min i j):=by
 have h:=H.draw
 unfold FB at h
 rw[Bool.and_eq_true,Bool.and_eq_true]at h
 have h1:=Zk h.2 j o (by rw[Array.getElem?_toList];exact ho)
 rw[Nat.zero_add]at h1
 obtain⟨b,q1,q2⟩:=GS_ h1 i p d (by rw[Array.getElem?_toList];exact hp) hd hl (by rw[Nat.zero_add];exact hne)
 rw[Nat.zero_add]at q1 q2
 exact⟨b,by rw[<-Array.getElem?_toList];exact q1,q2⟩
theorem Pre.ds {j:Nat}(hj:j<=m):(x.Rh j).length=(dsAt ops.toList j).length/\
  (∀(p d:Nat),(dsAt ops.toList j)[p]?=some d-> ∃(q:Nat) (o:Oper),q<j/\ops[q]?=some o/\o.dst=some d/\(x.Rh j:List Value)[p]?=some (x.V q))/\(∀(q:Nat) o d,q<j->ops[q]?=some o->o.dst=some d->d∈dsAt ops.toList j):=by
 induction j with
 |zero=>exact⟨by rw[H.rh0];rfl,λp d h=>by simp[dsAt]at h,λq o d h=>absurd h (Nat.not_lt_zero _)⟩
 |succ j ih=>
  obtain⟨i1,i2,i3⟩:=ih J
  obtain⟨o,g,f,ho,_,_,_,_,k2,_⟩:=H.op (i:=j) J
  rw[SU (o:=o) (by rw[Array.getElem?_toList];exact ho),k2]
  cases hd:o.dst with
  |none=>
   refine⟨i1,λp d h=> ?_,λq o' d hq ho' hd'=> ?_⟩
   ·obtain⟨q,o',a,b⟩:=i2 p d h
    exact⟨q,o',J,b⟩
   ·rcases Nat.lt_or_ge q j with h|h
    ·exact i3 q o' d h ho' hd'
    ·rw[show q=j by omega,ho]at ho'
     cases ho'
     rw[hd]at hd'
     cases hd'
  |some d0=>
   refine⟨by simp[CC,BM,i1],λp d h=> ?_,λq o' d hq ho' hd'=> ?_⟩
   ·replace h:(d0::dsAt ops.toList j)[p]?=some d:=h
    cases p with
    |zero=>
     simp at h
     subst h
     exact⟨j,o,J,ho,hd,rfl⟩
    |succ p=>
     obtain⟨q,o',a,b1,b2,b3⟩:=i2 p d (by simpa using h)
     exact⟨q,o',J,b1,b2,by show(x.V j::x.Rh j)[p+1]?=_;simpa using b3⟩
   ·rcases Nat.lt_or_ge q j with h|h
    ·exact List.mem_cons_of_mem _ (i3 q o' d h ho' hd')
    ·rw[show q=j by omega,ho]at ho'
     cases ho'
     rw[hd]at hd'
     cases hd'
     exact List.mem_cons_self
omit H in
theorem Y3 {l:List Oper}{d:Nat}: ∀{j q:Nat} {o:Oper},j<=l.length->q<j->l[q]?=some o->o.dst=some d->d∈dsAt l j
 |0,q,o,_,hq,_,_=>absurd hq (Nat.not_lt_zero _)
 |j+1,q,o,hj,hq,ho,hd=>by
  have hl:l[j]?=some (l[j]'J):=List.getElem?_eq_getElem _
  rw[SU hl]
  rcases Nat.lt_or_ge q j with h|h
  ·have:=Y3 (j:=j) J h ho hd
   cases(l[j]'J).dst with
   |none=>exact this
   |some x=>exact List.mem_cons_of_mem _ this
  ·rw[show q=j by omega,hl]at ho
   cases ho
   rw[hd]
   exact List.mem_cons_self
theorem Pre.dst_ne {q j:Nat}{o p:Oper}{d e:Nat}(hq:q<j)(ho:ops[q]?=some o)(hp:ops[j]?=some p)(hd:o.dst=some d)(he:p.dst=some e):d≠e:=by
 have hj:j<ops.size:=(Array.getElem?_eq_some_iff.1 hp).1
 obtain⟨g,f,_,_,h3,_⟩:=H.comp j p hp
 rw[he]at h3
 intro hx
 subst hx
 exact(Kc h3).2 (Y3 (by rw[Array.length_toList];omega) hq (by rw[Array.getElem?_toList];exact ho) hd)
theorem Pre.dst_inj {q j:Nat}{o p:Oper}{d:Nat}(ho:ops[q]?=some o)(hp:ops[j]?=some p)(hd:o.dst=some d)(he:p.dst=some d):q=j:=by
 rcases Nat.lt_trichotomy q j with h|h|h
 ·exact absurd rfl (H.dst_ne h ho hp hd he)
 ·exact h
 ·exact absurd rfl (H.dst_ne h hp ho he hd)
theorem Pre.dst_lt {j:Nat}{p:Oper}{d:Nat}(hp:ops[j]?=some p)(hd:p.dst=some d):d<N:=by
 obtain⟨g,f,_,_,h3,_⟩:=H.comp j p hp
 rw[hd]at h3
 exact(Kc h3).1
theorem Pre.tm {j:Nat}(hj:j<=m){y:Nat}{v:Value}(h:T.get (x.Tm j) y=some v):
  (∃q o,q<j/\ops[q]?=some o/\o.dst=some y/\Nat.testBit glob y=true/\v=x.V q)\/(T.get (x.Tm 0) y=some v/\ ∀q o,q<j->ops[q]?=some o->o.dst=some y->Nat.testBit glob y=false):=by
 induction j with
 |zero=>exact .inr ⟨h,λq o h=>absurd h (Nat.not_lt_zero _)⟩
 |succ j ih=>
  obtain⟨o,g,f,ho,_,_,_,_,_,k3⟩:=H.op (i:=j) J
  rw[k3]at h
  have rest:T.get (x.Tm j) y=some v->(o.dst=some y->Nat.testBit glob y=false)->(∃q o,q<j+1/\ops[q]?=some o/\o.dst=some y/\Nat.testBit glob y=true/\v=x.V q)\/(T.get (x.Tm 0) y=some v/\ ∀q o,q<j+1->ops[q]?=some o->o.dst=some y->Nat.testBit glob y=false):=by
   intro h1 h2
   rcases ih J h1 with⟨q,o',a,b⟩|⟨a,b⟩
   ·exact .inl ⟨q,o',J,b⟩
   ·refine .inr ⟨a,λq o' hq ho' hd'=> ?_⟩
    rcases Nat.lt_or_ge q j with h|h
    ·exact b q o' h ho' hd'
    ·rw[show q=j by omega,ho]at ho'
     cases ho'
     exact h2 hd'
  cases hd:o.dst with
  |none=>
   rw[hd]at h rest
   exact rest h (λe=>by cases e)
  |some d=>
   rw[hd]at h rest
   unfold CZ at h
   cases hk:B1 (some d) glob with
   |false=>
    rw[hk]at h
    exact rest h (λe=>by cases e;exact hk)
   |true=>
    rw[hk]at h
    simp only[T.get_set]at h
    split at h
    ·rename_i hy
     cases h
     subst hy
     exact .inl ⟨j,o,J,ho,hd,hk,rfl⟩
    ·rename_i hy
     exact rest h (λe=>by cases e;exact absurd rfl hy)
end
open Classical in
def memD (x:Tra)(D:Nat->Bool):Nat->Nat->Option Cell
 |0,l=>T.get (x.Mm 0) l
 |k+1,l=>if D k=true/\x.Wr k l then T.get (x.Mm (k+1)) l else memD x D k l
theorem G8 {x:Tra}{D:Nat->Bool}{k l:Nat}(h:D k=true)(h':x.Wr k l):memD x D (k+1) l=T.get (x.Mm (k+1)) l:=if_pos ⟨h,h'⟩
theorem Ek {x:Tra}{D:Nat->Bool}{k l:Nat}(h: ¬(D k=true/\x.Wr k l)):memD x D (k+1) l=memD x D k l:=if_neg h
section
variable {E:Env}{glob N:Nat}{ops:Array Oper}{call round:Ag}{cops:List COp}{x:Tra}{m:Nat}(H:Pre E glob N ops call round cops x m)
include H
theorem MR {D:Nat->Bool}{l:Nat}: ∀{j:Nat},j<=m->(∀i,i<j->x.Wr i l->D i=true)->memD x D j l=T.get (x.Mm j) l
 |0,_,_=>rfl
 |j+1,hj,h=>by
  by_cases hw:x.Wr j l
  ·exact G8 (h j J hw) hw
  ·rw[Ek (λe=>hw e.2),H.old J hw]
   exact MR J λi hi=>h i J
omit H in
theorem Mf {D:Nat->Bool}{l j:Nat}: ∀{m:Nat},j<=m->(∀i,j<=i->i<m->D i=true-> ¬x.Wr i l)->memD x D m l=memD x D j l
 |0,hm,_=>by rw[Nat.le_zero.1 hm]
 |m+1,hm,h=>by
  rcases Nat.lt_or_ge m j with h1|h1
  ·rw[show j=m+1 by omega]
  ·rw[Ek (λe=>h m h1 J e.1 e.2)]
   exact Mf h1 λi a b=>h i a J
omit H in
theorem BX_ {D D':Nat->Bool}{j l:Nat}(hD:D j=false)(hD':D' j=true)(hne: ∀i,i≠j->D' i=D i): ∀{m:Nat},j<m->(∀i,j<i->i<m->D i=true-> ¬(x.Wr i l/\x.Wr j l))->
  (x.Wr j l->memD x D' m l=T.get (x.Mm (j+1)) l)/\(¬x.Wr j l->memD x D' m l=memD x D m l)
 |0,hm,_=>absurd hm (Nat.not_lt_zero _)
 |m+1,hm,h=>by
  have low: ∀{k:Nat},k<=j->memD x D' k l=memD x D k l:=by
   intro k
   induction k with
   |zero=>exact λ_=>rfl
   |succ k ih=>
    intro hk
    have hk':D' k=D k:=hne k J
    by_cases hw:D k=true/\x.Wr k l
    ·rw[G8 hw.1 hw.2,G8 (by rw[hk'];exact hw.1) hw.2]
    ·rw[Ek hw,Ek (by rw[hk'];exact hw),ih J]
  by_cases e:m=j
  ·subst e
   constructor
   ·intro hw;exact G8 hD' hw
   ·intro hw
    rw[Ek (λe=>hw e.2),Ek (λe=>hw e.2),low (Nat.le_refl _)]
  ·obtain⟨i1,i2⟩:=BX_ hD hD' hne (m:=m) J λi a b=>h i a J
   have hm':D' m=D m:=hne m e
   constructor
   ·intro hw
    rw[Ek (λq=>h m J J (by rw[<-hm'];exact q.1) ⟨q.2,hw⟩)]
    exact i1 hw
   ·intro hw
    by_cases q:D m=true/\x.Wr m l
    ·rw[G8 q.1 q.2,G8 (by rw[hm'];exact q.1) q.2]
    ·rw[Ek q,Ek (by rw[hm'];exact q)]
     exact i2 hw
end
section
variable {E:Env}{glob N:Nat}{ops:Array Oper}{call round:Ag}{cops:List COp}{x:Tra}{m:Nat}
structure Inv (ops:Array Oper)(x:Tra)(m N:Nat)(w0:World)(r0:Inj)(t0:Array Value)(L:Array Bool)(mt:T Cell)(t:Array Value)(w:World)(r:Inj):Prop where
 size:L.size=ops.size
 rel:Rel w0 r mt w
 off: ∀j,m<=j->j<ops.size->L.getD j true=false
 mem: ∀l,T.get mt l=memD x (λi=>L.getD i true) m l
 dom: ∀b,x.Nx 0<=b->b<x.Nx m->(r.blk b≠none\/r.ext b≠none)-> ∃i,i<m/\L.getD i true=true/\x.Nx i<=b/\b<x.Nx (i+1)
 slot: ∀(i:Nat) (o:Oper) (d:Nat),ops[i]?=some o->L.getD i true=true->o.dst=some d-> ∃v',t[d]?=some v'/\VR r (x.V i) v'
 keep: ∀(d:Nat),(∀(i:Nat) (o:Oper),ops[i]?=some o->L.getD i true=true->o.dst≠some d)->t[d]?=t0[d]?
 tsz:t.size=N
 le:r0.le r
 domB: ∀b,r.blk b≠none->r0.blk b≠none\/(x.Nx 0<=b/\b<x.Nx m)
 domE: ∀b,r.ext b≠none->r0.ext b≠none\/(x.Nx 0<=b/\b<x.Nx m)
 clo: ∀j,j<m->L.getD j true=true-> ∀i,Bf ops j i->L.getD i true=true
theorem CW_ {L:Array Bool}{j:Nat}(hj:j<L.size):(L.setIfInBounds j true).getD j true=true/\ ∀i,i≠j->(L.setIfInBounds j true).getD i true=L.getD i true:=by
 constructor
 ·simp[Array.getD_eq_getD_getElem?,hj]
 ·intro i hi
  simp only[Array.getD_eq_getD_getElem?]
  rw[Array.getElem?_setIfInBounds_ne (λe=>hi e.symm)]
theorem Kl {L:Array Bool}(_hs:L.size=ops.size){j:Nat}(h:j∈Region.ready .any ops L):j<ops.size/\L.getD j true=false/\ ∀o,ops[j]?=some o-> ∀e∈o.after,Region.binds .any e=true->L.getD e.on false=true:=by
 unfold Region.ready at h
 rw[List.mem_filter,List.mem_range,Bool.and_eq_true,Bool.not_eq_true']at h
 obtain⟨h1,h2,h3⟩:=h
 refine⟨h1,h2,λo ho e he hb=> ?_⟩
 rw[ho]at h3
 have h4:o.after.all (λe=> !Region.binds .any e||L.getD e.on false)=true:=by simpa using h3
 have:=Array.all_eq_true_iff_forall_mem.1 h4 e he
 rw[hb]at this
 simpa using this
theorem R8 {L:Array Bool}{i:Nat}(h:L.getD i false=true):L.getD i true=true:=by
 rw[Array.getD_eq_getD_getElem?]at h ⊢
 cases e:L[i]? with
 |none=>rw[e]at h;cases h
 |some b=>rw[e]at h;exact h
theorem Xq_ {L:Array Bool}{i:Nat}(hi:i<L.size)(h:L.getD i true=true):L.getD i false=true:=by
 rw[Array.getD_eq_getD_getElem?]at h ⊢
 rw[Array.getElem?_eq_getElem hi]at h ⊢
 exact h
variable (H:Pre E glob N ops call round cops x m)
include H
theorem Inv.before {w0 w:World}{r0 r:Inj}{t0 t:Array Value}{L:Array Bool}{mt:T Cell}(I:Inv ops x m N w0 r0 t0 L mt t w r){j:Nat}(hjn:j<ops.size)
  (hready: ∀o,ops[j]?=some o-> ∀e∈o.after,Region.binds .any e=true->L.getD e.on false=true): ∀i,Bf ops j i->L.getD i true=true:=by
 intro i hb
 obtain⟨o',e,q1,q2,q3,q4⟩:=Acc_ hb
 have he':=hready o' q1 e q2 q3
 rcases q4 with q4|q4
 ·rw[q4];exact R8 he'
 ·have h1:=H.edge q1 q2 q3
  refine I.clo e.on ?_ (R8 he') i q4
  rcases Nat.lt_or_ge e.on m with h|h
  ·exact h
  ·have h2:=I.off e.on h J
   rw[R8 he']at h2
   cases h2
theorem Inv.small {w0 w:World}{r0 r:Inj}{t0 t:Array Value}{L:Array Bool}{mt:T Cell}(I:Inv ops x m N w0 r0 t0 L mt t w r){j:Nat}(last: ∀j,m<=j->j<ops.size-> ∀i,i<m->Bf ops j i)(hj:j∈Region.ready .any ops L)(hc:0<cnt (λi=> !L.getD i true) m):j<m:=by
 obtain⟨hjn,hjL,hready⟩:=Kl I.size hj
 rcases Nat.lt_or_ge j m with h|h
 ·exact h
 ·obtain⟨i,h1,h2,_⟩:=OX hc
  rw[I.before H hjn hready i (last j h hjn i h1)]at h2
  cases h2
theorem Inv.step (he:EnvTy E)(c1:CallOK E call)(c2:RoundOK E round){w0 w:World}{r0 r:Inj}{t0 t:Array Value}{L:Array Bool}{mt:T Cell}(hT0:TmR r0 glob (x.Tm 0) t0)
  (I:Inv ops x m N w0 r0 t0 L mt t w r) {j:Nat} (hj:j∈Region.ready .any ops L) (hjn:j<m) (b:Frame) (dfs:List Deferred) (cs:List Frame) (k:List Item) (rest:List Nat):
  ∃mt' t' w' r',Inv ops x m N w0 r0 t0 (L.setIfInBounds j true) mt' t' w' r'/\Steps E.P (lone (frm b t dfs (.inRegion ops (j::rest)::k)) cs w) (lone (frm b t' dfs (.inRegion ops rest::k)) cs w'):=by
 obtain⟨hjn0,hjL,hready⟩:=Kl I.size hj
 obtain⟨o,g,f,ho,hg,hnew,hcomp,tr,hrh,htm⟩:=H.op hjn
 have hms:m<=ops.size:=H.len
 have before: ∀i,Bf ops j i->L.getD i true=true:=I.before H hjn0 hready
 have notj: ∀i,i<m->L.getD i true=true-> ¬Bf ops i j:=by
  intro i hi hL hb
  have:=I.clo i hi hL j hb
  rw[hjL]at this
  cases this
 have lateSep: ∀i,j<i->i<m->L.getD i true=true->(∀l,¬(x.Wr j l/\(x.Rd i l\/x.Wr i l)))/\(∀l,¬(x.Wr i l/\x.Rd j l)):=λi h1 h2 h3=>H.sep h1 h2 (notj i h2 h3)
 have agree: ∀l,x.Rd j l\/x.Wr j l->T.get mt l=T.get (x.Mm j) l:=by
  intro l hl
  rw[I.mem l,Mf (j:=j) J]
  ·refine MR H J λi hi hw=> ?_
   by_cases hb:Bf ops j i
   ·exact before i hb
   ·exact absurd ⟨hw,hl⟩ ((H.sep hi hjn hb).1 l)
  ·intro i h1 h2 h3 h4
   rcases Nat.lt_or_ge j i with h5|h5
   ·obtain⟨s1,s2⟩:=lateSep i h5 h2 h3
    rcases hl with hl|hl
    ·exact s2 l ⟨h4,hl⟩
    ·exact s1 l ⟨hl, .inr h4⟩
   ·rw[show i=j by omega,hjL]at h3
    cases h3
 obtain⟨t',q1,q2,q3,q4,q5,q6,q7,q8⟩:=tr.run.any ⟨mt,x.Nx j,x.Nx j,[],[], .no⟩ rfl rfl rfl agree
 obtain⟨hloc,hop⟩:=IY (ops:=ops) (keep:=B1 o.dst glob) he ho hg hcomp
 obtain⟨d1,d2,d3⟩:=H.ds (Nat.le_of_lt hjn)
 have slots:SlR r (λy=>y∈DI ops.toList o) (dsAt ops.toList j) (x.Rh j) (x.Tm j) t:=by
  constructor
  ·intro p d v hu e1 e2
   obtain⟨q,oq,a1,a2,a3,a4⟩:=d2 p d e1
   rw[a4]at e2
   cases e2
   have hb:=H.looks ho a2 a3 hu J
   rw[Nat.max_eq_right J,Nat.min_eq_left J]at hb
   exact I.slot q oq d a2 (before q hb) a3
  ·intro y v hu e1
   rcases H.tm (Nat.le_of_lt hjn) e1 with⟨q,oq,a1,a2,a3,a4,a5⟩|⟨a1,a2⟩
   ·have hb:=H.looks ho a2 a3 hu J
    rw[Nat.max_eq_right J,Nat.min_eq_left J]at hb
    rw[a5]
    exact I.slot q oq y a2 (before q hb) a3
   ·obtain⟨p1,v',p2,p3⟩:=hT0 y v a1
    refine⟨v', ?_,p3.mono I.le⟩
    rw[I.keep y]
    ·exact p2
    ·intro i oi hoi hLi hdi
     have hi0:i<ops.size:=(Array.getElem?_eq_some_iff.1 hoi).1
     have hi:i<m:=by
      rcases Nat.lt_or_ge i m with h|h
      ·exact h
      ·rw[I.off i h hi0]at hLi;cases hLi
     rcases Nat.lt_trichotomy i j with h|h|h
     ·rw[a2 i oi h hoi hdi]at p1;cases p1
     ·rw[h,hjL]at hLi;cases hLi
     ·have hb:=H.looks ho hoi hdi hu J
      rw[Nat.max_eq_left J,Nat.min_eq_right J]at hb
      exact notj i hi hLi hb
 have fresh:AK r (x.Nx j) (x.Nx (j+1)):=by
  intro b h1 h2
  have lo:x.Nx 0<=b:=Nat.le_trans (H.nx (Nat.zero_le _) (Nat.le_of_lt hjn)) h1
  have hi:b<x.Nx m:=Nat.lt_of_lt_of_le h2 (H.nx hjn (Nat.le_refl _))
  have no: ¬(r.blk b≠none\/r.ext b≠none):=by
   intro hn
   obtain⟨i,a1,a2,a3,a4⟩:=I.dom b lo hi hn
   rcases Nat.lt_trichotomy i j with h|h|h
   ·have:=H.nx (i:=i+1) (j:=j) h (Nat.le_of_lt hjn);omega
   ·rw[h,hjL]at a2;cases a2
   ·have:=H.nx (i:=j+1) (j:=i) h (Nat.le_of_lt a1);omega
  exact⟨Classical.byContradiction λh=>no (.inl h),Classical.byContradiction λh=>no (.inr h)⟩
 simp only at q2 q3 q4
 obtain⟨w',r',dfs',cs',k1,k2,k3,v',k4,k5⟩:=hop call round c1 c2 w0 w r _ (x.Rh j) (x.Tm j) b t dfs cs (dfs,cs) ⟨mt,x.Nx j,x.Nx j,[],[], .no⟩ (.inl (x.V j)) t' slots (λ_ h=>h) d1 I.rel ⟨rfl,rfl⟩ (Nat.le_refl _)
  (by rw[q2];exact fresh) q1 rest k
 rw[q4]at k2
 obtain⟨rfl,rfl⟩:=k2
 obtain⟨g1,g2⟩:=CW_ (L:=L) (j:=j) (by rw[I.size];exact hjn0)
 refine⟨t'.mem,putT t o.dst v',w',r',⟨by simp[I.size],k1.rel,λq h1 h2=>by rw[g2 q J];exact I.off q h1 h2, ?_, ?_, ?_, ?_,by rw[J1];exact I.tsz,Inj.le_trans I.le k1.le, ?_, ?_, ?_⟩,k5⟩
 ·intro l
  obtain⟨a1,a2⟩:=BX_ (x:=x) (D:=λi=>L.getD i true) (D':=λi=>(L.setIfInBounds j true).getD i true) (l:=l) hjL g1 g2 hjn (λi h1 h2 h3 h4=>(lateSep i h1 h2 h3).1 l ⟨h4.2, .inr h4.1⟩)
  by_cases hw:x.Wr j l
  ·rw[a1 hw];exact q7 l hw
  ·rw[a2 hw,q8 l hw];exact I.mem l
 ·intro b' h1 h2 h3
  have old:(r.blk b'≠none\/r.ext b'≠none)\/(x.Nx j<=b'/\b'<x.Nx (j+1)):=by
   rcases h3 with h3|h3
   ·rcases k1.domB b' h3 with h|h
    ·exact .inl (.inl h)
    ·rw[q2]at h;exact .inr h
   ·rcases k1.domE b' h3 with h|h
    ·exact .inl (.inr h)
    ·rw[q2]at h;exact .inr h
  rcases old with h|h
  ·obtain⟨i,a1,a2,a3⟩:=I.dom b' h1 h2 h
   refine⟨i,a1, ?_,a3⟩
   by_cases e:i=j
   ·rw[e];exact g1
   ·rw[g2 i e];exact a2
  ·exact⟨j,hjn,g1,h⟩
 ·intro i oi d hoi hLi hdi
  by_cases e:i=j
  ·subst e
   rw[ho]at hoi
   cases hoi
   rw[hdi]
   exact⟨v',SD (by rw[I.tsz];exact H.dst_lt ho hdi),k4⟩
  ·rw[g2 i e]at hLi
   obtain⟨u,a1,a2⟩:=I.slot i oi d hoi hLi hdi
   refine⟨u, ?_,a2.mono k1.le⟩
   rw[Hz]
   ·exact a1
   ·intro h
    exact e (H.dst_inj hoi ho hdi h)
 ·intro d hd
  rw[Hz]
  ·exact I.keep d λi oi hoi hLi=>hd i oi hoi (by
    by_cases e:i=j
    ·rw[e];exact g1
    ·rw[g2 i e];exact hLi)
  ·exact hd j o ho g1
 ·intro b' h
  rcases k1.domB b' h with h|h
  ·exact I.domB b' h
  ·rw[q2]at h
   exact .inr ⟨Nat.le_trans (H.nx (Nat.zero_le _) (Nat.le_of_lt hjn)) h.1,Nat.lt_of_lt_of_le h.2 (H.nx hjn (Nat.le_refl _))⟩
 ·intro b' h
  rcases k1.domE b' h with h|h
  ·exact I.domE b' h
  ·rw[q2]at h
   exact .inr ⟨Nat.le_trans (H.nx (Nat.zero_le _) (Nat.le_of_lt hjn)) h.1,Nat.lt_of_lt_of_le h.2 (H.nx hjn (Nat.le_refl _))⟩
 ·intro i hi hLi y hb
  by_cases e:i=j
  ·subst e
   have:=before y hb
   by_cases e':y=i
   ·rw[e'];exact g1
   ·rw[g2 y e'];exact this
  ·rw[g2 i e]at hLi
   have:=I.clo i hi hLi y hb
   by_cases e':y=j
   ·rw[e'];exact g1
   ·rw[g2 y e'];exact this
theorem Ga_ {L:Array Bool}(hs:L.size=ops.size){i:Nat}(h1:i<ops.size)(h2:L.getD i true=false)(h3: ∀j,j<i->L.getD j true=true):i∈Region.ready .any ops L:=by
 unfold Region.ready
 rw[List.mem_filter,List.mem_range,Bool.and_eq_true]
 refine⟨h1,by rw[h2];rfl, ?_⟩
 rw[Array.getElem?_eq_getElem h1]
 simp only[Option.map_some,Option.getD_some]
 rw[Array.all_eq_true_iff_forall_mem]
 intro e he
 cases hb:Region.binds .any e with
 |false=>rfl
 |true=>
  have hlt:=H.edge (Array.getElem?_eq_getElem h1) he hb
  rw[Xq_ (by rw[hs];omega) (h3 e.on hlt)]
  rfl
theorem Xg_ {L:Array Bool}(hs:L.size=ops.size)(h:0<cnt (λi=> !L.getD i true) m):Region.ready .any ops L≠[]:=by
 obtain⟨i,h0,h2,h3⟩:=OX h
 have h1:i<ops.size:=Nat.lt_of_lt_of_le h0 H.len
 exact List.ne_nil_of_mem (Ga_ H hs h1 (by simpa using h2) λj hj=>by simpa using h3 j hj)
theorem Inv.run (few:ops.size<=m+1)(last: ∀j,m<=j->j<ops.size-> ∀i,i<m->Bf ops j i)(he:EnvTy E)(c1:CallOK E call)(c2:RoundOK E round){w0:World}{r0:Inj}{t0:Array Value}(hT0:TmR r0 glob (x.Tm 0) t0)(b:Frame)(dfs:List Deferred)(cs:List Frame)(k:List Item):
  ∀(fuel tp:Nat) (L:Array Bool) (mt:T Cell) (t:Array Value) (w:World) (r:Inj),Inv ops x m N w0 r0 t0 L mt t w r->cnt (λi=> !L.getD i true) m=fuel->
   ∃L' mt' t' w' r',Inv ops x m N w0 r0 t0 L' mt' t' w' r'/\(∀i,i<m->L'.getD i true=true)/\
    Steps E.P (lone (frm b t dfs (.inRegion ops (Region.linearise.go .any ops (fuel+(ops.size-m)) tp L [])::k)) cs w) (lone (frm b t' dfs (.inRegion ops (List.range' m (ops.size-m))::k)) cs w')
 |0,tp,L,mt,t,w,r,I,hc=>by
  have hall: ∀i,i<m->L.getD i true=true:=λi hi=>by
   have:=L4 hc i hi
   simpa using this
  refine⟨L,mt,t,w,r,I,hall, ?_⟩
  have hgo:Region.linearise.go .any ops (0+(ops.size-m)) tp L []=List.range' m (ops.size-m):=by
   have h1:=H.len
   have h2:=few
   rcases Nat.lt_or_ge m ops.size with h|h
   ·have e1:ops.size-m=1:=J
    rw[e1]
    have hmem:=Ga_ H I.size h (I.off m (Nat.le_refl _) h) hall
    have hlen:0<(Region.ready .any ops L).length:=List.length_pos_iff.2 (List.ne_nil_of_mem hmem)
    have hi:tp%(Region.ready .any ops L).length<(Region.ready .any ops L).length:=Nat.mod_lt _ hlen
    obtain⟨j,hj⟩: ∃j,(Region.ready .any ops L)[tp%(Region.ready .any ops L).length]?=some j:=⟨_,List.getElem?_eq_getElem hi⟩
    obtain⟨p1,p2,_⟩:=Kl I.size (List.mem_of_getElem? hj)
    have hjm:j=m:=by
     rcases Nat.lt_or_ge j m with q|q
     ·rw[hall j q]at p2;cases p2
     ·omega
    subst hjm
    have h0:Region.linearise.go .any ops (0+1) tp L []=match (Region.ready .any ops L)[tp%(Region.ready .any ops L).length]? with
     |some i=>Region.linearise.go .any ops 0 (tp/(Region.ready .any ops L).length) (L.setIfInBounds i true) [i]
     |none=>[].reverse:=rfl
    rw[h0,hj]
    rfl
   ·have e1:ops.size-m=0:=J
    rw[e1]
    rfl
  rw[hgo]
  exact .refl _ _
 |fuel+1,tp,L,mt,t,w,r,I,hc=>by
  have hne:=Xg_ H I.size (by rw[hc];omega)
  have hlen:0<(Region.ready .any ops L).length:=List.length_pos_iff.2 hne
  have hi:tp%(Region.ready .any ops L).length<(Region.ready .any ops L).length:=Nat.mod_lt _ hlen
  obtain⟨j,hj⟩: ∃j,(Region.ready .any ops L)[tp%(Region.ready .any ops L).length]?=some j:=⟨_,List.getElem?_eq_getElem hi⟩
  have hmem:j∈Region.ready .any ops L:=List.mem_of_getElem? hj
  have hgo:Region.linearise.go .any ops (fuel+1+(ops.size-m)) tp L []=j::Region.linearise.go .any ops (fuel+(ops.size-m)) (tp/(Region.ready .any ops L).length) (L.setIfInBounds j true) []:=by
   rw[Nat.add_right_comm]
   have h0:Region.linearise.go .any ops (fuel+(ops.size-m)+1) tp L []=match (Region.ready .any ops L)[tp%(Region.ready .any ops L).length]? with
    |some i=>Region.linearise.go .any ops (fuel+(ops.size-m)) (tp/(Region.ready .any ops L).length) (L.setIfInBounds i true) [i]
    |none=>[].reverse:=rfl
   rw[h0,hj]
   simp only
   rw[linearise_go_acc]
   rfl
  rw[hgo]
  obtain⟨hjn,hjL,_⟩:=Kl I.size hmem
  have hjm:j<m:=I.small H last hmem (by rw[hc];omega)
  obtain⟨mt1,t1,w1,r1,I1,s1⟩:=I.step H he c1 c2 hT0 hmem hjm b dfs cs k (Region.linearise.go .any ops (fuel+(ops.size-m)) (tp/(Region.ready .any ops L).length) (L.setIfInBounds j true) [])
  obtain⟨g1,g2⟩:=CW_ (L:=L) (j:=j) (by rw[I.size];exact hjn)
  have hc1:cnt (λi=> !(L.setIfInBounds j true).getD i true) m=fuel:=by
   have:=TM (p:=λi=> !L.getD i true) (q:=λi=> !(L.setIfInBounds j true).getD i true) (i:=j) (by simp[hjL]) (by simp[g1]) (λi hi=>by simp only[g2 i hi]) hjm
   omega
  obtain⟨L',mt',t',w',r',I',hall,s2⟩:=Inv.run few last he c1 c2 hT0 b dfs cs k fuel _ _ mt1 t1 w1 r1 I1 hc1
  exact⟨L',mt',t',w',r',I',hall,s1.trans s2⟩
theorem Pre.draw_ok (few:ops.size<=m+1)(last: ∀j,m<=j->j<ops.size-> ∀i,i<m->Bf ops j i)(he:EnvTy E)(c1:CallOK E call)(c2:RoundOK E round){w0 w:World}{r:Inj}{t:Array Value}(hT:TmR r glob (x.Tm 0) t)(ht:t.size=N)(hr:Rel w0 r (x.Mm 0) w)(hfr:AK r (x.Nx 0) (x.Nx m))
  (b:Frame) (dfs:List Deferred) (cs:List Frame) (k:List Item) (tp:Nat):
  ∃t' w' r',(∀s s':St,s.next=x.Nx 0->s'.next=x.Nx m->s'.mem=x.Mm m->Goes w0 r s s' r' w')/\TmR r' glob (x.Tm m) t'/\t'.size=N/\SlR r' (λ_=>True) (dsAt ops.toList m) (x.Rh m) (x.Tm m) t'/\(∀d,d∉dstL ops.toList->t'[d]?=t[d]?)/\
   Steps E.P (lone (frm b t dfs (.inRegion ops (Region.linearise .any ops tp)::k)) cs w) (lone (frm b t' dfs (.inRegion ops (List.range' m (ops.size-m))::k)) cs w'):=by
 have hL: ∀i,i<ops.size->(Array.replicate ops.size false).getD i true=false:=λi hi=>by
  rw[Array.getD_eq_getD_getElem?,Array.getElem?_replicate,if_pos hi];rfl
 have I0:Inv ops x m N w0 r t (Array.replicate ops.size false) (x.Mm 0) t w r:=by
  refine⟨am,hr,λj _ hj=>hL j hj,λl=> ?_,λb h1 h2 h3=> ?_,λi o d hi hl=> ?_,λ_ _=>rfl,ht,Inj.le_refl r,λ_ h=> .inl h,λ_ h=> .inl h,λj hj hl=> ?_⟩
  ·rw[Mf (j:=0) (Nat.zero_le _)]
   ·rfl
   ·intro i _ hi hd;rw[hL i (Nat.lt_of_lt_of_le hi H.len)]at hd;cases hd
  ·obtain⟨a1,a2⟩:=hfr b h1 h2
   rcases h3 with h3|h3
   ·exact absurd a1 h3
   ·exact absurd a2 h3
  ·rw[hL i (Array.getElem?_eq_some_iff.1 hi).1]at hl;cases hl
  ·rw[hL j (Nat.lt_of_lt_of_le hj H.len)]at hl;cases hl
 have hc:cnt (λi=> !(Array.replicate ops.size false).getD i true) m=m:=by
  rw[M2 (q:=λ_=>true) λi hi=>by rw[hL i (Nat.lt_of_lt_of_le hi H.len)];rfl]
  exact Apx_ _
 obtain⟨L',mt',t',w',r',I,hall,s⟩:=Inv.run H few last he c1 c2 (w0:=w0) (r0:=r) (t0:=t) hT b dfs cs k m tp _ _ _ _ _ I0 hc
 have hfuel:m+(ops.size-m)=ops.size:=by have:=H.len;omega
 rw[hfuel]at s
 have hmem: ∀l,T.get (x.Mm m) l=T.get mt' l:=λl=>by
  rw[I.mem l]
  exact(MR H (Nat.le_refl _) λi hi _=>hall i hi).symm
 have hT':TmR r' glob (x.Tm m) t':=by
  intro y v e
  rcases H.tm (Nat.le_refl _) e with⟨q,oq,a1,a2,a3,a4,a5⟩|⟨a1,a2⟩
  ·rw[a5]
   exact⟨a4,I.slot q oq y a2 (hall q a1) a3⟩
  ·obtain⟨p1,v',p2,p3⟩:=hT y v a1
   refine⟨p1,v', ?_,p3.mono I.le⟩
   rw[I.keep y]
   ·exact p2
   ·intro i oi hoi hLi hdi
    have hi0:i<ops.size:=(Array.getElem?_eq_some_iff.1 hoi).1
    rcases Nat.lt_or_ge i m with h|h
    ·rw[a2 i oi h hoi hdi]at p1
     cases p1
    ·rw[I.off i h hi0]at hLi;cases hLi
 refine⟨t',w',r',λs s' e1 e2 e3=>⟨I.le,by rw[e1,e2];exact H.nx (Nat.zero_le _) (Nat.le_refl _),λb hb=>by rw[e1,e2];exact I.domB b hb,λb hb=>by rw[e1,e2];exact I.domE b hb, ?_⟩,hT',I.tsz,⟨λp d v _ e1 e2=> ?_,λy v _ e=>(hT' y v e).2⟩,λd hd=>I.keep d λi o ho _ hx=>hd (Lt (by rw[Array.mem_toList_iff];exact Array.mem_of_getElem? ho) hx),s⟩
 ·rw[e3]
  exact I.rel.less λl c e=>by rw[<-hmem l];exact e
 ·obtain⟨q,oq,a1,a2,a3,a4⟩:=(H.ds (Nat.le_refl m)).2.1 p d e1
  rw[a4]at e2
  cases e2
  exact I.slot q oq d a2 (hall q a1) a3
end
def RoR (r:Inj):Option Nat->Option Nat->Prop
 |none,none=>True
 |some l,some l'=> ∃d,r.blk l=some (l',d)
 |_,_=>False
theorem RoR.mono {r r':Inj}(h:r.le r'){a b:Option Nat}(k:RoR r a b):RoR r' a b:=by
 cases a<;>cases b<;>simp only[RoR]at k ⊢
 obtain⟨d,k⟩:=k
 exact⟨d,h.1 _ _ k⟩
structure FR (P:Program)(r:Inj)(af:AF)(cx:Ctx)(base:List Deferred×List Frame)(fr:Frame)(cs:List Frame):Prop where
 fn:fr.fn=af.fn
 size:fr.tmps.size=af.n
 tm:TmR r af.glob af.tmps fr.tmps
 todo:af.mode= .run->fr.todo=af.todo
 mode:MoR r af.mode fr.mode
 round:RoR r af.roundOf fr.roundOf
 rk:fr.roundOf≠none->fr.kind= .normal
 known:fr.roundOf=none-> ∃fn,P.funcs[fr.fn]?=some fn
 cx:CxR r base cx fr fr.defers cs
def Jf (k:CallKind)(c:Frame)(v:Value):Frame:=
 match k with
 | .deferred=>(match c.mode with
  | .panicking ({recovered:=true, .. }::older)=>(match older.dropWhile (!·.goexit)with
   |[]=>{c with mode:= .returning}
   |rest=>{c with mode:= .panicking rest})
  |_=>c)
 |_=>c.finish v
def Kin (fr fr':Frame):Prop:=(fr'.kind,fr'.roundOf,fr'.fn)=(fr.kind,fr.roundOf,fr.fn)
def FinE (P:Program)(r:Inj)(base:List Deferred×List Frame)(cx':Ctx)(fr:Frame)(m:Machine)(w':World)(out:Out (Value×FrameMode)):Prop:=
 ∃cs',((fr.kind= .normal/\cs'=base.2)\/ ∃u c0 rest m',cx'= .cx (some u) (some [])/\fr.kind= .deferred/\base.2=c0::rest/\cs'={c0 with mode:=m'}::rest/\MoR r u m'/\ ∀v up,out= .inl (v,up)->up=u)/\
  match out with
  | .inl (v,_)=> ∃v',VR r v v'/\(∀c rest,cs'=c::rest->Steps P m (lone (Jf fr.kind c v') rest w'))/\(fr.roundOf=none->fr.kind= .normal-> ∃fr',fr'.fn=fr.fn/\fr'.leaving P w' (.returned v')/\Steps P m (lone fr' cs' w'))
  | .inr ch=> ∃ch',ChR r ch ch'/\ ∀c rest,cs'=c::rest->Steps P m (lone (c.raise ch') rest w')
def Co (P:Program)(r:Inj)(base:List Deferred×List Frame)(cx':Ctx)(fr:Frame)(m:Machine)(w':World)(out:Out Step):Prop:=
 match out with
 | .inl (.go af')=> ∃fr' cs',Kin fr fr'/\FR P r af' cx' base fr' cs'/\Steps P m (lone fr' cs' w')
 | .inl (.fin v up)=>FinE P r base cx' fr m w' (.inl (v,up))
 | .inr ch=>FinE P r base cx' fr m w' (.inr ch)
structure EnvOK (E:Env):Prop where
 ty:EnvTy E
 fn : ∀ f fn, E.fn.get f = some fn → E.P.funcs[f]? = some fn ∧ fn.name ≠ "runtime.NumGoroutine"
 mixed:E.P.follows .mixedOrders=true
 orcLoc: ∀f m,E.orc.get f=some m-> ∀args,Loc (m args)
 orc: ∀{f:Nat} {m:List Value->M Value},E.orc.get f=some m-> ∀{w0 w:World} {r:Inj} {args args':List Value} {s:St} {out:Out Value} {s':St},m args s=rOf out s'->Rel w0 r s.mem w->Bnd s->AK r s.next s'.next->VRs r args args'->
  (∀w,(callFunc f args'.toArray).run E.P w= .ok (.enter f args'.toArray) w)/\
  ∀c cs,∃w' r',Goes w0 r s s' r' w'/\s'.lim=s.lim/\s'.cx=s.cx/\Ends E.P r' out (lone (Frame.enter E.P f args'.toArray .normal) (c::cs) w) c cs w'
 extLoc: ∀f m,E.ext.get f=some m-> ∀args,Loc (m args)
 ext: ∀{f:Nat} {m:List Value->M Value},E.ext.get f=some m-> ∀{w0 w:World} {r:Inj} {args args':List Value} {s:St} {out:Out Value} {s':St},m args s=rOf out s'->Rel w0 r s.mem w->VRs r args args'->
  Qp E.P w0 w r s f args' out s'
section
variable {P:Program}{b:Frame}{t:Array Value}{d:List Deferred}{k:List Item}{cs:List Frame}{w:World}
theorem Tl:step P (lone (frm b t d (.code .skip::k)) cs w)= .next (lone (frm b t d k) cs w):=step_lone_go (by simp[stepG,stepG.exec,frm])
theorem BY_ {l:Nat}:step P (lone (frm b t d (.code (.label l)::k)) cs w)= .next (lone (frm b t d k) cs w):=step_lone_go (by simp[stepG,stepG.exec,frm])
theorem TW {id:Nat}:step P (lone (frm b t d (.inBlock id::k)) cs w)= .next (lone (frm b t d k) cs w):=step_lone_go (by simp[stepG,stepG.exec,frm])
theorem Lm_ {c:Code}:step P (lone (frm b t d (.inScope c::k)) cs w)= .next (lone (frm b t d k) cs w):=step_lone_go (by simp[stepG,stepG.exec,frm])
theorem Cj_ {x y:Code}:step P (lone (frm b t d (.code (.seq x y)::k)) cs w)= .next (lone (frm b t d (.code x:: .code y::k)) cs w):=step_lone_go (by simp[stepG,stepG.exec,frm])
theorem Rj_ {id:Nat}{c:Code}:step P (lone (frm b t d (.code (.block id c)::k)) cs w)= .next (lone (frm b t d (.code c:: .inBlock id::k)) cs w):=step_lone_go (by simp[stepG,stepG.exec,frm])
theorem LG_ {c:Code}:step P (lone (frm b t d (.code (.loop c)::k)) cs w)= .next (lone (frm b t d (.code c:: .inLoop c::k)) cs w):=step_lone_go (by simp[stepG,stepG.exec,frm])
theorem SW {c:Code}:step P (lone (frm b t d (.inLoop c::k)) cs w)= .next (lone (frm b t d (.code c:: .inLoop c::k)) cs w):=step_lone_go (by simp[stepG,stepG.exec,frm])
theorem Ss_ {c:Code}:step P (lone (frm b t d (.code (.scope c)::k)) cs w)= .next (lone (frm b t d (.code c:: .inScope c::k)) cs w):=step_lone_go (by simp[stepG,stepG.exec,frm])
theorem LN_ {id:Nat}{k':List Item}(h:exitTo id k=some k'):step P (lone (frm b t d (.code (.exit id)::k)) cs w)= .next (lone (frm b t d k') cs w):=step_lone_go (by simp[stepG,stepG.exec,frm,h])
theorem AaI_ {l:Nat}{k':List Item}(h:gotoIn l k=some k'):step P (lone (frm b t d (.code (.goto l)::k)) cs w)= .next (lone (frm b t d k') cs w):=step_lone_go (by simp[stepG,stepG.exec,frm,h])
theorem Py_ {c:Operand}{x y:Code}{tt:Bool}(h:Act.eval ⟨t,d⟩ c= .bool tt):step P (lone (frm b t d (.code (.cond c x y)::k)) cs w)= .next (lone (frm b t d (.code (if tt then x else y)::k)) cs w):=
 step_lone_go (by
  have:=congrFun (SJ_ b t d (.code (.cond c x y)::k)) c
  rw[h]at this
  simp only[frm]at this
  simp[stepG,stepG.exec,frm,this])
theorem AmH_ (hr:b.roundOf=none):step P (lone (frm b t d (.code .ret::k)) cs w)= .next (lone {frm b t d (.code .ret::k)with mode:= .returning} cs w):=step_lone_go (by simp[stepG,stepG.exec,frm,hr])
theorem AdT_ (hr:b.roundOf=none):step P (lone (frm b t d []) cs w)= .next (lone {frm b t d []with mode:= .returning} cs w):=step_lone_go (by simp[stepG,stepG.exec,frm,hr])
theorem Dt: ∀(n:Nat) (l:List Item),Steps P (lone (frm b t d l) cs w) (lone (frm b t d (skim n l)) cs w)
 |0,l=> .refl _ _
 |n+1,l=>by
  unfold skim
  split
  ·exact .head Tl (Dt n _)
  ·exact .head BY_ (Dt n _)
  ·exact .head TW (Dt n _)
  ·exact .head Lm_ (Dt n _)
  ·exact .head Cj_ (Dt n _)
  ·exact .head Rj_ (Dt n _)
  ·exact .head LG_ (Dt n _)
  ·exact .head SW (Dt n _)
  ·exact .head Ss_ (Dt n _)
  ·split
   ·exact .head (LN_ (by assumption)) (Dt n _)
   ·exact .refl _ _
  ·exact .refl _ _
theorem AkX_ {l:Nat}{L:Loop}(h:w.heap[l]?=some (.loop L)):(Instr.getLoop l).run P w= .ok L w:=by simp[Instr.getLoop,getObj,Sem.run,h]
theorem Aor_ {l:Nat}{L L2:Loop}(h:w.heap[l]?=some (.loop L)):(setObj l (.loop L2)).run P w= .ok () (World.setO w l (.loop L2)):=by simp[setObj,Sem.run,h,World.setO]
theorem AeK_ {l:Nat}{L:Loop}{todo:List Item}{jump:Option Code}(hr:b.roundOf=some l)(hk:b.kind= .normal)(hL:w.heap[l]?=some (.loop L)){c:Frame}{rest:List Frame}
  (ht:(todo=[]/\jump=none)\/(∃k,todo= .code .ret::k/\jump=some .ret)\/(∃id k,todo= .code (.exit id)::k/\exitTo id k=none/\jump=some (.exit id))\/(∃g k,todo= .code (.goto g)::k/\gotoIn g k=none/\jump=some (.goto g))):
  step P (lone (frm b t d todo) (c::rest) w)= .next (lone (c.finish (.bool jump.isNone)) rest (World.setO w l (.loop {L with state:=if jump.isNone then .ready else .done,pending:=jump}))):=by
 have hrun:(Instr.endRound l jump).run P w= .ok (.bool jump.isNone) (World.setO w l (.loop {L with state:=if jump.isNone then .ready else .done,pending:=jump})):=by
  simp only[Instr.endRound,Sem.run_bind,AkX_ hL,Result.andThen_ok,Aor_ hL,Sem.run_pure]
 refine step_lone_go ?_
 rcases ht with⟨rfl,rfl⟩|⟨k,rfl,rfl⟩|⟨id,k,rfl,e,rfl⟩|⟨g,k,rfl,e,rfl⟩<;>simp_all [stepG,stepG.exec,frm,doReturn]
end
section
variable {E:Env}{call round:Ag}{w0 w:World}{r:Inj}{base:List Deferred×List Frame}
theorem FR.frm {P:Program}{af:AF}{cx:Ctx}{fr:Frame}{cs:List Frame}(h:FR P r af cx base fr cs)(hm:af.mode= .run):fr=frm fr fr.tmps fr.defers af.todo:=by
 have h1:=h.todo hm
 have h2:=h.mode
 rw[hm]at h2
 obtain⟨a,b,c,d,e,f,g⟩:=fr
 simp only at h1
 cases h2
 rw[h1]
 rfl
theorem FR.to {P:Program}{af:AF}{cx:Ctx}{fr:Frame}{cs:List Frame}(h:FR P r af cx base fr cs)(k:List Item):FR P r {af with todo:=k,mode:= .run} cx base (Am.frm fr fr.tmps fr.defers k) cs:=
 ⟨h.fn,h.size,h.tm,λ_=>rfl, .run,h.round,h.rk,h.known,h.cx⟩
theorem All_ (af:AF)(k:List Item)(s:St):goTo af k s= .some (.go {af with todo:=k}) s:=rfl
theorem ON_ (af:AF)(k:List Item)(tm:T Value)(s:St):goTm af k tm s= .some (.go {af with todo:=k,tmps:=tm}) s:=rfl
theorem Aoc_ {af:AF}{fr:Frame}{cs:List Frame}{s s':St}{out:Out Step}{l:Nat}{jump:Option Code}(h:endR l jump s=rOf out s')(hF:FR E.P r af s.cx base fr cs)(hm:af.mode= .run)(hr:Rel w0 r s.mem w)(hro:af.roundOf=some l)
  (hcs:cs=base.2) (ht:(af.todo=[]/\jump=none)\/(∃k,af.todo= .code .ret::k/\jump=some .ret)\/(∃id k,af.todo= .code (.exit id)::k/\exitTo id k=none/\jump=some (.exit id))\/(∃g k,af.todo= .code (.goto g)::k/\gotoIn g k=none/\jump=some (.goto g))):
  ∃w' r',Goes w0 r s s' r' w'/\s'.lim=s.lim/\Co E.P r' base s'.cx fr (lone fr cs w) w' out:=by
 unfold endR at h
 rcases Cj h with⟨c,s1,e1,e2⟩|⟨c,e1,_⟩
 ·obtain⟨q1,q2⟩:=DW e1
  cases c with
  |C a b=>exact(Aw e2).elim
  |O o=>
   cases o with
   |loop st pe f n g tm ps as bd df=>
    rcases Cj e2 with⟨u,s2,e3,e4⟩|⟨c,e3,_⟩
    ·obtain⟨rfl,rfl⟩:=A6 (show R.some (Step.fin (.bool jump.isNone) .run) s2=rOf out s' from e4)
     obtain⟨b',d,o',g1,g2,g3⟩:=hr.obj _ _ q1 rfl
     have hro2:=hF.round
     rw[hro]at hro2
     cases hfr:fr.roundOf with
     |none=>rw[hfr]at hro2;exact hro2.elim
     |some l'=>
      rw[hfr]at hro2
      obtain⟨d',hro2⟩:=hro2
      rw[g1]at hro2
      cases hro2
      cases o' with
      |loop L=>
       obtain⟨k1,k2,k3,k4,k5,k6,k7,k8,k9⟩:=g3
       have hOR:OR r (.loop (if jump.isNone then .ready else .done) jump f n g tm ps as bd df) (.loop {L with state:=if jump.isNone then .ready else .done,pending:=jump}):=⟨rfl,rfl,k3,k4,k5,k6,k7,k8,k9⟩
       obtain⟨p1,p2,p3⟩:=Lk e3 (by rw[q2.1];exact hr) (by rw[q2.1];exact q1) rfl g1 hOR rfl
       refine⟨_,r,(Goes.same q2 hr).trans p1,p2.trans q2.2.2.1, ?_⟩
       have hkind:=hF.rk (by rw[hfr];simp)
       refine⟨cs, .inl ⟨hkind,hcs⟩, .bool jump.isNone, .bool _, ?_,λe=>by rw[hfr]at e;cases e⟩
       intro c rest hc
       subst hc
       rw[hkind,hF.frm hm]
       exact .one (AeK_ hfr hkind g2 ht)
      |_=>exact g3.elim
    ·exact((Da _ _).no _ _ _ e3).elim
   |_=>exact(Aw e2).elim
 ·exact((EY _).no _ _ _ e1).elim
theorem PL {af:AF}{fr:Frame}{cs:List Frame}{s s':St}{out:Out Step}{jump:Option Code}(h:EW af jump s=rOf out s')(hF:FR E.P r af s.cx base fr cs)(hm:af.mode= .run)(hr:Rel w0 r s.mem w)(hcs:af.roundOf≠none->cs=base.2)
  (ht:(af.todo=[]/\jump=none)\/(∃k,af.todo= .code .ret::k/\jump=some .ret)\/(∃id k,af.todo= .code (.exit id)::k/\exitTo id k=none/\jump=some (.exit id))\/(∃g k,af.todo= .code (.goto g)::k/\gotoIn g k=none/\jump=some (.goto g))):
  ∃w' r',Goes w0 r s s' r' w'/\s'.lim=s.lim/\Co E.P r' base s'.cx fr (lone fr cs w) w' out:=by
 have h0:EW af jump=Option.rec (motive:=λ_=>M Step) (M.chk (Zq jump) (goMo af .returning af.tmps)) (λl=>endR l jump) af.roundOf:=rfl
 rw[h0]at h
 cases hro:af.roundOf with
 |some l=>
  rw[hro]at h
  exact Aoc_ h hF hm hr hro (hcs (by rw[hro];simp)) ht
 |none=>
  rw[hro]at h
  have hfro:fr.roundOf=none:=by
   have:=hF.round
   rw[hro]at this
   cases hx:fr.roundOf with
   |none=>rfl
   |some y=>rw[hx]at this;exact this.elim
  have fin: ∀{out:Out Step},M.pure (Step.go {af with mode:= .returning}) s=rOf out s'->step E.P (lone (frm fr fr.tmps fr.defers af.todo) cs w)= .next (lone {frm fr fr.tmps fr.defers af.todo with mode:= .returning} cs w)->
    ∃w' r',Goes w0 r s s' r' w'/\s'.lim=s.lim/\Co E.P r' base s'.cx fr (lone fr cs w) w' out:=by
   intro out h hs
   obtain⟨rfl,rfl⟩:=A6 h
   refine⟨w,r, .of_rel rfl hr,rfl,{frm fr fr.tmps fr.defers af.todo with mode:= .returning},cs,rfl,⟨hF.fn,hF.size,hF.tm,(λe=>by cases e), .ret,hF.round,hF.rk,hF.known,hF.cx⟩, ?_⟩
   exact .one (by rw[hF.frm hm];exact hs)
  rcases ht with⟨e1,rfl⟩|⟨k,e1,rfl⟩|⟨id,k,e1,e2,rfl⟩|⟨g,k,e1,e2,rfl⟩
  ·exact fin h (by rw[e1];exact AdT_ hfro)
  ·exact fin h (by rw[e1];exact AmH_ hfro)
  ·exact(Aw h).elim
  ·exact(Aw h).elim
theorem CT {af:AF}{fr:Frame}{cs:List Frame}{s s':St}{out:Out Step}{k:List Item}(h:goTo af k s=rOf out s')(hF:FR E.P r af s.cx base fr cs)(hm:af.mode= .run)(hr:Rel w0 r s.mem w)
  (hs:step E.P (lone (frm fr fr.tmps fr.defers af.todo) cs w)= .next (lone (frm fr fr.tmps fr.defers k) cs w)):
  ∃w' r',Goes w0 r s s' r' w'/\s'.lim=s.lim/\Co E.P r' base s'.cx fr (lone fr cs w) w' out:=by
 obtain⟨rfl,rfl⟩:=A6 ((All_ af k s).symm.trans h)
 have hF':=hF.to k
 rw[<-hm]at hF'
 exact⟨w,r, .of_rel rfl hr,rfl,frm fr fr.tmps fr.defers k,cs,rfl,hF', .one (by rw[hF.frm hm];exact hs)⟩
theorem LO_ {af:AF}{fr:Frame}{cs:List Frame}{s s':St}{out:Out Step}{jump:Code}{k:Option (List Item)}(h:Fm af jump k s=rOf out s')(hF:FR E.P r af s.cx base fr cs)(hm:af.mode= .run)(hr:Rel w0 r s.mem w)(hcs:af.roundOf≠none->cs=base.2)
  (hk: ∀k',k=some k'->step E.P (lone (frm fr fr.tmps fr.defers af.todo) cs w)= .next (lone (frm fr fr.tmps fr.defers k') cs w))
  (ht:k=none->(∃id k,af.todo= .code (.exit id)::k/\exitTo id k=none/\jump= .exit id)\/(∃g k,af.todo= .code (.goto g)::k/\gotoIn g k=none/\jump= .goto g)):
  ∃w' r',Goes w0 r s s' r' w'/\s'.lim=s.lim/\Co E.P r' base s'.cx fr (lone fr cs w) w' out:=by
 cases k with
 |none=>
  refine PL (jump:=some jump) h hF hm hr hcs ?_
  rcases ht rfl with⟨id,k,a,b,rfl⟩|⟨g,k,a,b,rfl⟩
  ·exact .inr (.inr (.inl ⟨id,k,a,b,rfl⟩))
  ·exact .inr (.inr (.inr ⟨g,k,a,b,rfl⟩))
 |some k'=>exact CT h hF hm hr (hk k' rfl)
