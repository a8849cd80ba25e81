import Derived.Test.YtjfhmacppabehaaIDr04
import Derived.Orders
import Derived.Test.YtjfhmacppabehaaIDr03
noncomputable section
namespace Go.Proofs.Ytjfhmacppabehaa.Am
open Go.RowKit
section
variable {E:Env}{glob n:Nat}{ops:Array Oper}
theorem Ii {all:List Oper}{o:Oper}{l:List Oper}{ds:List Nat}{cs:List COp}(h:BQ E glob n all (o::l) ds=some cs):
  ∃g f r,cs=⟨g,o.dst,BX o.dst glob,f⟩::r∧Dt all ds o.guard=some g∧newD o.dst n ds=true∧CY E ds o.op= .mk f∧BQ E glob n all l (BH o.dst ds)=some r:=by
 have h0:BQ E glob n all (o::l) ds=onO (Dt all ds o.guard) fun g=>Bool.rec (motive:=fun _=>Option (List COp)) none (onO (BQ E glob n all l (BH o.dst ds)) fun r=>
   Cl.rec (motive:=fun _=>Option (List COp)) (fun f=>Bool.rec (motive:=fun _=>Option (List COp)) (some (⟨g,o.dst,false,f⟩::r)) (some (⟨g,o.dst,true,f⟩::r)) (BX o.dst glob)) (CY E ds o.op)) (newD o.dst n ds):=rfl
 rw[h0]at h
 obtain⟨g,h1,h⟩:=CT h
 cases h2:newD o.dst n ds with
 |false=>rw[h2]at h;cases h
 |true=>
  rw[h2]at h
  obtain⟨r,h3,h⟩:=CT h
  cases h4:CY E ds o.op with
  |mk f=>
   rw[h4]at h
   cases h5:BX o.dst glob with
   |false=>rw[h5]at h;cases h;exact⟨g,f,r,rfl,h1,rfl,rfl,h3⟩
   |true=>rw[h5]at h;cases h;exact⟨g,f,r,rfl,h1,rfl,rfl,h3⟩
theorem Az_ {all:List Oper}{ds:List Nat}{gd:Option (Nat×Bool)}{g:Option (Nat×Bool)}(h:Dt all ds gd=some g):
  (gd=none∧g=none)∨ ∃j want q d p,gd=some (j,want)∧all[j]?=some q∧q.dst=some d∧g=some (p,want)∧ds[p]?=some d:=by
 unfold Dt at h
 split at h
 ·cases h;exact .inl ⟨rfl,rfl⟩
 ·split at h
  ·split at h
   ·split at h
    ·cases h
     exact .inr ⟨_,_,_,_,_,rfl,by assumption,by assumption,rfl,Ly (by assumption)⟩
    ·cases h
   ·cases h
  ·cases h
theorem Wh: ∀(n:Nat) (l:Rho),nthV n l=l[n]?
 |0,l=>QE l
 |_n+1,[]=>rfl
 |n+1,_v::l=>Wh n l
theorem Bd_ {r:Inj}{v v':Value}{want:Bool}(h:VR r v v')(hk:isK v=true):((match v' with| .bool b=>some b|_=>none)==some want)=isB v want:=by
 cases h<;>first|rfl|(rename_i b;cases b<;>cases want<;>rfl)|exact absurd hk (by simp[isK])
theorem Ds_ {g:Option (Nat×Bool)}{rho:Rho}{x:M Value}(h:Loc x):Loc (BF g rho x):=by
 cases g with
 |none=>exact h
 |some p=>exact Ao _ fun v=>Ar _ (AC _ h (Ah _))
def OpG (E:Env)(ops:Array Oper)(i:Nat)(o:Oper)(ds:List Nat)(c:COp):Prop:=
 (∀call round,CallOK E call→RoundOK E round→ ∀rho tm,Loc (BF c.guard rho (c.run call round rho tm)))∧
  ∀call round,CallOK E call→RoundOK E round→ ∀(w0 w:World) (r:Inj) (U:Nat→Prop) rho tm (b:Frame) (t:Array Value) (dfs:List Deferred) (cs:List Frame) (base:List Deferred×List Frame) (s:St) (out:Out Value) (s':St),
   SlR r U ds rho tm t→(∀t,t∈C2 ops.toList o→U t)→rho.length=ds.length→Rel w0 r s.mem w→CxR r base s.cx b dfs cs→Bnd s→A8 r s.next s'.next→BF c.guard rho (c.run call round rho tm) s=rOf out s'→
   ∀rest k,∃w' r' dfs' cs',Goes w0 r s s' r' w'∧CxR r' base s'.cx b dfs' cs'∧s'.lim=s.lim∧
    Mx E.P r' out (lone (frm b t dfs (.inRegion ops (i::rest)::k)) cs w) b t dfs' ops o rest k cs' w'
theorem Hv_ {all:List Oper}{o:Oper}{t:Nat}(h:Operand.tmp t∈o.op.operands.toList):t∈C2 all o:=by
 unfold C2
 apply List.mem_append_right
 exact List.mem_filterMap.2 ⟨_,h,rfl⟩
theorem Ks_ {all:List Oper}{o q:Oper}{j d:Nat}{want:Bool}(h:o.guard=some (j,want))(h1:all[j]?=some q)(h2:q.dst=some d):d∈C2 all o:=by
 unfold C2
 apply List.mem_append_left
 simp[h,h1,h2]
theorem Hq (he:EnvTy E){i:Nat}{o:Oper}{ds:List Nat}{g:Option (Nat×Bool)}{f:OpT}{keep:Bool}(ho:ops[i]?=some o)(hg:Dt ops.toList ds o.guard=some g)(hf:CY E ds o.op= .mk f):
  OpG E ops i o ds ⟨g,o.dst,keep,f⟩:=by
 obtain⟨f',h1,h2,h3⟩:=Xe he o ds
 rw[hf]at h1
 cases h1
 refine⟨fun call round c1 c2 rho tm=>Ds_ (h2 call round c1 c2 rho tm), ?_⟩
 intro call round c1 c2 w0 w r U rho tm b t dfs cs base s out s' hs hu hlen hr hx hb hfr e rest k
 have run:Region.wanted o (yielded ops t)=true→f call round rho tm s=rOf out s'→ ∃w' r' dfs' cs',Goes w0 r s s' r' w'∧CxR r' base s'.cx b dfs' cs'∧s'.lim=s.lim∧
   Mx E.P r' out (lone (frm b t dfs (.inRegion ops (i::rest)::k)) cs w) b t dfs' ops o rest k cs' w':=fun hw e=>
  h3 call round c1 c2 w0 w r U rho tm b t dfs cs base s out s' hs (fun t q=>hu t (Hv_ q)) hr hx hb hfr e ops i rest k ho hw
 rcases Az_ hg with⟨q1,q2⟩|⟨j,want,q,d,p,q1,q2,q3,q4,q5⟩
 ·subst q2
  exact run (by unfold Region.wanted;rw[q1]) e
 ·subst q4
  replace e:M.on (nthV p rho) (fun v=>M.chk (isK v) (M.if (isB v want) (f call round rho tm) (M.pure undef))) s=rOf out s':=e
  obtain⟨v,e1,e⟩:=F5 e
  obtain⟨hk,e⟩:=GV_ e
  rw[Wh]at e1
  obtain⟨v',e2,e3⟩:=hs.loc p d v (hu d (Ks_ q1 q2 q3)) q5 e1
  have hj:ops[j]?=some q:=by rw[←Array.getElem?_toList];exact q2
  have hy:Region.wanted o (yielded ops t)=isB v want:=by
   rw[←Bd_ e3 hk]
   unfold Region.wanted yielded
   simp only[q1,hj,q3,Option.bind_some,e2]
   cases v'<;>rfl
  rw[Cv]at e
  cases hB:isB v want with
  |true=>
   rw[hB]at e
   exact run (by rw[hy,hB]) e
  |false=>
   rw[hB]at e
   obtain⟨rfl,rfl⟩:=Bd (show R.some undef s=rOf out s' from e)
   exact⟨w,r,dfs,cs, .of_rel rfl hr,hx,rfl,undef, .undef, .one (FN_ ho (by rw[hy,hB]))⟩
theorem JJ (t:Array Value)(d:Option Nat)(v:Value):(putT t d v).size=t.size:=by cases d<;>simp[putT]
theorem EY {t:Array Value}{d:Option Nat}{v:Value}{x:Nat}(h:d≠some x):(putT t d v)[x]?=t[x]?:=by
 cases d with
 |none=>rfl
 |some d=>exact Array.getElem?_setIfInBounds_ne (fun e=>h (by rw[e]))
theorem MX {t:Array Value}{d:Nat}{v:Value}(h:d<t.size):(putT t (some d) v)[d]?=some v:=by simp[putT,h]
theorem JP {d n:Nat}{ds:List Nat}(h:newD (some d) n ds=true):d<n∧d∉ds:=by
 have h':(Nat.blt d n&& !ds.any fun e=>Nat.beq d e)=true:=h
 rw[Bool.and_eq_true]at h'
 refine⟨Bt h'.1,fun hm=> ?_⟩
 have h2:=h'.2
 rw[Bool.not_eq_true']at h2
 have:=List.any_eq_false.1 h2 d hm
 exact this (by show Nat.beq d d=true;exact Nat.beq_refl d)
def Cs (d:Option Nat)(keep:Bool)(v:Value)(tm:T Value):T Value:=
 match d,keep with
 |some d,true=>T.set tm d v
 |_,_=>tm
theorem Q4 {β:Type}(d:Option Nat)(keep:Bool)(v:Value)(tm:T Value)(K:T Value→M β):FB d keep v tm K=K (Cs d keep v tm):=by
 unfold FB Cs
 cases keep with
 |false=>cases d<;>rfl
 |true=>
  cases d with
  |none=>rfl
  |some d=>
   obtain⟨a,b,c,e⟩:=T.set_N tm d v
   simp only[e]
theorem TmR.keep {r:Inj}{tm:T Value}{t:Array Value}{d:Option Nat}{v v':Value}(h:TmR r glob tm t)(hv:VR r v v')(hd: ∀x,d=some x→x<t.size):TmR r glob (Cs d (BX d glob) v tm) (putT t d v'):=by
 intro x u e
 cases d with
 |none=>exact h x u e
 |some d=>
  unfold Cs at e
  cases hk:BX (some d) glob with
  |true=>
   rw[hk]at e
   simp only[T.get_set]at e
   split at e
   ·rename_i hx
    cases e
    subst hx
    exact⟨hk,v',MX (hd _ rfl),hv⟩
   ·rename_i hx
    obtain⟨q1,u',q2,q3⟩:=h x u e
    exact⟨q1,u',by rw[EY (by simpa using fun e=>hx e.symm)];exact q2,q3⟩
  |false=>
   rw[hk]at e
   obtain⟨q1,u',q2,q3⟩:=h x u e
   refine⟨q1,u', ?_,q3⟩
   rw[EY]
   ·exact q2
   ·intro hx
    cases hx
    rw[show BX (some x) glob=Nat.testBit glob x from rfl,q1]at hk
    cases hk
theorem SlR.push {r:Inj}{ds:List Nat}{rho:Rho}{tm tm':T Value}{t:Array Value}{d:Option Nat}{v v':Value}(h:SlR r (fun _=>True) ds rho tm t)(hv:VR r v v')(hd:newD d t.size ds=true)(hT:TmR r glob tm' (putT t d v')):
  SlR r (fun _=>True) (BH d ds) (Ck d v rho) tm' (putT t d v'):=by
 refine⟨?_,fun x u _ e=>(hT x u e).2⟩
 intro i x u _ e1 e2
 cases d with
 |none=>exact h.loc i x u True.intro e1 e2
 |some d=>
  obtain⟨q1,q2⟩:=JP hd
  replace e1:(d::ds)[i]?=some x:=e1
  replace e2:(v::rho)[i]?=some u:=e2
  cases i with
  |zero=>
   simp at e1 e2
   subst e1
   subst e2
   exact⟨v',MX q1,hv⟩
  |succ i=>
   simp at e1 e2
   obtain⟨u',p1,p2⟩:=h.loc i x u True.intro e1 e2
   refine⟨u', ?_,p2⟩
   rw[EY]
   ·exact p1
   ·intro hx
    cases hx
    exact q2 (List.mem_of_getElem? e1)
theorem Kg (call round:Ac)(g:Option (Nat×Bool))(d:Option Nat)(k:Bool)(f:OpT)(l:List COp)(rho:Rho)(tm:T Value):
  By call round (⟨g,d,k,f⟩::l) rho tm=M.bind (BF g rho (f call round rho tm)) fun v=>By call round l (Ck d v rho) (Cs d k v tm):=by
 show M.bind (BF g rho (f call round rho tm)) (fun v=>FB d k v tm (By call round l (Ck d v rho)))=_
 congr
 funext v
 rw[Q4]
theorem DK_ (o:Oper)(l:List Oper):dstL (o::l)=BH o.dst (dstL l):=rfl
theorem HX {o:Oper}{d:Nat}: ∀{l:List Oper},o∈l→o.dst=some d→d∈dstL l
 |[],h,_=>by cases h
 |x::l,h,e=>by
  rw[DK_]
  rcases List.mem_cons.1 h with rfl|h
  ·rw[e];exact List.mem_cons_self
  ·cases hx:x.dst with
   |none=>exact HX h e
   |some y=>exact List.mem_cons_of_mem _ (HX h e)
def Hc (P:Program)(r:Inj)(glob:Nat)(out:Out (T Value))(m:Machine)(b:Frame)(t:Array Value)(all:List Oper)(dfs:List Deferred)(k:List Item)(cs:List Frame)(w':World):Prop:=
 match out with
 | .inl tm=> ∃t',TmR r glob tm t'∧t'.size=t.size∧Steps P m (lone (frm b t' dfs k) cs w')
 | .inr ch=> ∃ch' t' td,ChR r ch ch'∧t'.size=t.size∧(∀d,d∉dstL all→t'[d]?=t[d]?)∧Steps P m (lone {frm b t' dfs td with mode:= .panicking ch'} cs w')
theorem GO (he:EnvTy E){call round:Ac}(c1:CallOK E call)(c2:RoundOK E round): ∀(l:List Oper) (i:Nat) (ds:List Nat) (cops:List COp),BQ E glob n ops.toList l ds=some cops→(∀j o,l[j]?=some o→ops[i+j]?=some o)→
  ∀rho tm,Loc (By call round cops rho tm)
 |[],_,_,_,hc,_,rho,tm=>by cases hc;exact Ah _
 |o::l,i,ds,cops,hc,hl,rho,tm=>by
  obtain⟨g,f,cr,rfl,q1,q2,q3,q4⟩:=Ii hc
  rw[Kg]
  exact Ae ((Hq (keep:=BX o.dst glob) he (hl 0 o rfl) q1 q3).1 call round c1 c2 rho tm) fun v=>
   GO he c1 c2 l (i+1) _ cr q4 (fun j x hj=>by have:=hl (j+1) x (by simpa using hj);rw[←this];congr 1;omega) _ _
theorem N6 (he:EnvTy E){call round:Ac}(c1:CallOK E call)(c2:RoundOK E round){b:Frame}{k:List Item}{base:List Deferred×List Frame}{w0:World}:
  ∀(l:List Oper) (i:Nat) (ds:List Nat) (cops:List COp) (rho:Rho) (tm:T Value) (t:Array Value) (dfs:List Deferred) (cs:List Frame) (w:World) (r:Inj) (s:St) (out:Out (T Value)) (s':St),
   (∀j o,l[j]?=some o→ops[i+j]?=some o)→BQ E glob n ops.toList l ds=some cops→SlR r (fun _=>True) ds rho tm t→TmR r glob tm t→t.size=n→rho.length=ds.length→
   Rel w0 r s.mem w→CxR r base s.cx b dfs cs→Bnd s→A8 r s.next s'.next→By call round cops rho tm s=rOf out s'→
   ∃w' r' dfs' cs',Goes w0 r s s' r' w'∧CxR r' base s'.cx b dfs' cs'∧s'.lim=s.lim∧Hc E.P r' glob out (lone (frm b t dfs (.inRegion ops (List.range' i l.length)::k)) cs w) b t ops.toList dfs' k cs' w'
 |[],i,ds,cops,rho,tm,t,dfs,cs,w,r,s,out,s',hl,hc,hs,hT,hn,hlen,hr,hx,hb,hf,e=>by
  cases hc
  obtain⟨rfl,rfl⟩:=Bd (show R.some tm s=rOf out s' from e)
  exact⟨w,r,dfs,cs, .of_rel rfl hr,hx,rfl,t,hT,rfl, .one HA_⟩
 |o::l,i,ds,cops,rho,tm,t,dfs,cs,w,r,s,out,s',hl,hc,hs,hT,hn,hlen,hr,hx,hb,hf,e=>by
  obtain⟨g,f,cr,rfl,q1,q2,q3,q4⟩:=Ii hc
  have ho:ops[i]?=some o:=hl 0 o rfl
  obtain⟨hloc,hop⟩:=Hq (keep:=BX o.dst glob) he ho q1 q3
  rw[Kg]at e
  have hrange:List.range' i (o::l).length=i::List.range' (i+1) l.length:=by simp[List.range'_succ]
  rw[hrange]
  rcases BB e with⟨v,s1,e1,e2⟩|⟨ch,e1,rfl⟩
  ·have hL:=(hloc call round c1 c2 rho tm).at' s (.inl v) s1 e1 hb
   have hnx:s1.next≤s'.next:=((GO he c1 c2 l (i+1) (BH o.dst ds) cr q4 (fun j x hj=>by have:=hl (j+1) x (by simpa using hj);rw[←this];congr 1;omega) _ _).at' _ _ _ e2 hL.bnd).next
   obtain⟨w1,r1,dfs1,cs1,k1,k2,k3,v',k4,k5⟩:=hop call round c1 c2 w0 w r _ rho tm b t dfs cs base s (.inl v) s1 hs (fun _ _=>True.intro) hlen hr hx hb (fun b x y=>hf b x (Nat.lt_of_lt_of_le y hnx)) e1 (List.range' (i+1) l.length) k
   have hT1:TmR r1 glob (Cs o.dst (BX o.dst glob) v tm) (putT t o.dst v'):=(hT.mono k1.le).keep k4 (fun x hx=>by
    rw[hx]at q2
    rw[hn]
    exact(JP q2).1)
   obtain⟨w2,r2,dfs2,cs2,p1,p2,p3,p4⟩:=N6 he c1 c2 l (i+1) (BH o.dst ds) cr (Ck o.dst v rho) _ (putT t o.dst v') dfs1 cs1 w1 r1 s1 out s'
    (fun j x hj=>by have:=hl (j+1) x (by simpa using hj);rw[←this];congr 1;omega) q4 ((hs.mono k1.le).push k4 (by rw[hn];exact q2) hT1) hT1 (by rw[JJ];exact hn)
    (by cases hd:o.dst<;>simp[BH,Ck,hlen]) k1.rel k2 hL.bnd (k1.fresh hf) e2
   refine⟨w2,r2,dfs2,cs2,k1.trans p1,p2,p3.trans k3, ?_⟩
   unfold Hc at p4 ⊢
   cases out with
   |inl tm'=>
    obtain⟨t',z1,z2,z3⟩:=p4
    exact⟨t',z1,by rw[z2,JJ],k5.trans z3⟩
   |inr ch=>
    obtain⟨ch',t',td,z1,z2,z3,z4⟩:=p4
    refine⟨ch',t',td,z1,by rw[z2,JJ],fun d hd=> ?_,k5.trans z4⟩
    rw[z3 d hd,EY]
    intro hx
    exact hd (HX (by rw[Array.mem_toList_iff];exact Array.mem_of_getElem? ho) hx)
  ·obtain⟨w1,r1,dfs1,cs1,k1,k2,k3,ch',td,k4,k5⟩:=hop call round c1 c2 w0 w r _ rho tm b t dfs cs base s (.inr ch) s' hs (fun _ _=>True.intro) hlen hr hx hb hf e1 (List.range' (i+1) l.length) k
   exact⟨w1,r1,dfs1,cs1,k1,k2,k3,ch',t,td,k4,rfl,fun _ _=>rfl,k5⟩
end
def Bf (ops:Array Oper)(j i:Nat):Prop:= ∃b,(Region.before ops)[j]?=some b∧b.testBit i=true
theorem LT (i k:Nat):(2^k).testBit i=decide (i=k):=by
 rw[Nat.testBit_two_pow]
 by_cases h:k=i
 ·simp[h]
 ·simp[h];exact fun e=>h e.symm
theorem Sq (acc:Array Nat)(i:Nat): ∀(l:List Edge) (s:Nat),(l.foldl (fun s e=>if Region.binds .any e then s|||2^e.on|||acc.getD e.on 0 else s) s).testBit i=true→
  s.testBit i=true∨ ∃e∈l,Region.binds .any e=true∧(i=e.on∨(acc.getD e.on 0).testBit i=true)
 |[],s,h=> .inl h
 |e::l,s,h=>by
  rcases Sq acc i l _ h with h|⟨e',h1,h2⟩
  ·replace h:(if Region.binds .any e=true then s|||2^e.on|||acc.getD e.on 0 else s).testBit i=true:=h
   by_cases hb:Region.binds .any e=true
   ·rw[if_pos hb,Nat.testBit_or,Nat.testBit_or,LT]at h
    simp only[Bool.or_eq_true,decide_eq_true_eq]at h
    rcases h with(h|h)|h
    ·exact .inl h
    ·exact .inr ⟨e,List.mem_cons_self,hb, .inl h⟩
    ·exact .inr ⟨e,List.mem_cons_self,hb, .inr h⟩
   ·rw[if_neg hb]at h
    exact .inl h
  ·exact .inr ⟨e',List.mem_cons_of_mem _ h1,h2⟩
def Dn (acc:Array Nat)(o:Oper):Nat:=o.after.foldl (fun s e=>if Region.binds .any e then s|||2^e.on|||acc.getD e.on 0 else s) 0
theorem Z9 {acc:Array Nat}{o:Oper}{i:Nat}(h:(Dn acc o).testBit i=true): ∃e∈o.after,Region.binds .any e=true∧(i=e.on∨(acc.getD e.on 0).testBit i=true):=by
 unfold Dn at h
 rw[←Array.foldl_toList]at h
 rcases Sq acc i _ _ h with h|⟨e,h1,h2⟩
 ·simp at h
 ·exact⟨e,by simpa using h1,h2⟩
theorem NV: ∀(l:List Oper) (acc:Array Nat),(l.foldl (fun acc o=>acc.push (Dn acc o)) acc).size=acc.size+l.length∧
  (∀j,j<acc.size→(l.foldl (fun acc o=>acc.push (Dn acc o)) acc)[j]?=acc[j]?)∧
  ∀q o,l[q]?=some o→ ∃acc',acc'.size=acc.size+q∧(∀j,j<acc'.size→(l.foldl (fun acc o=>acc.push (Dn acc o)) acc)[j]?=acc'[j]?)∧(l.foldl (fun acc o=>acc.push (Dn acc o)) acc)[acc.size+q]?=some (Dn acc' o)
 |[],acc=>⟨by simp,fun _ _=>rfl,fun q o h=>by simp at h⟩
 |o::l,acc=>by
  obtain⟨h1,h2,h3⟩:=NV l (acc.push (Dn acc o))
  simp only[List.foldl_cons]
  refine⟨by rw[h1];simp;omega,fun j hj=> ?_,fun q x hx=> ?_⟩
  ·rw[h2 j (by simp;omega),Array.getElem?_push,if_neg (by omega)]
  ·cases q with
   |zero=>
    simp at hx
    subst hx
    refine⟨acc,rfl,fun j hj=> ?_, ?_⟩
    ·rw[h2 j (by simp;omega),Array.getElem?_push,if_neg (by omega)]
    ·rw[Nat.add_zero,h2 acc.size (by simp),Array.getElem?_push,if_pos rfl]
   |succ q=>
    obtain⟨acc',k1,k2,k3⟩:=h3 q x (by simpa using hx)
    refine⟨acc',by rw[k1];simp;omega,k2, ?_⟩
    rw[←k3]
    congr 1
    simp
    omega
theorem MA (ops:Array Oper):Region.before ops=ops.toList.foldl (fun acc o=>acc.push (Dn acc o)) #[]:=by
 unfold Region.before
 rw[←Array.foldl_toList]
 rfl
theorem If_ {ops:Array Oper}{j i:Nat}(h:Bf ops j i): ∃o e,ops[j]?=some o∧e∈o.after∧Region.binds .any e=true∧(i=e.on∨Bf ops e.on i):=by
 obtain⟨b,h1,h2⟩:=h
 rw[MA]at h1
 obtain⟨k1,k2,k3⟩:=NV ops.toList #[]
 have hj:j<ops.toList.length:=by
  have:=(Array.getElem?_eq_some_iff.1 h1).1
  rw[k1]at this
  simpa using this
 obtain⟨acc',q1,q2,q3⟩:=k3 j ops.toList[j] (List.getElem?_eq_getElem hj)
 rw[show(#[]:Array Nat).size+j=j by simp]at q3
 rw[q3]at h1
 cases h1
 obtain⟨e,p1,p2,p3⟩:=Z9 h2
 refine⟨ops.toList[j],e,by rw[←Array.getElem?_toList];exact List.getElem?_eq_getElem hj,p1,p2, ?_⟩
 rcases p3 with p3|p3
 ·exact .inl p3
 ·refine .inr ?_
  have he:e.on<acc'.size:=by
   rcases Nat.lt_or_ge e.on acc'.size with h|h
   ·exact h
   ·rw[Array.getD_eq_getD_getElem?,Array.getElem?_eq_none h]at p3
    simp at p3
  refine⟨acc'.getD e.on 0, ?_,p3⟩
  rw[MA,q2 e.on he,Array.getD_eq_getD_getElem?,Array.getElem?_eq_getElem he]
  rfl
theorem Ln_ (ops:Array Oper):(Region.before ops).toList.length=ops.size:=by
 rw[MA]
 have:=(NV ops.toList #[]).1
 simpa using this
def cnt (p:Nat→Bool):Nat→Nat
 |0=>0
 |n+1=>cnt p n+if p n then 1 else 0
theorem NG {p:Nat→Bool}: ∀{n:Nat},cnt p n=0→ ∀i,i<n→p i=false
 |0,_,i,h=>absurd h (Nat.not_lt_zero _)
 |n+1,h,i,hi=>by
  simp only[cnt]at h
  by_cases e:i=n
  ·subst e
   cases hp:p i with
   |false=>rfl
   |true=>rw[hp]at h;simp at h
  ·exact NG (n:=n) (by omega) i (by omega)
theorem NB {p:Nat→Bool}: ∀{n:Nat},0<cnt p n→ ∃i,i<n∧p i=true∧ ∀j,j<i→p j=false
 |0,h=>absurd h (Nat.lt_irrefl _)
 |n+1,h=>by
  by_cases h0:0<cnt p n
  ·obtain⟨i,h1,h2,h3⟩:=NB h0
   exact⟨i,by omega,h2,h3⟩
  ·have h1:cnt p n=0:=by omega
   cases hp:p n with
   |true=>exact⟨n,by omega,hp,fun j hj=>NG h1 j hj⟩
   |false=>simp[cnt,h1,hp]at h
theorem Y6 (n:Nat):cnt (fun _=>true) n=n:=by
 induction n with
 |zero=>rfl
 |succ n ih=>simp[cnt,ih]
theorem ME {p q:Nat→Bool}: ∀{n:Nat},(∀i,i<n→p i=q i)→cnt p n=cnt q n
 |0,_=>rfl
 |n+1,h=>by simp only[cnt];rw[ME (n:=n) fun i hi=>h i (by omega),h n (by omega)]
theorem R0 {p q:Nat→Bool}{i:Nat}(hp:p i=true)(hq:q i=false)(h: ∀j,j≠i→p j=q j): ∀{n:Nat},i<n→cnt p n=cnt q n+1
 |0,hi=>absurd hi (Nat.not_lt_zero _)
 |n+1,hi=>by
  simp only[cnt]
  by_cases e:i=n
  ·subst e
   rw[ME (n:=i) fun j hj=>h j (by omega),hp,hq]
   simp
  ·rw[R0 hp hq h (n:=n) (by omega),h n (fun x=>e x.symm)]
   omega
theorem TO {α:Type}(m:M α)(s:St):apartO m s=match m ⟨s.mem,s.next,s.next,[],[],s.cx⟩with
  | .some a s1=>(match s1.cx with| .no=> .some (a,⟨s.next,s1.next,s1.rd,s1.wr⟩) ⟨s1.mem,s1.next,s.lim,s.rd,s.wr, .no⟩|_=> .none)
  |_=> .none:=by
 obtain⟨mem,next,lim,rd,wr,cx⟩:=s
 unfold apartO
 simp only
 cases m ⟨mem,next,next,[],[],cx⟩with
 |none=>rfl
 |some a s1=>obtain⟨mem',next',lim',rd',wr',cx'⟩:=s1;cases cx'<;>rfl
 |pan c s1=>rfl
structure TrAt (m:M Value)(mem:T Cell)(nx:Nat)(v:Value)(mem1:T Cell)(nx1:Nat)(Rd Wr:Nat→Prop)(lr lw:List Nat):Prop where
 run:LocG m ⟨mem,nx,nx,[],[], .no⟩ (.inl v) ⟨mem1,nx1,nx,lr,lw, .no⟩ Rd Wr lr lw
 ird: ∀l,Rd l→l<nx→l∈lr
 iwr: ∀l,Wr l→l<nx→l∈lw
theorem H5 {m:M Value}(hm:Loc m){s s':St}{o:Out (Value×OpLog)}(hs:s.cx= .no)(h:apartO m s=rOf o s'):
  ∃v mem1 nx1 Rd Wr lr lw,o= .inl (v,⟨s.next,nx1,lr,lw⟩)∧s'=⟨mem1,nx1,s.lim,s.rd,s.wr, .no⟩∧TrAt m s.mem s.next v mem1 nx1 Rd Wr lr lw∧(Bnd s→LocG (apartO m) s o s' Rd Wr [] []):=by
 rw[TO]at h
 cases e:m ⟨s.mem,s.next,s.next,[],[],s.cx⟩with
 |none=>rw[e]at h;exact(AU h).elim
 |pan c s1=>rw[e]at h;exact(AU h).elim
 |some v s1=>
  rw[e]at h
  rw[hs]at e
  obtain⟨mem1,nx1,lim1,lr,lw,cx1⟩:=s1
  cases cx1 with
  |cx a b=>exact(AU h).elim
  |no=>
   obtain⟨rfl,rfl⟩:=Bd h
   obtain⟨Rd,Wr,dr,dw,g,i1,i2⟩:=hm.at' _ (.inl v) _ e (Nat.le_refl _)
   have e1:lr=dr:=by have:=g.rd;simpa using this
   have e2:lw=dw:=by have:=g.wr;simpa using this
   have e3:lim1=s.next:=g.lim
   subst e1
   subst e2
   subst e3
   refine⟨v,mem1,nx1,Rd,Wr,lr,lw,rfl,rfl,⟨g,i1,i2⟩,fun hb=>⟨rfl,rfl,g.nxt,rfl, ?_,g.rlt,g.wlt,g.old,fun t e1 e2 e3 e4=> ?_⟩⟩
   ·exact Nat.le_trans hb g.nxt
   ·obtain⟨t',q1,q2,q3,q4,q5,q6,q7,q8⟩:=g.any ⟨t.mem,t.next,t.next,[],[], .no⟩ e1 e1 rfl e4
    obtain⟨tm,tn,tl,tr,tw,tc⟩:=t'
    simp only[List.append_nil]at q2 q3 q4 q5 q6
    subst q2
    subst q4
    subst q5
    subst q6
    refine⟨⟨tm,tn,t.lim,t.rd,t.wr, .no⟩, ?_,rfl,e2,rfl,rfl,rfl,q7,q8⟩
    rw[TO,e3,hs,q1]
    simp only[rOf,e1]
theorem Qq (call round:Ac)(g:Option (Nat×Bool))(d:Option Nat)(k:Bool)(f:OpT)(l:List COp)(acc:List OpLog)(rho:Rho)(tm:T Value):
  Dm call round (⟨g,d,k,f⟩::l) acc rho tm=M.bind (apartO (BF g rho (f call round rho tm))) fun p=>Dm call round l (p.2::acc) (Ck d p.1 rho) (Cs d k p.1 tm):=by
 show M.bind (apartO (BF g rho (f call round rho tm))) (fun p=>FB d k p.1 tm fun tm=>Dm call round l (p.2::acc) (Ck d p.1 rho) tm)=_
 congr
 funext p
 rw[Q4]
structure Tra where
 V:Nat→Value
 Mm:Nat→T Cell
 Nx:Nat→Nat
 Rh:Nat→Rho
 Tm:Nat→T Value
 Rd:Nat→Nat→Prop
 Wr:Nat→Nat→Prop
 lr:Nat→List Nat
 lw:Nat→List Nat
def Tra.log (x:Tra)(i:Nat):OpLog:=⟨x.Nx i,x.Nx (i+1),x.lr i,x.lw i⟩
def sh {α:Type}(a:α)(f:Nat→α):Nat→α
 |0=>a
 |i+1=>f i
structure TraOK (call round:Ac)(cops:List COp)(x:Tra):Prop where
 at': ∀i c,cops[i]?=some c→TrAt (BF c.guard (x.Rh i) (c.run call round (x.Rh i) (x.Tm i))) (x.Mm i) (x.Nx i) (x.V i) (x.Mm (i+1)) (x.Nx (i+1)) (x.Rd i) (x.Wr i) (x.lr i) (x.lw i)∧
  x.Rh (i+1)=Ck c.slot (x.V i) (x.Rh i)∧x.Tm (i+1)=Cs c.slot c.keep (x.V i) (x.Tm i)
theorem Se {call round:Ac}: ∀(cops:List COp) (acc:List OpLog) (rho:Rho) (tm:T Value) (s:St) (o:Out ((Rho×T Value)×List OpLog)) (s':St),
  (∀c∈cops,∀rho tm,Loc (BF c.guard rho (c.run call round rho tm)))→s.cx= .no→Dm call round cops acc rho tm s=rOf o s'→
  ∃x:Tra,TraOK call round cops x∧x.Mm 0=s.mem∧x.Nx 0=s.next∧x.Rh 0=rho∧x.Tm 0=tm∧o= .inl ((x.Rh cops.length,x.Tm cops.length),((List.range cops.length).map x.log).reverse++acc)∧
   s'=⟨x.Mm cops.length,x.Nx cops.length,s.lim,s.rd,s.wr, .no⟩
 |[],acc,rho,tm,s,o,s',hl,hs,h=>by
  obtain⟨rfl,rfl⟩:=Bd (show R.some ((rho,tm),acc) s=rOf o s' from h)
  refine⟨⟨fun _=>undef,fun _=>s'.mem,fun _=>s'.next,fun _=>rho,fun _=>tm,fun _ _=>False,fun _ _=>False,fun _=>[],fun _=>[]⟩,⟨fun i c hc=>by simp at hc⟩,rfl,rfl,rfl,rfl,rfl, ?_⟩
  obtain⟨a,b,c,d,e,f⟩:=s'
  simp only at hs
  rw[hs]
 |⟨g,d,k,f⟩::l,acc,rho,tm,s,o,s',hl,hs,h=>by
  rw[Qq]at h
  have hm:Loc (BF g rho (f call round rho tm)):=hl _ List.mem_cons_self rho tm
  rcases BB h with⟨p,s1,e1,e2⟩|⟨ch,e1,rfl⟩
  ·obtain⟨v,mem1,nx1,Rd,Wr,lr,lw,q1,rfl,q3,_⟩:=H5 hm hs (o:= .inl p) e1
   cases q1
   obtain⟨x,k1,k2,k3,k4,k5,k6,k7⟩:=Se l _ _ _ _ o s' (fun c hc=>hl c (List.mem_cons_of_mem _ hc)) rfl e2
   refine⟨⟨sh v x.V,sh s.mem x.Mm,sh s.next x.Nx,sh rho x.Rh,sh tm x.Tm,sh Rd x.Rd,sh Wr x.Wr,sh lr x.lr,sh lw x.lw⟩,⟨fun i c hc=> ?_⟩,rfl,rfl,rfl,rfl, ?_, ?_⟩
   ·cases i with
    |zero=>
     simp at hc
     subst hc
     simp only[sh,k2,k3,k4,k5]
     exact⟨q3,trivial,trivial⟩
    |succ i=>exact k1.at' i c (by simpa using hc)
   ·rw[k6]
    simp only[List.length_cons,List.range_succ_eq_map,List.map_cons,List.map_map,List.reverse_cons,List.append_assoc,List.singleton_append]
    congr 2
    simp only[Tra.log,sh,k3]
    rfl
   ·rw[k7];rfl
  ·obtain⟨v,mem1,nx1,Rd,Wr,lr,lw,q1,_⟩:=H5 hm hs (o:= .inr ch) e1
   cases q1
theorem Vr {call round:Ac}: ∀(cops:List COp) (acc:List OpLog) (rho:Rho) (tm:T Value) (s:St) (o:Out ((Rho×T Value)×List OpLog)) (s':St),
  (∀c∈cops,∀rho tm,Loc (BF c.guard rho (c.run call round rho tm)))→s.cx= .no→Bnd s→Dm call round cops acc rho tm s=rOf o s'→
  ∃Rd Wr tm' es,o= .inl (tm',es)∧LocG (Dm call round cops acc rho tm) s o s' Rd Wr [] []∧(∀g∈acc,g∈es)∧(∀l,Rd l→l<s.next→ ∃g∈es,l∈g.rd)∧(∀l,Wr l→l<s.next→ ∃g∈es,l∈g.wr)
 |[],acc,rho,tm,s,o,s',hl,hs,hb,h=>by
  obtain⟨rfl,rfl⟩:=Bd (show R.some ((rho,tm),acc) s=rOf o s' from h)
  refine⟨fun _=>False,fun _=>False,(rho,tm),acc,rfl,⟨rfl,rfl,Nat.le_refl _,rfl,hb,fun _ e=>e.elim,fun _ e=>e.elim,fun _ _=>rfl,fun t e1 e2 e3 _=>⟨t,rfl,e1,e2,e3,rfl,rfl,fun _ e=>e.elim,fun _ _=>rfl⟩⟩,fun g e=>e,fun _ e=>e.elim,fun _ e=>e.elim⟩
 |⟨g,d,k,f⟩::l,acc,rho,tm,s,o,s',hl,hs,hb,h=>by
  rw[Qq]at h ⊢
  have hm:Loc (BF g rho (f call round rho tm)):=hl _ List.mem_cons_self rho tm
  rcases BB h with⟨p,s1,e1,e2⟩|⟨ch,e1,rfl⟩
  ·obtain⟨v,mem1,nx1,Rd,Wr,lr,lw,q1,rfl,q3,q4⟩:=H5 hm hs (o:= .inl p) e1
   cases q1
   have g1:=q4 hb
   obtain⟨Rd2,Wr2,tm',es,k1,k2,k3,k4,k5⟩:=Vr l _ _ _ _ o s' (fun c hc=>hl c (List.mem_cons_of_mem _ hc)) rfl g1.bnd e2
   refine⟨_,_,tm',es,k1,g1.seq k2 (fun t t1 q=>by unfold M.bind;rw[q];rfl),fun g hg=>k3 g (List.mem_cons_of_mem _ hg),fun l e x=> ?_,fun l e x=> ?_⟩
   ·rcases e with e|e
    ·exact⟨_,k3 _ List.mem_cons_self,q3.ird l e x⟩
    ·exact k4 l e (Nat.lt_of_lt_of_le x g1.nxt)
   ·rcases e with e|e
    ·exact⟨_,k3 _ List.mem_cons_self,q3.iwr l e x⟩
    ·exact k5 l e (Nat.lt_of_lt_of_le x g1.nxt)
  ·obtain⟨v,mem1,nx1,Rd,Wr,lr,lw,q1,_⟩:=H5 hm hs (o:= .inr ch) e1
   cases q1
theorem G2 (lim:Nat)(base:List Nat): ∀(l:List Nat),addL lim l base=addL lim l []++base
 |[]=>rfl
 |a::l=>by
  have h: ∀b,addL lim (a::l) b=notes a lim (addL lim l b):=fun _=>rfl
  rw[h,h,G2 lim base l,DX,DX (l:=addL lim l []),List.append_assoc]
theorem DN {lim x:Nat}(hx:x<lim): ∀{l base:List Nat},(x∈l∨x∈base)→x∈addL lim l base
 |[],base,h=>h.elim (fun h=>by cases h) id
 |a::l,base,h=>by
  show x∈notes a lim (addL lim l base)
  rw[H3]
  rcases h with h|h
  ·rcases List.mem_cons.1 h with rfl|h
   ·rw[if_pos hx];exact List.mem_cons_self
   ·split
    ·exact List.mem_cons_of_mem _ (DN hx (.inl h))
    ·exact DN hx (.inl h)
  ·split
   ·exact List.mem_cons_of_mem _ (DN hx (.inr h))
   ·exact DN hx (.inr h)
theorem NZ (lim:Nat)(base:List Nat): ∀(l:List OpLog),rdsL lim l base=rdsL lim l []++base
 |[]=>rfl
 |g::l=>by
  show addL lim g.rd (rdsL lim l base)=addL lim g.rd (rdsL lim l [])++base
  rw[G2,NZ lim base l,G2 (base:=rdsL lim l []),List.append_assoc]
theorem M5 (lim:Nat)(base:List Nat): ∀(l:List OpLog),wrsL lim l base=wrsL lim l []++base
 |[]=>rfl
 |g::l=>by
  show addL lim g.wr (wrsL lim l base)=addL lim g.wr (wrsL lim l [])++base
  rw[G2,M5 lim base l,G2 (base:=wrsL lim l []),List.append_assoc]
theorem SU {lim x:Nat}(hx:x<lim): ∀{l:List OpLog} {g:OpLog},g∈l→x∈g.rd→x∈rdsL lim l []
 |g'::l,g,h,e=>by
  show x∈addL lim g'.rd (rdsL lim l [])
  rcases List.mem_cons.1 h with rfl|h
  ·exact DN hx (.inl e)
  ·exact DN hx (.inr (SU hx h e))
theorem TS {lim x:Nat}(hx:x<lim): ∀{l:List OpLog} {g:OpLog},g∈l→x∈g.wr→x∈wrsL lim l []
 |g'::l,g,h,e=>by
  show x∈addL lim g'.wr (wrsL lim l [])
  rcases List.mem_cons.1 h with rfl|h
  ·exact DN hx (.inl e)
  ·exact DN hx (.inr (TS hx h e))
theorem ES {n0 x:Nat}: ∀{l acc:List Nat},(x∈l∧n0≤x)∨x∈acc→x∈Bv n0 l acc
 |[],acc,h=>h.elim (fun h=>by cases h.1) id
 |a::l,acc,h=>by
  show x∈Bool.rec (motive:=fun _=>List Nat) (Bv n0 l acc) (a::Bv n0 l acc) (Nat.ble n0 a)
  cases hb:Nat.ble n0 a with
  |true=>
   rcases h with⟨h,h'⟩|h
   ·rcases List.mem_cons.1 h with rfl|h
    ·exact List.mem_cons_self
    ·exact List.mem_cons_of_mem _ (ES (.inl ⟨h,h'⟩))
   ·exact List.mem_cons_of_mem _ (ES (.inr h))
  |false=>
   rcases h with⟨h,h'⟩|h
   ·rcases List.mem_cons.1 h with rfl|h
    ·rw[Nat.ble_eq_true_of_le h']at hb;cases hb
    ·exact ES (.inl ⟨h,h'⟩)
   ·exact ES (.inr h)
theorem QU {lo hi:Nat}: ∀{l:List Nat},CG lo hi l=false→ ∀x∈l,¬(lo≤x∧x<hi)
 |[],_,x,hx=>by cases hx
 |a::l,h,x,hx=>by
  replace h:Bool.rec (motive:=fun _=>Bool) (CG lo hi l) (Bool.rec (motive:=fun _=>Bool) (CG lo hi l) true (Nat.blt a hi)) (Nat.ble lo a)=false:=h
  intro⟨h1,h2⟩
  rcases List.mem_cons.1 hx with rfl|hx
  ·rw[Nat.ble_eq_true_of_le h1,show Nat.blt x hi=true from Nat.ble_eq_true_of_le h2]at h
   cases h
  ·refine QU (l:=l) ?_ x hx ⟨h1,h2⟩
   cases hb:Nat.ble lo a with
   |false=>rw[hb]at h;exact h
   |true=>
    cases hb2:Nat.blt a hi with
    |false=>rw[hb,hb2]at h;exact h
    |true=>rw[hb,hb2]at h;cases h
theorem TG {bj:Nat}{news:List Nat}: ∀{acc:List OpLog} {i:Nat},Dd bj news acc i=true→ ∀q a,acc[q]?=some a→bj.testBit (i+q)=false→CG a.lo a.hi news=false
 |[],i,_,q,a,hq,_=>by simp at hq
 |m::acc,i,h,q,a,hq,hb=>by
  replace h:((bj.testBit i|| !CG m.lo m.hi news)&&Dd bj news acc (Nat.succ i))=true:=h
  rw[Bool.and_eq_true,Bool.or_eq_true]at h
  cases q with
  |zero=>
   simp at hq
   subst hq
   rw[Nat.add_zero]at hb
   rcases h.1 with h1|h1
   ·rw[hb]at h1;cases h1
   ·simpa using h1
  |succ q=>exact TG h.2 q a (by simpa using hq) (by rw[←hb];congr 1;omega)
theorem RE {n0:Nat}{all:List OpLog}: ∀{l:List OpLog} {bef:List Nat} {j:Nat},D6 n0 all l bef j=true→ ∀q m b,l[q]?=some m→bef[q]?=some b→
  ∀i a,(all.take (j+q))[i]?=some a→b.testBit i=false→ ∀x,(x∈m.rd∨x∈m.wr)→n0≤x→ ¬(a.lo≤x∧x<a.hi)
 |[],bef,j,_,q,m,b,hq,_=>by simp at hq
 |m'::l,[],j,_,q,m,b,_,hb=>by simp at hb
 |m'::l,b'::bef,j,h,q,m,b,hq,hb=>by
  replace h:(F4 b' (Bv n0 m'.rd (Bv n0 m'.wr [])) (all.take j)&&D6 n0 all l bef (Nat.succ j))=true:=h
  rw[Bool.and_eq_true]at h
  cases q with
  |zero=>
   simp at hq hb
   subst hq
   subst hb
   intro i a ha hbit x hx hn
   have hmem:x∈Bv n0 m'.rd (Bv n0 m'.wr []):=ES (hx.elim (fun e=> .inl ⟨e,hn⟩) (fun e=> .inr (ES (.inl ⟨e,hn⟩))))
   have h1:=h.1
   generalize Bv n0 m'.rd (Bv n0 m'.wr [])=news at h1 hmem
   cases news with
   |nil=>cases hmem
   |cons y ys=>
    have h2:Dd b' (y::ys) (all.take j) 0=true:=h1
    exact QU (TG h2 i a ha (by rw[Nat.zero_add];exact hbit)) x hmem
  |succ q=>
   intro i a ha
   exact RE h.2 q m b (by simpa using hq) (by simpa using hb) i a (by rw[←ha];congr 2;omega)
theorem FZ {x:Nat}: ∀{l:List Nat} {m:Nat},(x∈l∨m.testBit x=true)→(BR l m).testBit x=true
 |[],m,h=>h.elim (fun h=>by cases h) id
 |a::l,m,h=>by
  show(fN (Nat.lor m (Nat.shiftLeft (nat_lit 1) a)) (BR l)).testBit x=true
  rw[A1]
  have e:Nat.lor m (Nat.shiftLeft (nat_lit 1) a)=m|||2^a:=by
   show m|||(1<<<a)=_
   rw[Nat.one_shiftLeft]
  rw[e]
  refine FZ ?_
  rw[Nat.testBit_or,LT]
  rcases h with h|h
  ·rcases List.mem_cons.1 h with rfl|h
   ·right;simp
   ·exact .inl h
  ·right;simp[h]
theorem Kx (m:OpLog):BA m=(BR m.rd 0,BR m.wr 0):=by
 obtain⟨lo,hi,rd,wr⟩:=m
 show fN (BR rd 0) (fun r=>fN (BR wr 0) fun w=>(r,w))=_
 rw[A1,A1]
theorem NT: ∀(l:List OpLog),IJ l=l.map BA
 |[]=>rfl
 |m::l=>by
  have h: ∀p:Nat×Nat,Prod.rec (motive:=fun _=>List (Nat×Nat)) (fun r w=>(r,w)::IJ l) p=p::l.map BA:=by
   intro p
   rw[NT l]
  exact h (BA m)
theorem SR {a b x:Nat}(h:Nat.beq (Nat.land a b) (nat_lit 0)=true)(h1:a.testBit x=true)(h2:b.testBit x=true):False:=by
 have e:a&&&b=0:=Nat.eq_of_beq_eq_true h
 have:=congrArg (fun n=>n.testBit x) e
 simp only[Nat.testBit_and,h1,h2,Nat.zero_testBit]at this
 cases this
theorem Hs_ {a m:OpLog}(h:Dl (BA a) (BA m)=true)(x:Nat): ¬(x∈a.wr∧(x∈m.rd∨x∈m.wr))∧ ¬(x∈m.wr∧x∈a.rd):=by
 unfold Dl at h
 rw[Bool.and_eq_true,Kx,Kx]at h
 refine⟨fun⟨h1,h2⟩=>SR h.1 (FZ (.inl h1)) ?_,fun⟨h1,h2⟩=>SR h.2 (FZ (.inl h1)) (FZ (.inl h2))⟩
 show(BR m.rd 0|||BR m.wr 0).testBit x=true
 rw[Nat.testBit_or]
 rcases h2 with h2|h2
 ·rw[FZ (.inl h2)];rfl
 ·rw[FZ (m:=0) (l:=m.wr) (.inl h2),Bool.or_true]
theorem Rv {bj:Nat}{m:Nat×Nat}: ∀{acc:List (Nat×Nat)} {i:Nat},Ei bj m acc i=true→ ∀q a,acc[q]?=some a→bj.testBit (i+q)=false→Dl a m=true
 |[],i,_,q,a,hq,_=>by simp at hq
 |m'::acc,i,h,q,a,hq,hb=>by
  replace h:((bj.testBit i||Dl m' m)&&Ei bj m acc (Nat.succ i))=true:=h
  rw[Bool.and_eq_true,Bool.or_eq_true]at h
  cases q with
  |zero=>
   simp at hq
   subst hq
   rw[Nat.add_zero]at hb
   rcases h.1 with h1|h1
   ·rw[hb]at h1;cases h1
   ·exact h1
  |succ q=>exact Rv h.2 q a (by simpa using hq) (by rw[←hb];congr 1;omega)
theorem VS {all:List (Nat×Nat)}: ∀{l:List (Nat×Nat)} {bef:List Nat} {j:Nat},Ha all l bef j=true→ ∀q m b,l[q]?=some m→bef[q]?=some b→
  ∀i a,(all.take (j+q))[i]?=some a→b.testBit i=false→Dl a m=true
 |[],bef,j,_,q,m,b,hq,_=>by simp at hq
 |m'::l,[],j,_,q,m,b,_,hb=>by simp at hb
 |m'::l,b'::bef,j,h,q,m,b,hq,hb=>by
  replace h:(Ei b' m' (all.take j) 0&&Ha all l bef (Nat.succ j))=true:=h
  rw[Bool.and_eq_true]at h
  cases q with
  |zero=>
   simp at hq hb
   subst hq
   subst hb
   intro i a ha hbit
   exact Rv h.1 i a ha (by rw[Nat.zero_add];exact hbit)
  |succ q=>
   intro i a ha
   exact VS h.2 q m b (by simpa using hq) (by simpa using hb) i a (by rw[←ha];congr 2;omega)
theorem JP_ {n0:Nat}{l:List OpLog}{bef:List Nat}(h:B2 n0 l bef=true){i j:Nat}{a m:OpLog}{b:Nat}(hij:i<j)(ha:l[i]?=some a)(hm:l[j]?=some m)(hb:bef[j]?=some b)(hbit:b.testBit i=false):
  (∀x,(x∈m.rd∨x∈m.wr)→n0≤x→ ¬(a.lo≤x∧x<a.hi))∧(∀x,¬(x∈a.wr∧(x∈m.rd∨x∈m.wr))∧ ¬(x∈m.wr∧x∈a.rd)):=by
 unfold B2 at h
 rw[Bool.and_eq_true,Bool.or_eq_true]at h
 have hat:(l.take (0+j))[i]?=some a:=by rw[Nat.zero_add,List.getElem?_take,if_pos hij];exact ha
 refine⟨RE h.1 j m b hm hb i a hat hbit, ?_⟩
 rcases h.2 with h2|h2
 ·have q: ∀{g:OpLog} {k:Nat},l[k]?=some g→g.wr=[]:=by
   intro g k hk
   have:=List.all_eq_true.1 h2 g (List.mem_of_getElem? hk)
   simpa using this
  intro x
  rw[q ha,q hm]
  exact⟨fun e=>(by cases e.1),fun e=>(by cases e.1)⟩
 ·rw[NT]at h2
  refine Hs_ (VS h2 j (BA m) b (by rw[List.getElem?_map,hm];rfl) hb i (BA a) ?_ hbit)
  rw[←List.map_take,List.getElem?_map,hat]
  rfl
theorem Va: ∀{ops:List Oper} {j:Nat},NC ops j=true→ ∀q o,ops[q]?=some o→ ∀e∈o.after,Region.binds .any e=true→e.on<j+q
 |[],j,_,q,o,hq=>by simp at hq
 |p::ops,j,h,q,o,hq=>by
  replace h:((p.after.toList.all fun e=> !Region.binds .any e||Nat.blt e.on j)&&NC ops (Nat.succ j))=true:=h
  rw[Bool.and_eq_true]at h
  cases q with
  |zero=>
   simp at hq
   subst hq
   intro e he hb
   have:=List.all_eq_true.1 h.1 e (by simpa using he)
   rw[hb]at this
   exact Bt (by simpa using this)
  |succ q=>
   intro e he hb
   have:=Va h.2 q o (by simpa using hq) e he hb
   omega
theorem QV {bef:List Nat}{j:Nat}{looks:List Nat}: ∀{l:List Oper} {i:Nat},He bef j looks l i=true→ ∀q o d,l[q]?=some o→o.dst=some d→d∈looks→i+q≠j→ ∃b,bef[max (i+q) j]?=some b∧b.testBit (min (i+q) j)=true
 |[],i,_,q,o,d,hq,_,_,_=>by simp at hq
 |p::l,i,h,q,o,d,hq,hd,hl,hn=>by
  replace h:((match p.dst with
   |some d=>Nat.beq i j|| !(looks.any fun t=>Nat.beq t d)||(match bef[Nat.max i j]? with|some b=>b.testBit (Nat.min i j)|none=>false)
   |none=>true)&&He bef j looks l (Nat.succ i))=true:=h
  rw[Bool.and_eq_true]at h
  cases q with
  |zero=>
    simp at hq
    subst hq
    rw[Nat.add_zero]at hn ⊢
    have h1:=h.1
    rw[hd]at h1
    simp only[Bool.or_eq_true]at h1
    rcases h1 with(h1|h1)|h1
    ·exact absurd (Nat.eq_of_beq_eq_true h1) hn
    ·rw[Bool.not_eq_true']at h1
     have:=List.any_eq_false.1 h1 d hl
     exact absurd (Nat.beq_refl d) this
    ·change (match bef[max i j]? with|some b=>b.testBit (min i j)|none=>false)=true at h1
     cases hb:bef[max i j]? with
     |none=>rw[hb]at h1;cases h1
     |some b=>rw[hb]at h1;exact⟨b,rfl,h1⟩
  |succ q=>
    have:=QV h.2 q o d (by simpa using hq) hd hl (by omega)
    rw[show Nat.succ i+q=i+(q+1) by omega]at this
    exact this
theorem PP {all:List Oper}{bef:List Nat}: ∀{l:List Oper} {j:Nat},N0 all bef l j=true→ ∀q o,l[q]?=some o→He bef (j+q) (C2 all o) all 0=true
 |[],j,_,q,o,hq=>by simp at hq
 |p::l,j,h,q,o,hq=>by
  replace h:(He bef j (C2 all p) all 0&&N0 all bef l (Nat.succ j))=true:=h
  rw[Bool.and_eq_true]at h
  cases q with
  |zero=>simp at hq;subst hq;exact h.1
  |succ q=>
   have:=PP h.2 q o (by simpa using hq)
   rw[show Nat.succ j+q=j+(q+1) by omega]at this
   exact this
section
variable {E:Env}{glob N:Nat}{ops:Array Oper}{call round:Ac}{cops:List COp}{x:Tra}{m:Nat}
def dsAt (ops:List Oper)(i:Nat):List Nat:=(ops.take i).foldl (fun ds o=>BH o.dst ds) []
theorem H9: ∀(l:List Oper) (pre:List Oper) (cs:List COp),BQ E glob N ops.toList l (pre.foldl (fun ds o=>BH o.dst ds) [])=some cs→cs.length=l.length∧
  ∀i o,l[i]?=some o→ ∃g f,cs[i]?=some ⟨g,o.dst,BX o.dst glob,f⟩∧Dt ops.toList (dsAt (pre++l) (pre.length+i)) o.guard=some g∧newD o.dst N (dsAt (pre++l) (pre.length+i))=true∧CY E (dsAt (pre++l) (pre.length+i)) o.op= .mk f
 |[],pre,cs,h=>by cases h;exact⟨rfl,fun i o hi=>by simp at hi⟩
 |o::l,pre,cs,h=>by
  obtain⟨g,f,r,rfl,h1,h2,h3,h4⟩:=Ii h
  have hp:(pre++[o]).foldl (fun ds o=>BH o.dst ds) []=BH o.dst (pre.foldl (fun ds o=>BH o.dst ds) []):=by rw[List.foldl_append];rfl
  obtain⟨k1,k2⟩:=H9 l (pre++[o]) r (by rw[hp];exact h4)
  refine⟨by simp[k1],fun i x hi=> ?_⟩
  cases i with
  |zero=>
   simp at hi
   subst hi
   have e:dsAt (pre++o::l) (pre.length+0)=pre.foldl (fun ds o=>BH o.dst ds) []:=by unfold dsAt;simp
   rw[e]
   exact⟨g,f,rfl,h1,h2,h3⟩
  |succ i=>
   obtain⟨g',f',q1,q2,q3,q4⟩:=k2 i x (by simpa using hi)
   have e:dsAt (pre++[o]++l) ((pre++[o]).length+i)=dsAt (pre++o::l) (pre.length+(i+1)):=by
    rw[List.append_assoc]
    simp only[List.length_append,List.length_cons,List.length_nil,List.singleton_append]
    congr 1
    omega
   rw[e]at q2 q3 q4
   exact⟨g',f',by simpa using q1,q2,q3,q4⟩
theorem Y0 {l:List Oper}{i:Nat}{o:Oper}(h:l[i]?=some o):dsAt l (i+1)=BH o.dst (dsAt l i):=by
 unfold dsAt
 rw[List.take_succ_eq_append_getElem (List.getElem?_eq_some_iff.1 h).1,List.foldl_append,(List.getElem?_eq_some_iff.1 h).2]
 rfl
structure Pre (E:Env)(glob N:Nat)(ops:Array Oper)(call round:Ac)(cops:List COp)(x:Tra)(m:Nat):Prop where
 comp: ∀i o,ops[i]?=some o→ ∃g f,cops[i]?=some ⟨g,o.dst,BX o.dst glob,f⟩∧Dt ops.toList (dsAt ops.toList i) o.guard=some g∧newD o.dst N (dsAt ops.toList i)=true∧CY E (dsAt ops.toList i) o.op= .mk f
 len:m≤ops.size
 few:ops.size≤m+1
 last: ∀j,m≤j→j<ops.size→ ∀i,i<m→Bf ops j i
 tra:TraOK call round (cops.take m) x
 rh0:x.Rh 0=[]
 draw:D7 ops.toList (Region.before ops).toList=true
 apart:B2 (x.Nx 0) ((List.range m).map x.log) (Region.before ops).toList=true
variable (H:Pre E glob N ops call round cops x m)
include H
theorem Pre.op {i:Nat}(hi:i<m): ∃o g f,ops[i]?=some o∧Dt ops.toList (dsAt ops.toList i) o.guard=some g∧newD o.dst N (dsAt ops.toList i)=true∧CY E (dsAt ops.toList i) o.op= .mk f∧
  TrAt (BF g (x.Rh i) (f call round (x.Rh i) (x.Tm i))) (x.Mm i) (x.Nx i) (x.V i) (x.Mm (i+1)) (x.Nx (i+1)) (x.Rd i) (x.Wr i) (x.lr i) (x.lw i)∧
  x.Rh (i+1)=Ck o.dst (x.V i) (x.Rh i)∧x.Tm (i+1)=Cs o.dst (BX o.dst glob) (x.V i) (x.Tm i):=by
 have hi':i<ops.size:=Nat.lt_of_lt_of_le hi H.len
 obtain⟨g,f,h1,h2,h3,h4⟩:=H.comp i ops[i] (Array.getElem?_eq_getElem hi')
 obtain⟨k1,k2,k3⟩:=H.tra.at' i _ (by rw[List.getElem?_take,if_pos hi];exact h1)
 exact⟨ops[i],g,f,Array.getElem?_eq_getElem hi',h2,h3,h4,k1,k2,k3⟩
theorem Pre.nx1 {i:Nat}(hi:i<m):x.Nx i≤x.Nx (i+1):=let ⟨_,_,_,_,_,_,_,k,_⟩:=H.op hi;k.run.nxt
theorem Pre.nx {i:Nat}: ∀{j:Nat},i≤j→j≤m→x.Nx i≤x.Nx j
 |0,h,_=>by rw[Nat.le_zero.1 h];exact Nat.le_refl _
 |j+1,h,hj=>by
  rcases Nat.lt_or_ge j i with h1|h1
  ·rw[show i=j+1 by omega];exact Nat.le_refl _
  ·exact Nat.le_trans (Pre.nx (j:=j) h1 (by omega)) (H.nx1 (by omega))
theorem Pre.old {i:Nat}(hi:i<m){l:Nat}(h: ¬x.Wr i l):T.get (x.Mm (i+1)) l=T.get (x.Mm i) l:=let ⟨_,_,_,_,_,_,_,k,_⟩:=H.op hi;k.run.old l h
theorem Pre.sep {i j:Nat}(hij:i<j)(hj:j<m)(hb: ¬Bf ops j i):(∀l,¬(x.Wr i l∧(x.Rd j l∨x.Wr j l)))∧(∀l,¬(x.Wr j l∧x.Rd i l)):=by
 obtain⟨_,_,_,_,_,_,_,ki,_⟩:=H.op (i:=i) (by omega)
 obtain⟨_,_,_,_,_,_,_,kj,_⟩:=H.op hj
 have hbl:((Region.before ops).toList).length=ops.size:=Ln_ ops
 have hb0:(Region.before ops).toList[j]?=some ((Region.before ops).toList[j]'(by rw[hbl];exact Nat.lt_of_lt_of_le hj H.len)):=List.getElem?_eq_getElem _
 have hbit:((Region.before ops).toList[j]'(by rw[hbl];exact Nat.lt_of_lt_of_le hj H.len)).testBit i=false:=by
  cases h:((Region.before ops).toList[j]'(by rw[hbl];exact Nat.lt_of_lt_of_le hj H.len)).testBit i with
  |false=>rfl
  |true=>exact absurd ⟨_,by rw[←Array.getElem?_toList];exact hb0,h⟩ hb
 have hli:((List.range m).map x.log)[i]?=some (x.log i):=by rw[List.getElem?_map,List.getElem?_range (by omega)];rfl
 have hlj:((List.range m).map x.log)[j]?=some (x.log j):=by rw[List.getElem?_map,List.getElem?_range (by omega)];rfl
 obtain⟨s1,s2⟩:=JP_ H.apart hij hli hlj hb0 hbit
 have n1:x.Nx (i+1)≤x.Nx j:=H.nx (by omega) (by omega)
 have n0:x.Nx 0≤x.Nx i:=H.nx (by omega) (by omega)
 constructor
 ·intro l ⟨h1,h2⟩
  have hl:l<x.Nx (i+1):=ki.run.wlt l h1
  have hlog:l∈x.lr j∨l∈x.lw j:=h2.elim (fun e=> .inl (kj.ird l e (by omega))) (fun e=> .inr (kj.iwr l e (by omega)))
  rcases Nat.lt_or_ge l (x.Nx i)with h3|h3
  ·exact(s2 l).1 ⟨ki.iwr l h1 h3,hlog⟩
  ·exact s1 l hlog (by omega) ⟨h3,hl⟩
 ·intro l ⟨h1,h2⟩
  have hl:l<x.Nx (i+1):=ki.run.rlt l h2
  have hlog:l∈x.lw j:=kj.iwr l h1 (by omega)
  rcases Nat.lt_or_ge l (x.Nx i)with h3|h3
  ·exact(s2 l).2 ⟨hlog,ki.ird l h2 h3⟩
  ·exact s1 l (.inr hlog) (by omega) ⟨h3,hl⟩
theorem Pre.edge {j:Nat}{o:Oper}(ho:ops[j]?=some o){e:Edge}(he:e∈o.after)(hb:Region.binds .any e=true):e.on<j:=by
 have h:=H.draw
 unfold D7 at h
 rw[Bool.and_eq_true,Bool.and_eq_true]at h
 have:=Va h.1.2 j o (by rw[Array.getElem?_toList];exact ho) e he hb
 omega
theorem Pre.looks {j i:Nat}{o p:Oper}{d:Nat}(ho:ops[j]?=some o)(hp:ops[i]?=some p)(hd:p.dst=some d)(hl:d∈C2 ops.toList o)(hne:i≠j):Bf ops (max i j) (min i j):=by
 have h:=H.draw
 unfold D7 at h
 rw[Bool.and_eq_true,Bool.and_eq_true]at h
 have h1:=PP h.2 j o (by rw[Array.getElem?_toList];exact ho)
 rw[Nat.zero_add]at h1
 obtain⟨b,q1,q2⟩:=QV h1 i p d (by rw[Array.getElem?_toList];exact hp) hd hl (by rw[Nat.zero_add];exact hne)
 rw[Nat.zero_add]at q1 q2
 exact⟨b,by rw[←Array.getElem?_toList];exact q1,q2⟩
theorem Pre.ds {j:Nat}(hj:j≤m):(x.Rh j).length=(dsAt ops.toList j).length∧
  (∀(p d:Nat),(dsAt ops.toList j)[p]?=some d→ ∃(q:Nat) (o:Oper),q<j∧ops[q]?=some o∧o.dst=some d∧(x.Rh j:List Value)[p]?=some (x.V q))∧(∀(q:Nat) o d,q<j→ops[q]?=some o→o.dst=some d→d∈dsAt ops.toList j):=by
 induction j with
 |zero=>exact⟨by rw[H.rh0];rfl,fun p d h=>by simp[dsAt]at h,fun q o d h=>absurd h (Nat.not_lt_zero _)⟩
 |succ j ih=>
  obtain⟨i1,i2,i3⟩:=ih (by omega)
  obtain⟨o,g,f,ho,_,_,_,_,k2,_⟩:=H.op (i:=j) (by omega)
  rw[Y0 (o:=o) (by rw[Array.getElem?_toList];exact ho),k2]
  cases hd:o.dst with
  |none=>
   refine⟨i1,fun p d h=> ?_,fun q o' d hq ho' hd'=> ?_⟩
   ·obtain⟨q,o',a,b⟩:=i2 p d h
    exact⟨q,o',by omega,b⟩
   ·rcases Nat.lt_or_ge q j with h|h
    ·exact i3 q o' d h ho' hd'
    ·rw[show q=j by omega,ho]at ho'
     cases ho'
     rw[hd]at hd'
     cases hd'
  |some d0=>
   refine⟨by simp[Ck,BH,i1],fun p d h=> ?_,fun q o' d hq ho' hd'=> ?_⟩
   ·replace h:(d0::dsAt ops.toList j)[p]?=some d:=h
    cases p with
    |zero=>
     simp at h
     subst h
     exact⟨j,o,by omega,ho,hd,rfl⟩
    |succ p=>
     obtain⟨q,o',a,b1,b2,b3⟩:=i2 p d (by simpa using h)
     exact⟨q,o',by omega,b1,b2,by show(x.V j::x.Rh j)[p+1]?=_;simpa using b3⟩
   ·rcases Nat.lt_or_ge q j with h|h
    ·exact List.mem_cons_of_mem _ (i3 q o' d h ho' hd')
    ·rw[show q=j by omega,ho]at ho'
     cases ho'
     rw[hd]at hd'
     cases hd'
     exact List.mem_cons_self
theorem Pre.dst_ne {q j:Nat}{o p:Oper}{d e:Nat}(hq:q<j)(ho:ops[q]?=some o)(hp:ops[j]?=some p)(hd:o.dst=some d)(he:p.dst=some e):d≠e:=by
 have hj:j<ops.size:=(Array.getElem?_eq_some_iff.1 hp).1
 obtain⟨g,f,_,_,h3,_⟩:=H.comp j p hp
 rw[he]at h3
 intro hx
 subst hx
 exact(JP h3).2 ((H.ds (j:=j) (by have:=H.few;omega)).2.2 q o d hq ho hd)
theorem Pre.dst_inj {q j:Nat}{o p:Oper}{d:Nat}(ho:ops[q]?=some o)(hp:ops[j]?=some p)(hd:o.dst=some d)(he:p.dst=some d):q=j:=by
 rcases Nat.lt_trichotomy q j with h|h|h
 ·exact absurd rfl (H.dst_ne h ho hp hd he)
 ·exact h
 ·exact absurd rfl (H.dst_ne h hp ho he hd)
theorem Pre.dst_lt {j:Nat}{p:Oper}{d:Nat}(hp:ops[j]?=some p)(hd:p.dst=some d):d<N:=by
 obtain⟨g,f,_,_,h3,_⟩:=H.comp j p hp
 rw[hd]at h3
 exact(JP h3).1
theorem Pre.tm {j:Nat}(hj:j≤m){y:Nat}{v:Value}(h:T.get (x.Tm j) y=some v):
  (∃q o,q<j∧ops[q]?=some o∧o.dst=some y∧Nat.testBit glob y=true∧v=x.V q)∨(T.get (x.Tm 0) y=some v∧ ∀q o,q<j→ops[q]?=some o→o.dst=some y→Nat.testBit glob y=false):=by
 induction j with
 |zero=>exact .inr ⟨h,fun q o h=>absurd h (Nat.not_lt_zero _)⟩
 |succ j ih=>
  obtain⟨o,g,f,ho,_,_,_,_,_,k3⟩:=H.op (i:=j) (by omega)
  rw[k3]at h
  have rest:T.get (x.Tm j) y=some v→(o.dst=some y→Nat.testBit glob y=false)→(∃q o,q<j+1∧ops[q]?=some o∧o.dst=some y∧Nat.testBit glob y=true∧v=x.V q)∨(T.get (x.Tm 0) y=some v∧ ∀q o,q<j+1→ops[q]?=some o→o.dst=some y→Nat.testBit glob y=false):=by
   intro h1 h2
   rcases ih (by omega) h1 with⟨q,o',a,b⟩|⟨a,b⟩
   ·exact .inl ⟨q,o',by omega,b⟩
   ·refine .inr ⟨a,fun q o' hq ho' hd'=> ?_⟩
    rcases Nat.lt_or_ge q j with h|h
    ·exact b q o' h ho' hd'
    ·rw[show q=j by omega,ho]at ho'
     cases ho'
     exact h2 hd'
  cases hd:o.dst with
  |none=>
   rw[hd]at h rest
   exact rest h (fun e=>by cases e)
  |some d=>
   rw[hd]at h rest
   unfold Cs at h
   cases hk:BX (some d) glob with
   |false=>
    rw[hk]at h
    exact rest h (fun e=>by cases e;exact hk)
   |true=>
    rw[hk]at h
    simp only[T.get_set]at h
    split at h
    ·rename_i hy
     cases h
     subst hy
     exact .inl ⟨j,o,by omega,ho,hd,hk,rfl⟩
    ·rename_i hy
     exact rest h (fun e=>by cases e;exact absurd rfl hy)
end
open Classical in
def memD (x:Tra)(D:Nat→Bool):Nat→Nat→Option Cell
 |0,l=>T.get (x.Mm 0) l
 |k+1,l=>if D k=true∧x.Wr k l then T.get (x.Mm (k+1)) l else memD x D k l
theorem Fu {x:Tra}{D:Nat→Bool}{k l:Nat}(h:D k=true)(h':x.Wr k l):memD x D (k+1) l=T.get (x.Mm (k+1)) l:=if_pos ⟨h,h'⟩
theorem C9 {x:Tra}{D:Nat→Bool}{k l:Nat}(h: ¬(D k=true∧x.Wr k l)):memD x D (k+1) l=memD x D k l:=if_neg h
section
variable {E:Env}{glob N:Nat}{ops:Array Oper}{call round:Ac}{cops:List COp}{x:Tra}{m:Nat}(H:Pre E glob N ops call round cops x m)
include H
theorem LP {D:Nat→Bool}{l:Nat}: ∀{j:Nat},j≤m→(∀i,i<j→x.Wr i l→D i=true)→memD x D j l=T.get (x.Mm j) l
 |0,_,_=>rfl
 |j+1,hj,h=>by
  by_cases hw:x.Wr j l
  ·exact Fu (h j (by omega) hw) hw
  ·rw[C9 (fun e=>hw e.2),H.old (by omega) hw]
   exact LP (by omega) fun i hi=>h i (by omega)
omit H in
theorem Lz {D:Nat→Bool}{l j:Nat}: ∀{m:Nat},j≤m→(∀i,j≤i→i<m→D i=true→ ¬x.Wr i l)→memD x D m l=memD x D j l
 |0,hm,_=>by rw[Nat.le_zero.1 hm]
 |m+1,hm,h=>by
  rcases Nat.lt_or_ge m j with h1|h1
  ·rw[show j=m+1 by omega]
  ·rw[C9 (fun e=>h m h1 (by omega) e.1 e.2)]
   exact Lz h1 fun i a b=>h i a (by omega)
omit H in
theorem VP {D D':Nat→Bool}{j l:Nat}(hD:D j=false)(hD':D' j=true)(hne: ∀i,i≠j→D' i=D i): ∀{m:Nat},j<m→(∀i,j<i→i<m→D i=true→ ¬(x.Wr i l∧x.Wr j l))→
  (x.Wr j l→memD x D' m l=T.get (x.Mm (j+1)) l)∧(¬x.Wr j l→memD x D' m l=memD x D m l)
 |0,hm,_=>absurd hm (Nat.not_lt_zero _)
 |m+1,hm,h=>by
  have low: ∀{k:Nat},k≤j→memD x D' k l=memD x D k l:=by
   intro k
   induction k with
   |zero=>exact fun _=>rfl
   |succ k ih=>
    intro hk
    have hk':D' k=D k:=hne k (by omega)
    by_cases hw:D k=true∧x.Wr k l
    ·rw[Fu hw.1 hw.2,Fu (by rw[hk'];exact hw.1) hw.2]
    ·rw[C9 hw,C9 (by rw[hk'];exact hw),ih (by omega)]
  by_cases e:m=j
  ·subst e
   constructor
   ·intro hw;exact Fu hD' hw
   ·intro hw
    rw[C9 (fun e=>hw e.2),C9 (fun e=>hw e.2),low (Nat.le_refl _)]
  ·obtain⟨i1,i2⟩:=VP hD hD' hne (m:=m) (by omega) fun i a b=>h i a (by omega)
   have hm':D' m=D m:=hne m e
   constructor
   ·intro hw
    rw[C9 (fun q=>h m (by omega) (by omega) (by rw[←hm'];exact q.1) ⟨q.2,hw⟩)]
    exact i1 hw
   ·intro hw
    by_cases q:D m=true∧x.Wr m l
    ·rw[Fu q.1 q.2,Fu (by rw[hm'];exact q.1) q.2]
    ·rw[C9 q,C9 (by rw[hm'];exact q)]
     exact i2 hw
end
section
variable {E:Env}{glob N:Nat}{ops:Array Oper}{call round:Ac}{cops:List COp}{x:Tra}{m:Nat}
structure Inv (ops:Array Oper)(x:Tra)(m N:Nat)(w0:World)(r0:Inj)(t0:Array Value)(L:Array Bool)(mt:T Cell)(t:Array Value)(w:World)(r:Inj):Prop where
 size:L.size=ops.size
 rel:Rel w0 r mt w
 off: ∀j,m≤j→j<ops.size→L.getD j true=false
 mem: ∀l,T.get mt l=memD x (fun i=>L.getD i true) m l
 dom: ∀b,x.Nx 0≤b→b<x.Nx m→(r.blk b≠none∨r.ext b≠none)→ ∃i,i<m∧L.getD i true=true∧x.Nx i≤b∧b<x.Nx (i+1)
 slot: ∀(i:Nat) (o:Oper) (d:Nat),ops[i]?=some o→L.getD i true=true→o.dst=some d→ ∃v',t[d]?=some v'∧VR r (x.V i) v'
 keep: ∀(d:Nat),(∀(i:Nat) (o:Oper),ops[i]?=some o→L.getD i true=true→o.dst≠some d)→t[d]?=t0[d]?
 tsz:t.size=N
 le:r0.le r
 domB: ∀b,r.blk b≠none→r0.blk b≠none∨(x.Nx 0≤b∧b<x.Nx m)
 domE: ∀b,r.ext b≠none→r0.ext b≠none∨(x.Nx 0≤b∧b<x.Nx m)
 clo: ∀j,j<m→L.getD j true=true→ ∀i,Bf ops j i→L.getD i true=true
theorem Q8 {L:Array Bool}{j:Nat}(hj:j<L.size):(L.setIfInBounds j true).getD j true=true∧ ∀i,i≠j→(L.setIfInBounds j true).getD i true=L.getD i true:=by
 constructor
 ·simp[Array.getD_eq_getD_getElem?,hj]
 ·intro i hi
  simp only[Array.getD_eq_getD_getElem?]
  rw[Array.getElem?_setIfInBounds_ne (fun e=>hi e.symm)]
theorem HU {L:Array Bool}(_hs:L.size=ops.size){j:Nat}(h:j∈Region.ready .any ops L):j<ops.size∧L.getD j true=false∧ ∀o,ops[j]?=some o→ ∀e∈o.after,Region.binds .any e=true→L.getD e.on false=true:=by
 unfold Region.ready at h
 rw[List.mem_filter,List.mem_range,Bool.and_eq_true,Bool.not_eq_true']at h
 obtain⟨h1,h2,h3⟩:=h
 refine⟨h1,h2,fun o ho e he hb=> ?_⟩
 rw[ho]at h3
 have h4:o.after.all (fun e=> !Region.binds .any e||L.getD e.on false)=true:=by simpa using h3
 have:=Array.all_eq_true_iff_forall_mem.1 h4 e he
 rw[hb]at this
 simpa using this
theorem Uj {L:Array Bool}{i:Nat}(h:L.getD i false=true):L.getD i true=true:=by
 rw[Array.getD_eq_getD_getElem?]at h ⊢
 cases e:L[i]? with
 |none=>rw[e]at h;cases h
 |some b=>rw[e]at h;exact h
theorem BV_ {L:Array Bool}{i:Nat}(hi:i<L.size)(h:L.getD i true=true):L.getD i false=true:=by
 rw[Array.getD_eq_getD_getElem?]at h ⊢
 rw[Array.getElem?_eq_getElem hi]at h ⊢
 exact h
variable (H:Pre E glob N ops call round cops x m)
include H
theorem Inv.before {w0 w:World}{r0 r:Inj}{t0 t:Array Value}{L:Array Bool}{mt:T Cell}(I:Inv ops x m N w0 r0 t0 L mt t w r){j:Nat}(hjn:j<ops.size)
  (hready: ∀o,ops[j]?=some o→ ∀e∈o.after,Region.binds .any e=true→L.getD e.on false=true): ∀i,Bf ops j i→L.getD i true=true:=by
 intro i hb
 obtain⟨o',e,q1,q2,q3,q4⟩:=If_ hb
 have he':=hready o' q1 e q2 q3
 rcases q4 with q4|q4
 ·rw[q4];exact Uj he'
 ·have h1:=H.edge q1 q2 q3
  exact I.clo e.on (by have:=H.few;omega) (Uj he') i q4
theorem Inv.small {w0 w:World}{r0 r:Inj}{t0 t:Array Value}{L:Array Bool}{mt:T Cell}(I:Inv ops x m N w0 r0 t0 L mt t w r){j:Nat}(hj:j∈Region.ready .any ops L)(hc:0<cnt (fun i=> !L.getD i true) m):j<m:=by
 obtain⟨hjn,hjL,hready⟩:=HU I.size hj
 rcases Nat.lt_or_ge j m with h|h
 ·exact h
 ·obtain⟨i,h1,h2,_⟩:=NB hc
  rw[I.before H hjn hready i (H.last j h hjn i h1)]at h2
  cases h2
theorem Inv.step (he:EnvTy E)(c1:CallOK E call)(c2:RoundOK E round){w0 w:World}{r0 r:Inj}{t0 t:Array Value}{L:Array Bool}{mt:T Cell}(hT0:TmR r0 glob (x.Tm 0) t0)
  (I:Inv ops x m N w0 r0 t0 L mt t w r) {j:Nat} (hj:j∈Region.ready .any ops L) (hjn:j<m) (b:Frame) (dfs:List Deferred) (cs:List Frame) (k:List Item) (rest:List Nat):
  ∃mt' t' w' r',Inv ops x m N w0 r0 t0 (L.setIfInBounds j true) mt' t' w' r'∧Steps E.P (lone (frm b t dfs (.inRegion ops (j::rest)::k)) cs w) (lone (frm b t' dfs (.inRegion ops rest::k)) cs w'):=by
 obtain⟨hjn0,hjL,hready⟩:=HU I.size hj
 obtain⟨o,g,f,ho,hg,hnew,hcomp,tr,hrh,htm⟩:=H.op hjn
 have hms:m≤ops.size:=H.len
 have before: ∀i,Bf ops j i→L.getD i true=true:=I.before H hjn0 hready
 have notj: ∀i,i<m→L.getD i true=true→ ¬Bf ops i j:=by
  intro i hi hL hb
  have:=I.clo i hi hL j hb
  rw[hjL]at this
  cases this
 have lateSep: ∀i,j<i→i<m→L.getD i true=true→(∀l,¬(x.Wr j l∧(x.Rd i l∨x.Wr i l)))∧(∀l,¬(x.Wr i l∧x.Rd j l)):=fun i h1 h2 h3=>H.sep h1 h2 (notj i h2 h3)
 have agree: ∀l,x.Rd j l∨x.Wr j l→T.get mt l=T.get (x.Mm j) l:=by
  intro l hl
  rw[I.mem l,Lz (j:=j) (by omega)]
  ·refine LP H (by omega) fun i hi hw=> ?_
   by_cases hb:Bf ops j i
   ·exact before i hb
   ·exact absurd ⟨hw,hl⟩ ((H.sep hi hjn hb).1 l)
  ·intro i h1 h2 h3 h4
   rcases Nat.lt_or_ge j i with h5|h5
   ·obtain⟨s1,s2⟩:=lateSep i h5 h2 h3
    rcases hl with hl|hl
    ·exact s2 l ⟨h4,hl⟩
    ·exact s1 l ⟨hl, .inr h4⟩
   ·rw[show i=j by omega,hjL]at h3
    cases h3
 obtain⟨t',q1,q2,q3,q4,q5,q6,q7,q8⟩:=tr.run.any ⟨mt,x.Nx j,x.Nx j,[],[], .no⟩ rfl rfl rfl agree
 obtain⟨hloc,hop⟩:=Hq (ops:=ops) (keep:=BX o.dst glob) he ho hg hcomp
 obtain⟨d1,d2,d3⟩:=H.ds (Nat.le_of_lt hjn)
 have slots:SlR r (fun y=>y∈C2 ops.toList o) (dsAt ops.toList j) (x.Rh j) (x.Tm j) t:=by
  constructor
  ·intro p d v hu e1 e2
   obtain⟨q,oq,a1,a2,a3,a4⟩:=d2 p d e1
   rw[a4]at e2
   cases e2
   have hb:=H.looks ho a2 a3 hu (by omega)
   rw[Nat.max_eq_right (by omega),Nat.min_eq_left (by omega)]at hb
   exact I.slot q oq d a2 (before q hb) a3
  ·intro y v hu e1
   rcases H.tm (Nat.le_of_lt hjn) e1 with⟨q,oq,a1,a2,a3,a4,a5⟩|⟨a1,a2⟩
   ·have hb:=H.looks ho a2 a3 hu (by omega)
    rw[Nat.max_eq_right (by omega),Nat.min_eq_left (by omega)]at hb
    rw[a5]
    exact I.slot q oq y a2 (before q hb) a3
   ·obtain⟨p1,v',p2,p3⟩:=hT0 y v a1
    refine⟨v', ?_,p3.mono I.le⟩
    rw[I.keep y]
    ·exact p2
    ·intro i oi hoi hLi hdi
     have hi0:i<ops.size:=(Array.getElem?_eq_some_iff.1 hoi).1
     have hi:i<m:=by
      rcases Nat.lt_or_ge i m with h|h
      ·exact h
      ·rw[I.off i h hi0]at hLi;cases hLi
     rcases Nat.lt_trichotomy i j with h|h|h
     ·rw[a2 i oi h hoi hdi]at p1;cases p1
     ·rw[h,hjL]at hLi;cases hLi
     ·have hb:=H.looks ho hoi hdi hu (by omega)
      rw[Nat.max_eq_left (by omega),Nat.min_eq_right (by omega)]at hb
      exact notj i hi hLi hb
 have fresh:A8 r (x.Nx j) (x.Nx (j+1)):=by
  intro b h1 h2
  have lo:x.Nx 0≤b:=Nat.le_trans (H.nx (Nat.zero_le _) (Nat.le_of_lt hjn)) h1
  have hi:b<x.Nx m:=Nat.lt_of_lt_of_le h2 (H.nx hjn (Nat.le_refl _))
  have no: ¬(r.blk b≠none∨r.ext b≠none):=by
   intro hn
   obtain⟨i,a1,a2,a3,a4⟩:=I.dom b lo hi hn
   rcases Nat.lt_trichotomy i j with h|h|h
   ·have:=H.nx (i:=i+1) (j:=j) h (Nat.le_of_lt hjn);omega
   ·rw[h,hjL]at a2;cases a2
   ·have:=H.nx (i:=j+1) (j:=i) h (Nat.le_of_lt a1);omega
  exact⟨Classical.byContradiction fun h=>no (.inl h),Classical.byContradiction fun h=>no (.inr h)⟩
 simp only at q2 q3 q4
 obtain⟨w',r',dfs',cs',k1,k2,k3,v',k4,k5⟩:=hop call round c1 c2 w0 w r _ (x.Rh j) (x.Tm j) b t dfs cs (dfs,cs) ⟨mt,x.Nx j,x.Nx j,[],[], .no⟩ (.inl (x.V j)) t' slots (fun _ h=>h) d1 I.rel ⟨rfl,rfl⟩ (Nat.le_refl _)
  (by rw[q2];exact fresh) q1 rest k
 rw[q4]at k2
 obtain⟨rfl,rfl⟩:=k2
 obtain⟨g1,g2⟩:=Q8 (L:=L) (j:=j) (by rw[I.size];exact hjn0)
 refine⟨t'.mem,putT t o.dst v',w',r',⟨by simp[I.size],k1.rel,fun q h1 h2=>by rw[g2 q (by omega)];exact I.off q h1 h2, ?_, ?_, ?_, ?_,by rw[JJ];exact I.tsz,Inj.le_trans I.le k1.le, ?_, ?_, ?_⟩,k5⟩
 ·intro l
  obtain⟨a1,a2⟩:=VP (x:=x) (D:=fun i=>L.getD i true) (D':=fun i=>(L.setIfInBounds j true).getD i true) (l:=l) hjL g1 g2 hjn (fun i h1 h2 h3 h4=>(lateSep i h1 h2 h3).1 l ⟨h4.2, .inr h4.1⟩)
  by_cases hw:x.Wr j l
  ·rw[a1 hw];exact q7 l hw
  ·rw[a2 hw,q8 l hw];exact I.mem l
 ·intro b' h1 h2 h3
  have old:(r.blk b'≠none∨r.ext b'≠none)∨(x.Nx j≤b'∧b'<x.Nx (j+1)):=by
   rcases h3 with h3|h3
   ·rcases k1.domB b' h3 with h|h
    ·exact .inl (.inl h)
    ·rw[q2]at h;exact .inr h
   ·rcases k1.domE b' h3 with h|h
    ·exact .inl (.inr h)
    ·rw[q2]at h;exact .inr h
  rcases old with h|h
  ·obtain⟨i,a1,a2,a3⟩:=I.dom b' h1 h2 h
   refine⟨i,a1, ?_,a3⟩
   by_cases e:i=j
   ·rw[e];exact g1
   ·rw[g2 i e];exact a2
  ·exact⟨j,hjn,g1,h⟩
 ·intro i oi d hoi hLi hdi
  by_cases e:i=j
  ·subst e
   rw[ho]at hoi
   cases hoi
   rw[hdi]
   exact⟨v',MX (by rw[I.tsz];exact H.dst_lt ho hdi),k4⟩
  ·rw[g2 i e]at hLi
   obtain⟨u,a1,a2⟩:=I.slot i oi d hoi hLi hdi
   refine⟨u, ?_,a2.mono k1.le⟩
   rw[EY]
   ·exact a1
   ·intro h
    exact e (H.dst_inj hoi ho hdi h)
 ·intro d hd
  rw[EY]
  ·exact I.keep d fun i oi hoi hLi=>hd i oi hoi (by
    by_cases e:i=j
    ·rw[e];exact g1
    ·rw[g2 i e];exact hLi)
  ·exact hd j o ho g1
 ·intro b' h
  rcases k1.domB b' h with h|h
  ·exact I.domB b' h
  ·rw[q2]at h
   exact .inr ⟨Nat.le_trans (H.nx (Nat.zero_le _) (Nat.le_of_lt hjn)) h.1,Nat.lt_of_lt_of_le h.2 (H.nx hjn (Nat.le_refl _))⟩
 ·intro b' h
  rcases k1.domE b' h with h|h
  ·exact I.domE b' h
  ·rw[q2]at h
   exact .inr ⟨Nat.le_trans (H.nx (Nat.zero_le _) (Nat.le_of_lt hjn)) h.1,Nat.lt_of_lt_of_le h.2 (H.nx hjn (Nat.le_refl _))⟩
 ·intro i hi hLi y hb
  by_cases e:i=j
  ·subst e
   have:=before y hb
   by_cases e':y=i
   ·rw[e'];exact g1
   ·rw[g2 y e'];exact this
  ·rw[g2 i e]at hLi
   have:=I.clo i hi hLi y hb
   by_cases e':y=j
   ·rw[e'];exact g1
   ·rw[g2 y e'];exact this
theorem QR {L:Array Bool}(hs:L.size=ops.size){i:Nat}(h1:i<ops.size)(h2:L.getD i true=false)(h3: ∀j,j<i→L.getD j true=true):i∈Region.ready .any ops L:=by
 unfold Region.ready
 rw[List.mem_filter,List.mem_range,Bool.and_eq_true]
 refine⟨h1,by rw[h2];rfl, ?_⟩
 rw[Array.getElem?_eq_getElem h1]
 simp only[Option.map_some,Option.getD_some]
 rw[Array.all_eq_true_iff_forall_mem]
 intro e he
 cases hb:Region.binds .any e with
 |false=>rfl
 |true=>
  have hlt:=H.edge (Array.getElem?_eq_getElem h1) he hb
  rw[BV_ (by rw[hs];omega) (h3 e.on hlt)]
  rfl
theorem Fr_ {L:Array Bool}(hs:L.size=ops.size)(h:0<cnt (fun i=> !L.getD i true) m):Region.ready .any ops L≠[]:=by
 obtain⟨i,h0,h2,h3⟩:=NB h
 have h1:i<ops.size:=Nat.lt_of_lt_of_le h0 H.len
 exact List.ne_nil_of_mem (QR H hs h1 (by simpa using h2) fun j hj=>by simpa using h3 j hj)
theorem Inv.run (he:EnvTy E)(c1:CallOK E call)(c2:RoundOK E round){w0:World}{r0:Inj}{t0:Array Value}(hT0:TmR r0 glob (x.Tm 0) t0)(b:Frame)(dfs:List Deferred)(cs:List Frame)(k:List Item):
  ∀(fuel tp:Nat) (L:Array Bool) (mt:T Cell) (t:Array Value) (w:World) (r:Inj),Inv ops x m N w0 r0 t0 L mt t w r→cnt (fun i=> !L.getD i true) m=fuel→
   ∃L' mt' t' w' r',Inv ops x m N w0 r0 t0 L' mt' t' w' r'∧(∀i,i<m→L'.getD i true=true)∧
    Steps E.P (lone (frm b t dfs (.inRegion ops (Region.linearise.go .any ops (fuel+(ops.size-m)) tp L [])::k)) cs w) (lone (frm b t' dfs (.inRegion ops (List.range' m (ops.size-m))::k)) cs w')
 |0,tp,L,mt,t,w,r,I,hc=>by
  have hall: ∀i,i<m→L.getD i true=true:=fun i hi=>by
   have:=NG hc i hi
   simpa using this
  refine⟨L,mt,t,w,r,I,hall, ?_⟩
  have hgo:Region.linearise.go .any ops (0+(ops.size-m)) tp L []=List.range' m (ops.size-m):=by
   have h1:=H.len
   have h2:=H.few
   rcases Nat.lt_or_ge m ops.size with h|h
   ·have e1:ops.size-m=1:=by omega
    rw[e1]
    have hmem:=QR H I.size h (I.off m (Nat.le_refl _) h) hall
    have hlen:0<(Region.ready .any ops L).length:=List.length_pos_iff.2 (List.ne_nil_of_mem hmem)
    have hi:tp%(Region.ready .any ops L).length<(Region.ready .any ops L).length:=Nat.mod_lt _ hlen
    obtain⟨j,hj⟩: ∃j,(Region.ready .any ops L)[tp%(Region.ready .any ops L).length]?=some j:=⟨_,List.getElem?_eq_getElem hi⟩
    obtain⟨p1,p2,_⟩:=HU I.size (List.mem_of_getElem? hj)
    have hjm:j=m:=by
     rcases Nat.lt_or_ge j m with q|q
     ·rw[hall j q]at p2;cases p2
     ·omega
    subst hjm
    have h0:Region.linearise.go .any ops (0+1) tp L []=match (Region.ready .any ops L)[tp%(Region.ready .any ops L).length]? with
     |some i=>Region.linearise.go .any ops 0 (tp/(Region.ready .any ops L).length) (L.setIfInBounds i true) [i]
     |none=>[].reverse:=rfl
    rw[h0,hj]
    rfl
   ·have e1:ops.size-m=0:=by omega
    rw[e1]
    rfl
  rw[hgo]
  exact .refl _ _
 |fuel+1,tp,L,mt,t,w,r,I,hc=>by
  have hne:=Fr_ H I.size (by rw[hc];omega)
  have hlen:0<(Region.ready .any ops L).length:=List.length_pos_iff.2 hne
  have hi:tp%(Region.ready .any ops L).length<(Region.ready .any ops L).length:=Nat.mod_lt _ hlen
  obtain⟨j,hj⟩: ∃j,(Region.ready .any ops L)[tp%(Region.ready .any ops L).length]?=some j:=⟨_,List.getElem?_eq_getElem hi⟩
  have hmem:j∈Region.ready .any ops L:=List.mem_of_getElem? hj
  have hgo:Region.linearise.go .any ops (fuel+1+(ops.size-m)) tp L []=j::Region.linearise.go .any ops (fuel+(ops.size-m)) (tp/(Region.ready .any ops L).length) (L.setIfInBounds j true) []:=by
   rw[Nat.add_right_comm]
   have h0:Region.linearise.go .any ops (fuel+(ops.size-m)+1) tp L []=match (Region.ready .any ops L)[tp%(Region.ready .any ops L).length]? with
    |some i=>Region.linearise.go .any ops (fuel+(ops.size-m)) (tp/(Region.ready .any ops L).length) (L.setIfInBounds i true) [i]
    |none=>[].reverse:=rfl
   rw[h0,hj]
   simp only
   rw[linearise_go_acc]
   rfl
  rw[hgo]
  obtain⟨hjn,hjL,_⟩:=HU I.size hmem
  have hjm:j<m:=I.small H hmem (by rw[hc];omega)
  obtain⟨mt1,t1,w1,r1,I1,s1⟩:=I.step H he c1 c2 hT0 hmem hjm b dfs cs k (Region.linearise.go .any ops (fuel+(ops.size-m)) (tp/(Region.ready .any ops L).length) (L.setIfInBounds j true) [])
  obtain⟨g1,g2⟩:=Q8 (L:=L) (j:=j) (by rw[I.size];exact hjn)
  have hc1:cnt (fun i=> !(L.setIfInBounds j true).getD i true) m=fuel:=by
   have:=R0 (p:=fun i=> !L.getD i true) (q:=fun i=> !(L.setIfInBounds j true).getD i true) (i:=j) (by simp[hjL]) (by simp[g1]) (fun i hi=>by simp only[g2 i hi]) hjm
   omega
  obtain⟨L',mt',t',w',r',I',hall,s2⟩:=Inv.run he c1 c2 hT0 b dfs cs k fuel _ _ mt1 t1 w1 r1 I1 hc1
  exact⟨L',mt',t',w',r',I',hall,s1.trans s2⟩
theorem Pre.draw_ok (he:EnvTy E)(c1:CallOK E call)(c2:RoundOK E round){w0 w:World}{r:Inj}{t:Array Value}(hT:TmR r glob (x.Tm 0) t)(ht:t.size=N)(hr:Rel w0 r (x.Mm 0) w)(hfr:A8 r (x.Nx 0) (x.Nx m))
  (b:Frame) (dfs:List Deferred) (cs:List Frame) (k:List Item) (tp:Nat):
  ∃t' w' r',(∀s s':St,s.next=x.Nx 0→s'.next=x.Nx m→s'.mem=x.Mm m→Goes w0 r s s' r' w')∧TmR r' glob (x.Tm m) t'∧t'.size=N∧SlR r' (fun _=>True) (dsAt ops.toList m) (x.Rh m) (x.Tm m) t'∧(∀d,d∉dstL ops.toList→t'[d]?=t[d]?)∧
   Steps E.P (lone (frm b t dfs (.inRegion ops (Region.linearise .any ops tp)::k)) cs w) (lone (frm b t' dfs (.inRegion ops (List.range' m (ops.size-m))::k)) cs w'):=by
 have hL: ∀i,i<ops.size→(Array.replicate ops.size false).getD i true=false:=fun i hi=>by
  rw[Array.getD_eq_getD_getElem?,Array.getElem?_replicate,if_pos hi];rfl
 have I0:Inv ops x m N w0 r t (Array.replicate ops.size false) (x.Mm 0) t w r:=by
  refine⟨by simp,hr,fun j _ hj=>hL j hj,fun l=> ?_,fun b h1 h2 h3=> ?_,fun i o d hi hl=> ?_,fun _ _=>rfl,ht,Inj.le_refl r,fun _ h=> .inl h,fun _ h=> .inl h,fun j hj hl=> ?_⟩
  ·rw[Lz (j:=0) (Nat.zero_le _)]
   ·rfl
   ·intro i _ hi hd;rw[hL i (Nat.lt_of_lt_of_le hi H.len)]at hd;cases hd
  ·obtain⟨a1,a2⟩:=hfr b h1 h2
   rcases h3 with h3|h3
   ·exact absurd a1 h3
   ·exact absurd a2 h3
  ·rw[hL i (Array.getElem?_eq_some_iff.1 hi).1]at hl;cases hl
  ·rw[hL j (Nat.lt_of_lt_of_le hj H.len)]at hl;cases hl
 have hc:cnt (fun i=> !(Array.replicate ops.size false).getD i true) m=m:=by
  rw[ME (q:=fun _=>true) fun i hi=>by rw[hL i (Nat.lt_of_lt_of_le hi H.len)];rfl]
  exact Y6 _
 obtain⟨L',mt',t',w',r',I,hall,s⟩:=Inv.run H he c1 c2 (w0:=w0) (r0:=r) (t0:=t) hT b dfs cs k m tp _ _ _ _ _ I0 hc
 have hfuel:m+(ops.size-m)=ops.size:=by have:=H.len;omega
 rw[hfuel]at s
 have hmem: ∀l,T.get (x.Mm m) l=T.get mt' l:=fun l=>by
  rw[I.mem l]
  exact(LP H (Nat.le_refl _) fun i hi _=>hall i hi).symm
 have hT':TmR r' glob (x.Tm m) t':=by
  intro y v e
  rcases H.tm (Nat.le_refl _) e with⟨q,oq,a1,a2,a3,a4,a5⟩|⟨a1,a2⟩
  ·rw[a5]
   exact⟨a4,I.slot q oq y a2 (hall q a1) a3⟩
  ·obtain⟨p1,v',p2,p3⟩:=hT y v a1
   refine⟨p1,v', ?_,p3.mono I.le⟩
   rw[I.keep y]
   ·exact p2
   ·intro i oi hoi hLi hdi
    have hi0:i<ops.size:=(Array.getElem?_eq_some_iff.1 hoi).1
    rcases Nat.lt_or_ge i m with h|h
    ·rw[a2 i oi h hoi hdi]at p1
     cases p1
    ·rw[I.off i h hi0]at hLi;cases hLi
 refine⟨t',w',r',fun s s' e1 e2 e3=>⟨I.le,by rw[e1,e2];exact H.nx (Nat.zero_le _) (Nat.le_refl _),fun b hb=>by rw[e1,e2];exact I.domB b hb,fun b hb=>by rw[e1,e2];exact I.domE b hb, ?_⟩,hT',I.tsz,⟨fun p d v _ e1 e2=> ?_,fun y v _ e=>(hT' y v e).2⟩,fun d hd=>I.keep d fun i o ho _ hx=>hd (HX (by rw[Array.mem_toList_iff];exact Array.mem_of_getElem? ho) hx),s⟩
 ·rw[e3]
  exact I.rel.less fun l c e=>by rw[←hmem l];exact e
 ·obtain⟨q,oq,a1,a2,a3,a4⟩:=(H.ds (Nat.le_refl m)).2.1 p d e1
  rw[a4]at e2
  cases e2
  exact I.slot q oq d a2 (hall q a1) a3
end
def RoR (r:Inj):Option Nat→Option Nat→Prop
 |none,none=>True
 |some l,some l'=> ∃d,r.blk l=some (l',d)
 |_,_=>False
theorem RoR.mono {r r':Inj}(h:r.le r'){a b:Option Nat}(k:RoR r a b):RoR r' a b:=by
 cases a<;>cases b<;>simp only[RoR]at k ⊢
 obtain⟨d,k⟩:=k
 exact⟨d,h.1 _ _ k⟩
structure FR (P:Program)(r:Inj)(af:AF)(cx:Ctx)(base:List Deferred×List Frame)(fr:Frame)(cs:List Frame):Prop where
 fn:fr.fn=af.fn
 size:fr.tmps.size=af.n
 tm:TmR r af.glob af.tmps fr.tmps
 todo:af.mode= .run→fr.todo=af.todo
 mode:MoR r af.mode fr.mode
 round:RoR r af.roundOf fr.roundOf
 rk:fr.roundOf≠none→fr.kind= .normal
 known:fr.roundOf=none→ ∃fn,P.funcs[fr.fn]?=some fn
 cx:CxR r base cx fr fr.defers cs
def Fi (k:CallKind)(c:Frame)(v:Value):Frame:=
 match k with
 | .deferred=>(match c.mode with
  | .panicking ({recovered:=true, .. }::older)=>(match older.dropWhile (!·.goexit)with
   |[]=>{c with mode:= .returning}
   |rest=>{c with mode:= .panicking rest})
  |_=>c)
 |_=>c.finish v
def Kin (fr fr':Frame):Prop:=(fr'.kind,fr'.roundOf,fr'.fn)=(fr.kind,fr.roundOf,fr.fn)
def FinE (P:Program)(r:Inj)(base:List Deferred×List Frame)(cx':Ctx)(fr:Frame)(m:Machine)(w':World)(out:Out (Value×FrameMode)):Prop:=
 ∃cs',((fr.kind= .normal∧cs'=base.2)∨ ∃u c0 rest m',cx'= .cx (some u) (some [])∧fr.kind= .deferred∧base.2=c0::rest∧cs'={c0 with mode:=m'}::rest∧MoR r u m'∧ ∀v up,out= .inl (v,up)→up=u)∧
  match out with
  | .inl (v,_)=> ∃v',VR r v v'∧(∀c rest,cs'=c::rest→Steps P m (lone (Fi fr.kind c v') rest w'))∧(fr.roundOf=none→fr.kind= .normal→ ∃fr',fr'.fn=fr.fn∧fr'.leaving P w' (.returned v')∧Steps P m (lone fr' cs' w'))
  | .inr ch=> ∃ch',ChR r ch ch'∧ ∀c rest,cs'=c::rest→Steps P m (lone (c.raise ch') rest w')
def BT (P:Program)(r:Inj)(base:List Deferred×List Frame)(cx':Ctx)(fr:Frame)(m:Machine)(w':World)(out:Out Step):Prop:=
 match out with
 | .inl (.go af')=> ∃fr' cs',Kin fr fr'∧FR P r af' cx' base fr' cs'∧Steps P m (lone fr' cs' w')
 | .inl (.fin v up)=>FinE P r base cx' fr m w' (.inl (v,up))
 | .inr ch=>FinE P r base cx' fr m w' (.inr ch)
structure EnvOK (E:Env):Prop where
 ty:EnvTy E
 fn : ∀ f fn, E.fn.get f = some fn → E.P.funcs[f]? = some fn ∧ fn.name ≠ "runtime.NumGoroutine"
 mixed:E.P.follows .mixedOrders=true
 orcLoc: ∀f m,E.orc.get f=some m→ ∀args,Loc (m args)
 orc: ∀{f:Nat} {m:List Value→M Value},E.orc.get f=some m→ ∀{w0 w:World} {r:Inj} {args args':List Value} {s:St} {out:Out Value} {s':St},m args s=rOf out s'→Rel w0 r s.mem w→Bnd s→A8 r s.next s'.next→VRs r args args'→
  (∀w,(callFunc f args'.toArray).run E.P w= .ok (.enter f args'.toArray) w)∧
  ∀c cs,∃w' r',Goes w0 r s s' r' w'∧s'.lim=s.lim∧s'.cx=s.cx∧Ends E.P r' out (lone (Frame.enter E.P f args'.toArray .normal) (c::cs) w) c cs w'
 extLoc: ∀f m,E.ext.get f=some m→ ∀args,Loc (m args)
 ext: ∀{f:Nat} {m:List Value→M Value},E.ext.get f=some m→ ∀{w0 w:World} {r:Inj} {args args':List Value} {s:St} {out:Out Value} {s':St},m args s=rOf out s'→Rel w0 r s.mem w→VRs r args args'→
  LB E.P w0 w r s f args' out s'
section
variable {P:Program}{b:Frame}{t:Array Value}{d:List Deferred}{k:List Item}{cs:List Frame}{w:World}
theorem Pg:step P (lone (frm b t d (.code .skip::k)) cs w)= .next (lone (frm b t d k) cs w):=step_lone_go (by simp[stepG,stepG.exec,frm])
theorem TE {l:Nat}:step P (lone (frm b t d (.code (.label l)::k)) cs w)= .next (lone (frm b t d k) cs w):=step_lone_go (by simp[stepG,stepG.exec,frm])
theorem Pz {id:Nat}:step P (lone (frm b t d (.inBlock id::k)) cs w)= .next (lone (frm b t d k) cs w):=step_lone_go (by simp[stepG,stepG.exec,frm])
theorem U7 {c:Code}:step P (lone (frm b t d (.inScope c::k)) cs w)= .next (lone (frm b t d k) cs w):=step_lone_go (by simp[stepG,stepG.exec,frm])
theorem Vv {x y:Code}:step P (lone (frm b t d (.code (.seq x y)::k)) cs w)= .next (lone (frm b t d (.code x:: .code y::k)) cs w):=step_lone_go (by simp[stepG,stepG.exec,frm])
theorem PB {id:Nat}{c:Code}:step P (lone (frm b t d (.code (.block id c)::k)) cs w)= .next (lone (frm b t d (.code c:: .inBlock id::k)) cs w):=step_lone_go (by simp[stepG,stepG.exec,frm])
theorem Ur {c:Code}:step P (lone (frm b t d (.code (.loop c)::k)) cs w)= .next (lone (frm b t d (.code c:: .inLoop c::k)) cs w):=step_lone_go (by simp[stepG,stepG.exec,frm])
theorem Ud {c:Code}:step P (lone (frm b t d (.inLoop c::k)) cs w)= .next (lone (frm b t d (.code c:: .inLoop c::k)) cs w):=step_lone_go (by simp[stepG,stepG.exec,frm])
theorem Tp {c:Code}:step P (lone (frm b t d (.code (.scope c)::k)) cs w)= .next (lone (frm b t d (.code c:: .inScope c::k)) cs w):=step_lone_go (by simp[stepG,stepG.exec,frm])
theorem SJ {id:Nat}{k':List Item}(h:exitTo id k=some k'):step P (lone (frm b t d (.code (.exit id)::k)) cs w)= .next (lone (frm b t d k') cs w):=step_lone_go (by simp[stepG,stepG.exec,frm,h])
theorem LI_ {l:Nat}{k':List Item}(h:gotoIn l k=some k'):step P (lone (frm b t d (.code (.goto l)::k)) cs w)= .next (lone (frm b t d k') cs w):=step_lone_go (by simp[stepG,stepG.exec,frm,h])
theorem Px {c:Operand}{x y:Code}{tt:Bool}(h:Act.eval ⟨t,d⟩ c= .bool tt):step P (lone (frm b t d (.code (.cond c x y)::k)) cs w)= .next (lone (frm b t d (.code (if tt then x else y)::k)) cs w):=
 step_lone_go (by
  have:=congrFun (Me b t d (.code (.cond c x y)::k)) c
  rw[h]at this
  simp only[frm]at this
  simp[stepG,stepG.exec,frm,this])
theorem DS_ (hr:b.roundOf=none):step P (lone (frm b t d (.code .ret::k)) cs w)= .next (lone {frm b t d (.code .ret::k)with mode:= .returning} cs w):=step_lone_go (by simp[stepG,stepG.exec,frm,hr])
theorem HG_ (hr:b.roundOf=none):step P (lone (frm b t d []) cs w)= .next (lone {frm b t d []with mode:= .returning} cs w):=step_lone_go (by simp[stepG,stepG.exec,frm,hr])
theorem CD: ∀(n:Nat) (l:List Item),Steps P (lone (frm b t d l) cs w) (lone (frm b t d (skim n l)) cs w)
 |0,l=> .refl _ _
 |n+1,l=>by
  unfold skim
  split
  ·exact .head Pg (CD n _)
  ·exact .head TE (CD n _)
  ·exact .head Pz (CD n _)
  ·exact .head U7 (CD n _)
  ·exact .head Vv (CD n _)
  ·exact .head PB (CD n _)
  ·exact .head Ur (CD n _)
  ·exact .head Ud (CD n _)
  ·exact .head Tp (CD n _)
  ·split
   ·exact .head (SJ (by assumption)) (CD n _)
   ·exact .refl _ _
  ·exact .refl _ _
theorem Gy {l:Nat}{L:Loop}(h:w.heap[l]?=some (.loop L)):(Instr.getLoop l).run P w= .ok L w:=by simp[Instr.getLoop,getObj,Sem.run,h]
theorem LD {l:Nat}{L L2:Loop}(h:w.heap[l]?=some (.loop L)):(setObj l (.loop L2)).run P w= .ok () (World.setO w l (.loop L2)):=by simp[setObj,Sem.run,h,World.setO]
theorem MK_ {l:Nat}{L:Loop}{todo:List Item}{jump:Option Code}(hr:b.roundOf=some l)(hk:b.kind= .normal)(hL:w.heap[l]?=some (.loop L)){c:Frame}{rest:List Frame}
  (ht:(todo=[]∧jump=none)∨(∃k,todo= .code .ret::k∧jump=some .ret)∨(∃id k,todo= .code (.exit id)::k∧exitTo id k=none∧jump=some (.exit id))∨(∃g k,todo= .code (.goto g)::k∧gotoIn g k=none∧jump=some (.goto g))):
  step P (lone (frm b t d todo) (c::rest) w)= .next (lone (c.finish (.bool jump.isNone)) rest (World.setO w l (.loop {L with state:=if jump.isNone then .ready else .done,pending:=jump}))):=by
 have hrun:(Instr.endRound l jump).run P w= .ok (.bool jump.isNone) (World.setO w l (.loop {L with state:=if jump.isNone then .ready else .done,pending:=jump})):=by
  simp only[Instr.endRound,Sem.run_bind,Gy hL,Result.andThen_ok,LD hL,Sem.run_pure]
 refine step_lone_go ?_
 rcases ht with⟨rfl,rfl⟩|⟨k,rfl,rfl⟩|⟨id,k,rfl,e,rfl⟩|⟨g,k,rfl,e,rfl⟩<;>simp_all [stepG,stepG.exec,frm,doReturn]
end
section
variable {E:Env}{call round:Ac}{w0 w:World}{r:Inj}{base:List Deferred×List Frame}
theorem FR.frm {P:Program}{af:AF}{cx:Ctx}{fr:Frame}{cs:List Frame}(h:FR P r af cx base fr cs)(hm:af.mode= .run):fr=frm fr fr.tmps fr.defers af.todo:=by
 have h1:=h.todo hm
 have h2:=h.mode
 rw[hm]at h2
 obtain⟨a,b,c,d,e,f,g⟩:=fr
 simp only at h1
 cases h2
 rw[h1]
 rfl
theorem FR.to {P:Program}{af:AF}{cx:Ctx}{fr:Frame}{cs:List Frame}(h:FR P r af cx base fr cs)(k:List Item):FR P r {af with todo:=k,mode:= .run} cx base (Am.frm fr fr.tmps fr.defers k) cs:=
 ⟨h.fn,h.size,h.tm,fun _=>rfl, .run,h.round,h.rk,h.known,h.cx⟩
theorem Lb (af:AF)(k:List Item)(s:St):goTo af k s= .some (.go {af with todo:=k}) s:=rfl
theorem T4 (af:AF)(k:List Item)(tm:T Value)(s:St):goTm af k tm s= .some (.go {af with todo:=k,tmps:=tm}) s:=rfl
theorem CT_ {af:AF}{fr:Frame}{cs:List Frame}{s s':St}{out:Out Step}{l:Nat}{jump:Option Code}(h:endR l jump s=rOf out s')(hF:FR E.P r af s.cx base fr cs)(hm:af.mode= .run)(hr:Rel w0 r s.mem w)(hro:af.roundOf=some l)
  (hcs:cs=base.2) (ht:(af.todo=[]∧jump=none)∨(∃k,af.todo= .code .ret::k∧jump=some .ret)∨(∃id k,af.todo= .code (.exit id)::k∧exitTo id k=none∧jump=some (.exit id))∨(∃g k,af.todo= .code (.goto g)::k∧gotoIn g k=none∧jump=some (.goto g))):
  ∃w' r',Goes w0 r s s' r' w'∧s'.lim=s.lim∧BT E.P r' base s'.cx fr (lone fr cs w) w' out:=by
 unfold endR at h
 rcases BB h with⟨c,s1,e1,e2⟩|⟨c,e1,_⟩
 ·obtain⟨q1,q2⟩:=Ct e1
  cases c with
  |C a b=>exact(AU e2).elim
  |O o=>
   cases o with
   |loop st pe f n g tm ps as bd df=>
    rcases BB e2 with⟨u,s2,e3,e4⟩|⟨c,e3,_⟩
    ·obtain⟨rfl,rfl⟩:=Bd (show R.some (Step.fin (.bool jump.isNone) .run) s2=rOf out s' from e4)
     obtain⟨b',d,o',g1,g2,g3⟩:=hr.obj _ _ q1 rfl
     have hro2:=hF.round
     rw[hro]at hro2
     cases hfr:fr.roundOf with
     |none=>rw[hfr]at hro2;exact hro2.elim
     |some l'=>
      rw[hfr]at hro2
      obtain⟨d',hro2⟩:=hro2
      rw[g1]at hro2
      cases hro2
      cases o' with
      |loop L=>
       obtain⟨k1,k2,k3,k4,k5,k6,k7,k8,k9⟩:=g3
       have hOR:OR r (.loop (if jump.isNone then .ready else .done) jump f n g tm ps as bd df) (.loop {L with state:=if jump.isNone then .ready else .done,pending:=jump}):=⟨rfl,rfl,k3,k4,k5,k6,k7,k8,k9⟩
       obtain⟨p1,p2,p3⟩:=FW e3 (by rw[q2.1];exact hr) (by rw[q2.1];exact q1) rfl g1 hOR rfl
       refine⟨_,r,(Goes.same q2 hr).trans p1,p2.trans q2.2.2.1, ?_⟩
       have hkind:=hF.rk (by rw[hfr];simp)
       refine⟨cs, .inl ⟨hkind,hcs⟩, .bool jump.isNone, .bool _, ?_,fun e=>by rw[hfr]at e;cases e⟩
       intro c rest hc
       subst hc
       rw[hkind,hF.frm hm]
       exact .one (MK_ hfr hkind g2 ht)
      |_=>exact g3.elim
    ·exact((B6 _ _).no _ _ _ e3).elim
   |_=>exact(AU e2).elim
 ·exact((Cz _).no _ _ _ e1).elim
theorem NQ {af:AF}{fr:Frame}{cs:List Frame}{s s':St}{out:Out Step}{jump:Option Code}(h:DP af jump s=rOf out s')(hF:FR E.P r af s.cx base fr cs)(hm:af.mode= .run)(hr:Rel w0 r s.mem w)(hcs:af.roundOf≠none→cs=base.2)
  (ht:(af.todo=[]∧jump=none)∨(∃k,af.todo= .code .ret::k∧jump=some .ret)∨(∃id k,af.todo= .code (.exit id)::k∧exitTo id k=none∧jump=some (.exit id))∨(∃g k,af.todo= .code (.goto g)::k∧gotoIn g k=none∧jump=some (.goto g))):
  ∃w' r',Goes w0 r s s' r' w'∧s'.lim=s.lim∧BT E.P r' base s'.cx fr (lone fr cs w) w' out:=by
 have h0:DP af jump=Option.rec (motive:=fun _=>M Step) (M.chk (RX jump) (goMo af .returning af.tmps)) (fun l=>endR l jump) af.roundOf:=rfl
 rw[h0]at h
 cases hro:af.roundOf with
 |some l=>
  rw[hro]at h
  exact CT_ h hF hm hr hro (hcs (by rw[hro];simp)) ht
 |none=>
  rw[hro]at h
  have hfro:fr.roundOf=none:=by
   have:=hF.round
   rw[hro]at this
   cases hx:fr.roundOf with
   |none=>rfl
   |some y=>rw[hx]at this;exact this.elim
  have fin: ∀{out:Out Step},M.pure (Step.go {af with mode:= .returning}) s=rOf out s'→step E.P (lone (frm fr fr.tmps fr.defers af.todo) cs w)= .next (lone {frm fr fr.tmps fr.defers af.todo with mode:= .returning} cs w)→
    ∃w' r',Goes w0 r s s' r' w'∧s'.lim=s.lim∧BT E.P r' base s'.cx fr (lone fr cs w) w' out:=by
   intro out h hs
   obtain⟨rfl,rfl⟩:=Bd h
   refine⟨w,r, .of_rel rfl hr,rfl,{frm fr fr.tmps fr.defers af.todo with mode:= .returning},cs,rfl,⟨hF.fn,hF.size,hF.tm,(fun e=>by cases e), .ret,hF.round,hF.rk,hF.known,hF.cx⟩, ?_⟩
   exact .one (by rw[hF.frm hm];exact hs)
  rcases ht with⟨e1,rfl⟩|⟨k,e1,rfl⟩|⟨id,k,e1,e2,rfl⟩|⟨g,k,e1,e2,rfl⟩
  ·exact fin h (by rw[e1];exact HG_ hfro)
  ·exact fin h (by rw[e1];exact DS_ hfro)
  ·exact(AU h).elim
  ·exact(AU h).elim
theorem Co {af:AF}{fr:Frame}{cs:List Frame}{s s':St}{out:Out Step}{k:List Item}(h:goTo af k s=rOf out s')(hF:FR E.P r af s.cx base fr cs)(hm:af.mode= .run)(hr:Rel w0 r s.mem w)
  (hs:step E.P (lone (frm fr fr.tmps fr.defers af.todo) cs w)= .next (lone (frm fr fr.tmps fr.defers k) cs w)):
  ∃w' r',Goes w0 r s s' r' w'∧s'.lim=s.lim∧BT E.P r' base s'.cx fr (lone fr cs w) w' out:=by
 obtain⟨rfl,rfl⟩:=Bd ((Lb af k s).symm.trans h)
 have hF':=hF.to k
 rw[←hm]at hF'
 exact⟨w,r, .of_rel rfl hr,rfl,frm fr fr.tmps fr.defers k,cs,rfl,hF', .one (by rw[hF.frm hm];exact hs)⟩
theorem PK {af:AF}{fr:Frame}{cs:List Frame}{s s':St}{out:Out Step}{jump:Code}{k:Option (List Item)}(h:DV af jump k s=rOf out s')(hF:FR E.P r af s.cx base fr cs)(hm:af.mode= .run)(hr:Rel w0 r s.mem w)(hcs:af.roundOf≠none→cs=base.2)
  (hk: ∀k',k=some k'→step E.P (lone (frm fr fr.tmps fr.defers af.todo) cs w)= .next (lone (frm fr fr.tmps fr.defers k') cs w))
  (ht:k=none→(∃id k,af.todo= .code (.exit id)::k∧exitTo id k=none∧jump= .exit id)∨(∃g k,af.todo= .code (.goto g)::k∧gotoIn g k=none∧jump= .goto g)):
  ∃w' r',Goes w0 r s s' r' w'∧s'.lim=s.lim∧BT E.P r' base s'.cx fr (lone fr cs w) w' out:=by
 cases k with
 |none=>
  refine NQ (jump:=some jump) h hF hm hr hcs ?_
  rcases ht rfl with⟨id,k,a,b,rfl⟩|⟨g,k,a,b,rfl⟩
  ·exact .inr (.inr (.inl ⟨id,k,a,b,rfl⟩))
  ·exact .inr (.inr (.inr ⟨g,k,a,b,rfl⟩))
 |some k'=>exact Co h hF hm hr (hk k' rfl)
end
theorem HH: ∀(l:List COp),∃F,fuse l= .mk F∧ ∀call round rho tm s,F call round rho tm s=By call round l rho tm s
 |[]=>⟨_,rfl,fun _ _ _ _ _=>rfl⟩
 |⟨g,d,keep,f⟩::l=>by
  obtain⟨k,h1,h2⟩:=HH l
  have key: ∀f':OpT,∃F,KU d keep f' k= .mk F∧ ∀call round rho tm s,F call round rho tm s=M.bind (f' call round rho tm) (fun v=>By call round l (Ck d v rho) (Cs d keep v tm)) s:=by
   intro f'
   cases d with
   |none=>
    refine⟨_,rfl,fun call round rho tm s=> ?_⟩
    unfold M.bind
    simp only
    cases f' call round rho tm s with
    |none=>rfl
    |some v s1=>exact h2 _ _ _ _ _
    |pan c s1=>rfl
   |some d=>
    cases keep with
    |false=>
     refine⟨_,rfl,fun call round rho tm s=> ?_⟩
     unfold M.bind
     simp only
     cases f' call round rho tm s with
     |none=>rfl
     |some v s1=>exact h2 _ _ _ _ _
     |pan c s1=>rfl
    |true=>
     refine⟨_,rfl,fun call round rho tm s=> ?_⟩
     unfold M.bind
     simp only
     cases f' call round rho tm s with
     |none=>rfl
     |some v s1=>
      obtain⟨a,b,c,e⟩:=T.set_N tm d v
      simp only[e,Cs]
      exact h2 _ _ _ _ _
     |pan c s1=>rfl
  have h0:fuse (⟨g,d,keep,f⟩::l)=M1 ⟨g,d,keep,f⟩ k:=by
   show Cl.rec (motive:=fun _=>Cl RT) (fun k=>M1 ⟨g,d,keep,f⟩ k) (fuse l)=_
   rw[h1]
  rw[h0]
  cases g with
  |none=>
   obtain⟨F,q1,q2⟩:=key f
   exact⟨F,q1,fun call round rho tm s=>by rw[q2,Kg];rfl⟩
  |some p=>
   obtain⟨F,q1,q2⟩:=key (fun call round r tm=>BF (some p) r (f call round r tm))
   exact⟨F,q1,fun call round rho tm s=>by rw[q2,Kg]⟩
def delT (ds:List Nat)(t:T Value):T Value:=List.rec (motive:=fun _=>T Value) t (fun d _ t=>T.del t d) ds
theorem LW {tm:T Value}{y:Nat}{v:Value}: ∀{ds:List Nat},T.get (delT ds tm) y=some v→y∉ds∧T.get tm y=some v
 |[],h=>⟨by simp,h⟩
 |d::ds,h=>by
  replace h:T.get (T.del (delT ds tm) d) y=some v:=h
  rw[T.get_del]at h
  split at h
  ·cases h
  ·rename_i hne
   obtain⟨h1,h2⟩:=LW h
   exact⟨fun hm=>(List.mem_cons.1 hm).elim hne h1,h2⟩
section
variable {E:Env}{call round:Ac}{w0 w:World}{r:Inj}{base:List Deferred×List Frame}
theorem FR.csr {P:Program}{af:AF}{cx:Ctx}{fr:Frame}{cs:List Frame}(h:FR P r af cx base fr cs):af.roundOf≠none→cs=base.2:=by
 intro hne
 have hfr:fr.roundOf≠none:=by
  have:=h.round
  intro hx
  rw[hx]at this
  cases e:af.roundOf with
  |none=>exact hne e
  |some l=>rw[e]at this;exact this.elim
 have hk:=h.rk hfr
 have hc:=h.cx
 unfold CxR at hc
 cases cx with
 |no=>exact hc.2
 |cx up d=>
  cases up with
  |none=>exact hc.1.2
  |some m=>have:=hc.1.1;rw[hk]at this;cases this
theorem FR.slots {P:Program}{af:AF}{cx:Ctx}{fr:Frame}{cs:List Frame}(h:FR P r af cx base fr cs):SlR r (fun _=>True) [] [] af.tmps fr.tmps:=
 ⟨fun i d v _ e=>by simp at e,fun y v _ e=>(h.tm y v e).2⟩
theorem Jq {α:Type}{m:M α}{o:Out α}{s s':St}(h:noP m s=rOf o s'): ∃a,o= .inl a∧m s= .some a s':=by
 unfold noP at h
 cases e:m s with
 |none=>rw[e]at h;exact(AU h).elim
 |some a s1=>rw[e]at h;obtain⟨rfl,rfl⟩:=Bd h;exact⟨a,rfl,rfl⟩
 |pan c s1=>rw[e]at h;exact(AU h).elim
theorem KO_ (he:EnvOK E)(c1:CallOK E call)(c2:RoundOK E round){af:AF}{fr:Frame}{cs:List Frame}{s s':St}{out:Out Step}{ops:Array Oper}{cops:List COp}{F:RT}{id:Nat}{k:List Item}
  (hc:BQ E af.glob af.n ops.toList ops.toList []=some cops) (hF':fuse cops= .mk F) (h:regF call round af (dstL ops.toList) F k s=rOf out s') (hF:FR E.P r af s.cx base fr cs) (hm:af.mode= .run) (htodo:af.todo= .code (.region id ops false)::k)
  (hr:Rel w0 r s.mem w) (hb:Bnd s) (hf:A8 r s.next s'.next):
  ∃w' r',Goes w0 r s s' r' w'∧s'.lim=s.lim∧BT E.P r' base s'.cx fr (lone fr cs w) w' out:=by
 obtain⟨F2,q1,q2⟩:=HH cops
 rw[hF']at q1
 cases q1
 unfold regF at h
 rw[q2]at h
 have hstart:step E.P (lone fr cs w)= .next (lone (frm fr fr.tmps fr.defers (.inRegion ops (List.range' 0 ops.toList.length)::k)) cs w):=by
  rw[hF.frm hm,htodo]
  have:=Lh_ (P:=E.P) (b:=fr) (t:=fr.tmps) (d:=fr.defers) (k:=k) (cs:=cs) (w:=w) (ops:=ops) (id:=id)
  rw[List.range_eq_range']at this
  rw[show ops.toList.length=ops.size by simp]
  exact this
 have main: ∀{o:Out (T Value)} {s1:St},By call round cops [] af.tmps s=rOf o s1→A8 r s.next s1.next→ ∃w' r' dfs' cs',Goes w0 r s s1 r' w'∧CxR r' base s1.cx fr dfs' cs'∧s1.lim=s.lim∧
   Hc E.P r' af.glob o (lone (frm fr fr.tmps fr.defers (.inRegion ops (List.range' 0 ops.toList.length)::k)) cs w) fr fr.tmps ops.toList dfs' k cs' w':=fun e hf1=>
  N6 he.ty c1 c2 ops.toList 0 [] cops [] af.tmps fr.tmps fr.defers cs w r s _ _ (fun j o hj=>by rw[Nat.zero_add];rw[Array.getElem?_toList]at hj;exact hj) hc hF.slots hF.tm hF.size rfl hr hF.cx hb hf1 e
 cases e:By call round cops [] af.tmps s with
 |none=>rw[e]at h;exact(AU h).elim
 |some tm s1=>
  rw[e]at h
  obtain⟨rfl,rfl⟩:=Bd ((T4 af k tm s1).symm.trans h)
  obtain⟨w',r',dfs',cs',k1,k2,k3,t',k4,k5,k6⟩:=main (o:= .inl tm) e hf
  exact⟨w',r',k1,k3,frm fr t' dfs' k,cs',rfl,⟨hF.fn,k5.trans hF.size,k4,fun _=>rfl,by rw[show({af with todo:=k,tmps:=tm}:AF).mode= .run from hm];exact .run,hF.round.mono k1.le,hF.rk,hF.known,k2⟩, .head hstart k6⟩
 |pan ch s1=>
  rw[e]at h
  cases hro:af.roundOf with
  |some l=>rw[hro]at h;exact(AU h).elim
  |none=>
   rw[hro]at h
   obtain⟨rfl,rfl⟩:=Bd (show R.some (Step.go {af with mode:= .panicking ch,tmps:=delT (dstL ops.toList) af.tmps}) s1=rOf out s' from h)
   obtain⟨w',r',dfs',cs',k1,k2,k3,ch',t',td,k4,k5,k6,k7⟩:=main (o:= .inr ch) e hf
   refine⟨w',r',k1,k3,{frm fr t' dfs' td with mode:= .panicking ch'},cs',rfl,⟨hF.fn,k5.trans hF.size, ?_,(fun e=>by cases e), .pan k4,hF.round.mono k1.le,hF.rk,hF.known,k2⟩, .head hstart k7⟩
   intro y v hy
   obtain⟨p1,p2⟩:=LW hy
   obtain⟨p3,v',p4,p5⟩:=hF.tm y v p2
   exact⟨p3,v',by rw[show({frm fr t' dfs' td with mode:= .panicking ch'}:Frame).tmps=t' from rfl,k6 y p1];exact p4,p5.mono k1.le⟩
theorem MT {tm0:T Value}{cops:List COp}{bef:List Nat}{s s':St}{out:Out (Rho×T Value)}(h:EP call round tm0 cops bef s=rOf out s'):
  ∃q logs s1,Dm call round cops [] [] tm0 ⟨s.mem,s.next,0,[],[], .no⟩= .some (q,logs) s1∧B2 s.next logs.reverse bef=true∧out= .inl q∧
   s'=⟨s1.mem,s1.next,s.lim,rdsL s.lim logs s.rd,wrsL s.lim logs s.wr,s.cx⟩:=by
 obtain⟨mem,next,lim,rd,wr,cx⟩:=s
 unfold EP at h
 simp only at h
 cases e:Dm call round cops [] [] tm0 ⟨mem,next,0,[],[], .no⟩with
 |none=>rw[e]at h;exact(AU h).elim
 |pan c s1=>rw[e]at h;exact(AU h).elim
 |some p s1=>
  rw[e]at h
  obtain⟨q,logs⟩:=p
  obtain⟨mem1,next1,lim1,rd1,wr1,cx1⟩:=s1
  simp only at h
  cases hA:B2 next logs.reverse bef with
  |false=>rw[hA]at h;exact(AU h).elim
  |true=>
   rw[hA]at h
   obtain⟨rfl,rfl⟩:=Bd (show R.some q _=rOf out s' from h)
   exact⟨_,logs,_,rfl,hA,rfl,rfl⟩
theorem Qv: ∀(l:List COp) (m:Nat),J0 l m=l.take m
 |[],m=>by simp[J0]
 |c::l,0=>rfl
 |c::l,m+1=>by show c::J0 l m=_;rw[Qv l m];rfl
theorem QJ: ∀(l:List COp) (m:Nat),Gl l m=l.drop m
 |[],m=>by simp[Gl]
 |c::l,0=>rfl
 |c::l,m+1=>by show Gl l m=_;rw[QJ l m];rfl
theorem ZX {ops:Array Oper}:C1 ops.size (Region.before ops).toList≤ops.size∧ops.size≤C1 ops.size (Region.before ops).toList+1∧
  ∀j,C1 ops.size (Region.before ops).toList≤j→j<ops.size→ ∀i,i<C1 ops.size (Region.before ops).toList→Bf ops j i:=by
 have key: ∀y:Bool,(y=true→ ∃b,(Region.before ops).toList[ops.size-1]?=some b∧b=2^(ops.size-1)-1)→(Bool.rec (motive:=fun _=>Nat) ops.size (Nat.pred ops.size) y)≤ops.size∧ops.size≤(Bool.rec (motive:=fun _=>Nat) ops.size (Nat.pred ops.size) y)+1∧
   ∀j,(Bool.rec (motive:=fun _=>Nat) ops.size (Nat.pred ops.size) y)≤j→j<ops.size→ ∀i,i<(Bool.rec (motive:=fun _=>Nat) ops.size (Nat.pred ops.size) y)→Bf ops j i:=by
  intro y hy
  cases y with
  |false=>exact⟨Nat.le_refl ops.size,Nat.le_succ ops.size,fun j (h1:ops.size≤j) h2=>absurd h2 (Nat.not_lt.2 h1)⟩
  |true=>
   obtain⟨b,hb,hb'⟩:=hy rfl
   refine⟨Nat.pred_le ops.size, ?_,fun j (h1:Nat.pred ops.size≤j) h2 i (h3:i<Nat.pred ops.size)=> ?_⟩
   ·show ops.size≤Nat.pred ops.size+1
    rw[Nat.pred_eq_sub_one];omega
   ·rw[Nat.pred_eq_sub_one]at h1 h3
    have hj:j=ops.size-1:=by omega
    subst hj
    refine⟨b,by rw[←Array.getElem?_toList];exact hb, ?_⟩
    rw[hb',Nat.testBit_two_pow_sub_one]
    simpa using h3
 unfold C1
 refine key _ fun h=> ?_
 split at h
 ·exact⟨_,by rw[←Nat.pred_eq_sub_one];assumption,Nat.eq_of_beq_eq_true h⟩
 ·cases h
theorem MQ {glob n:Nat}{all:List Oper}: ∀(m:Nat) (l:List Oper) (ds:List Nat) (cs:List COp),BQ E glob n all l ds=some cs→BQ E glob n all (l.drop m) ((l.take m).foldl (fun ds o=>BH o.dst ds) ds)=some (cs.drop m)
 |0,l,ds,cs,h=>h
 |m+1,[],ds,cs,h=>by cases h;rfl
 |m+1,o::l,ds,cs,h=>by
  obtain⟨g,f,r,rfl,h1,h2,h3,h4⟩:=Ii h
  exact MQ m l _ r h4
theorem Be_ (he:EnvOK E)(c1:CallOK E call)(c2:RoundOK E round){af:AF}{fr:Frame}{cs:List Frame}{s s':St}{out:Out Step}{ops:Array Oper}{cops:List COp}{id m:Nat}{k:List Item}
  (hc:BQ E af.glob af.n ops.toList ops.toList []=some cops) (hd:D7 ops.toList (Region.before ops).toList=true) (hmn:m=C1 ops.size (Region.before ops).toList) (h:IQ call round af (cops.take m) (cops.drop m) (Region.before ops).toList (dstL ops.toList) k s=rOf out s') (hF:FR E.P r af s.cx base fr cs) (hm:af.mode= .run) (htodo:af.todo= .code (.region id ops true)::k)
  (hr:Rel w0 r s.mem w) (hb:Bnd s) (hf:A8 r s.next s'.next):
  ∃w' r',Goes w0 r s s' r' w'∧s'.lim=s.lim∧BT E.P r' base s'.cx fr (lone fr cs w) w' out:=by
 obtain⟨m1,m2,m3⟩:=ZX (ops:=ops)
 rw[←hmn]at m1 m2 m3
 obtain⟨hlen,hcomp⟩:=H9 ops.toList [] cops hc
 have hn:cops.length=ops.size:=by rw[hlen];simp
 have hloc: ∀c∈cops,∀rho tm,Loc (BF c.guard rho (c.run call round rho tm)):=by
  intro c hcm rho tm
  obtain⟨i,hi,rfl⟩:=List.getElem_of_mem hcm
  have hio:i<ops.toList.length:=by rw[←hlen];exact hi
  obtain⟨g,f,p1,p2,p3,p4⟩:=hcomp i ops.toList[i] (List.getElem?_eq_getElem hio)
  rw[List.getElem?_eq_getElem hi]at p1
  rw[Option.some.inj p1]
  exact(Hq (ops:=ops) (i:=i) (keep:=BX ops.toList[i].dst af.glob) he.ty (by rw[←Array.getElem?_toList];exact List.getElem?_eq_getElem hio) p2 p4).1 call round c1 c2 rho tm
 have hlast:=MQ m ops.toList [] cops hc
 have hds:(ops.toList.take m).foldl (fun ds o=>BH o.dst ds) []=dsAt ops.toList m:=rfl
 rw[hds]at hlast
 have hsub: ∀j o,(ops.toList.drop m)[j]?=some o→ops[m+j]?=some o:=fun j o hj=>by rw[List.getElem?_drop,Array.getElem?_toList]at hj;exact hj
 have hbind: ∃q sd,EP call round af.tmps (cops.take m) (Region.before ops).toList s=rOf (.inl q) sd∧endE call round af (cops.drop m) (dstL ops.toList) k q sd=rOf out s':=by
  rcases BB h with⟨q,sd,e1,e2⟩|⟨ch,e1,_⟩
  ·exact⟨q,sd,e1,e2⟩
  ·obtain⟨_,_,_,_,_,q3,_⟩:=MT (out:= .inr ch) e1
   cases q3
 obtain⟨q,sd,e1,e2⟩:=hbind
 obtain⟨q',logs,s1,e,hA,q3,q4⟩:=MT e1
 cases q3
 obtain⟨x,t1,t2,t3,t4,t5,t6,t7⟩:=Se (cops.take m) [] [] af.tmps _ (.inl (q,logs)) s1 (fun c hc=>hloc c (List.mem_of_mem_take hc)) rfl e
 have hlm:(cops.take m).length=m:=by rw[List.length_take,hn];omega
 rw[hlm]at t6 t7
 cases t6
 have H:Pre E af.glob af.n ops call round cops x m:=by
  refine⟨fun i o ho=> ?_,m1,m2,m3,t1,t4,hd, ?_⟩
  ·have:=hcomp i o (by rw[Array.getElem?_toList];exact ho)
   simpa using this
  ·rw[t3]
   simpa using hA
 simp only at t2 t3
 unfold endE at e2
 have hsdb:Bnd sd:=by rw[q4,t7];exact Nat.le_trans hb (by rw[←t3];exact H.nx (Nat.zero_le _) (Nat.le_refl _))
 have hloc2:Loc (By call round (cops.drop m) (x.Rh m) (x.Tm m)):=GO he.ty c1 c2 (ops.toList.drop m) m _ _ hlast hsub _ _
 have hstart:step E.P (lone fr cs w)= .next (lone (frm fr fr.tmps fr.defers (.inRegion ops (Region.linearise .any ops (w.tape w.drawn (.order fr.fn id)))::k)) cs w.drew):=by
  rw[hF.frm hm,htodo]
  have:=Mi_ (P:=E.P) (b:=fr) (t:=fr.tmps) (d:=fr.defers) (k:=k) (cs:=cs) (w:=w) (ops:=ops) (id:=id)
  rw[he.mixed]at this
  have hsch:Region.schedule true ops (w.tape w.drawn (.order fr.fn id))=Region.linearise .any ops (w.tape w.drawn (.order fr.fn id)):=by simp[Region.schedule]
  rw[hsch]at this
  exact this
 have main: ∀{o:Out (T Value)} {s2:St},By call round (cops.drop m) (x.Rh m) (x.Tm m) sd=rOf o s2→A8 r s.next s2.next→ ∃w' r' dfs' cs',Goes w0 r s s2 r' w'∧CxR r' base s2.cx fr dfs' cs'∧s2.lim=s.lim∧
   Hc E.P r' af.glob o (lone fr cs w) fr fr.tmps ops.toList dfs' k cs' w':=by
  intro o s2 e3 hf2
  have hn2:sd.next≤s2.next:=(hloc2.at' sd o s2 e3 hsdb).next
  have hsdn:sd.next=x.Nx m:=by rw[q4,t7]
  obtain⟨t',w1,r1,g1,g2,g3,g5,g6,g4⟩:=H.draw_ok he.ty c1 c2 (w0:=w0) (w:=w.drew) (r:=r) (t:=fr.tmps) (by rw[t5];exact hF.tm) hF.size (by rw[t2];exact hr.drew)
   (by rw[t3];exact fun b u v=>hf2 b u (Nat.lt_of_lt_of_le v (by rw[←hsdn];exact hn2))) fr fr.defers cs k (w.tape w.drawn (.order fr.fn id))
  have hgo:=g1 s sd t3.symm hsdn (by rw[q4,t7])
  have hcx:CxR r1 base sd.cx fr fr.defers cs:=by rw[q4];exact hF.cx.mono hgo.le
  obtain⟨w2,r2,dfs2,cs2,k1,k2,k3,k4⟩:=N6 he.ty c1 c2 (b:=fr) (k:=k) (base:=base) (w0:=w0) (ops.toList.drop m) m (dsAt ops.toList m) (cops.drop m) (x.Rh m) (x.Tm m) t' fr.defers cs w1 r1 sd o s2 hsub hlast g5 g2 g3 (H.ds (Nat.le_refl m)).1
   hgo.rel hcx hsdb (hgo.fresh hf2) e3
  refine⟨w2,r2,dfs2,cs2,hgo.trans k1,k2,k3.trans (by rw[q4]), ?_⟩
  have hrl:(ops.toList.drop m).length=ops.size-m:=by simp
  rw[hrl]at k4
  have hto:Steps E.P (lone fr cs w) (lone (frm fr t' fr.defers (.inRegion ops (List.range' m (ops.size-m))::k)) cs w1):= .head hstart g4
  unfold Hc at k4 ⊢
  cases o with
  |inl tm'=>
   obtain⟨t2,z1,z2,z3⟩:=k4
   exact⟨t2,z1,by rw[z2,g3,hF.size],hto.trans z3⟩
  |inr ch=>
   obtain⟨ch',t2,td,z1,z2,z3,z4⟩:=k4
   exact⟨ch',t2,td,z1,by rw[z2,g3,hF.size],fun d hd=>by rw[z3 d hd,g6 d hd],hto.trans z4⟩
 cases e3:By call round (cops.drop m) (x.Rh m) (x.Tm m) sd with
 |none=>rw[e3]at e2;exact(AU e2).elim
 |some tm s2=>
  rw[e3]at e2
  obtain⟨rfl,rfl⟩:=Bd ((T4 af k tm s2).symm.trans e2)
  obtain⟨w',r',dfs',cs',k1,k2,k3,t',k4,k5,k6⟩:=main (o:= .inl tm) e3 hf
  exact⟨w',r',k1,k3,frm fr t' dfs' k,cs',rfl,⟨hF.fn,k5.trans hF.size,k4,fun _=>rfl,by rw[show({af with todo:=k,tmps:=tm}:AF).mode= .run from hm];exact .run,hF.round.mono k1.le,hF.rk,hF.known,k2⟩,k6⟩
 |pan ch s2=>
  rw[e3]at e2
  cases hro:af.roundOf with
  |some l=>rw[hro]at e2;exact(AU e2).elim
  |none=>
   rw[hro]at e2
   obtain⟨rfl,rfl⟩:=Bd (show R.some (Step.go {af with mode:= .panicking ch,tmps:=delT (dstL ops.toList) af.tmps}) s2=rOf out s' from e2)
   obtain⟨w',r',dfs',cs',k1,k2,k3,ch',t',td,k4,k5,k6,k7⟩:=main (o:= .inr ch) e3 hf
   refine⟨w',r',k1,k3,{frm fr t' dfs' td with mode:= .panicking ch'},cs',rfl,⟨hF.fn,k5.trans hF.size, ?_,(fun e=>by cases e), .pan k4,hF.round.mono k1.le,hF.rk,hF.known,k2⟩,k7⟩
   intro y v hy
   obtain⟨p1,p2⟩:=LW hy
   obtain⟨p3,v',p4,p5⟩:=hF.tm y v p2
   exact⟨p3,v',by rw[show({frm fr t' dfs' td with mode:= .panicking ch'}:Frame).tmps=t' from rfl,k6 y p1];exact p4,p5.mono k1.le⟩
theorem FU_ {tm0:T Value}{cops:List COp}{bef:List Nat}(hloc: ∀c∈cops,∀rho tm,Loc (BF c.guard rho (c.run call round rho tm))):Loc (EP call round tm0 cops bef):=⟨fun s o s' h hb=>by
 obtain⟨q,logs,s1,e,hA,rfl,rfl⟩:=MT h
 obtain⟨Rd,Wr,tm',es,q1,q2,_,q4,q5⟩:=Vr cops [] [] tm0 _ (.inl (q,logs)) s1 hloc rfl (Nat.zero_le _) e
 cases q1
 refine⟨Rd,Wr,rdsL s.lim logs [],wrsL s.lim logs [],⟨NZ _ _ _,M5 _ _ _,q2.nxt,rfl,Nat.le_trans hb q2.nxt,q2.rlt,q2.wlt,q2.old,fun t e1 e2 e3 e4=> ?_⟩,fun l e1 e2=> ?_,fun l e1 e2=> ?_⟩
 ·obtain⟨t',p1,p2,p3,p4,p5,p6,p7,p8⟩:=q2.any ⟨t.mem,t.next,0,[],[], .no⟩ e1 rfl rfl e4
  obtain⟨tm1,tn1,tl1,tr1,tw1,tc1⟩:=t'
  simp only at p2
  refine⟨⟨tm1,tn1,t.lim,rdsL t.lim logs t.rd,wrsL t.lim logs t.wr,t.cx⟩, ?_,p2,e2,e3,by rw[e2];exact NZ _ _ _,by rw[e2];exact M5 _ _ _,p7,p8⟩
  obtain⟨mem,next,lim,rd,wr,cx⟩:=t
  unfold EP
  simp only at p1 e1 ⊢
  rw[p1]
  simp only[rOf]
  rw[e1,hA]
 ·obtain⟨g,a,b⟩:=q4 l e1 (Nat.lt_of_lt_of_le e2 hb)
  exact SU e2 a b
 ·obtain⟨g,a,b⟩:=q5 l e1 (Nat.lt_of_lt_of_le e2 hb)
  exact TS e2 a b⟩
end
section
variable {E:Env}{call round:Ac}{w0 w:World}{r:Inj}{base:List Deferred×List Frame}
theorem Jx_ {af:AF}{fr:Frame}{cs:List Frame}{s s':St}{out:Out Step}{k:List Item}(h:begR af k s=rOf out s')(hF:FR E.P r af s.cx base fr cs)(hm:af.mode= .run)(htodo:af.todo= .beginRound::k)(hr:Rel w0 r s.mem w):
  ∃w' r',Goes w0 r s s' r' w'∧s'.lim=s.lim∧BT E.P r' base s'.cx fr (lone fr cs w) w' out:=by
 unfold begR at h
 cases hro:af.roundOf with
 |none=>rw[hro]at h;exact(AU h).elim
 |some l=>
  rw[hro]at h
  rcases BB h with⟨c,s1,e1,e2⟩|⟨c,e1,_⟩
  ·obtain⟨q1,q2⟩:=Ct e1
   have fin: ∃pe f n g tm ps as bd df,c= .O (.loop .ready pe f n g tm ps as bd df)∧M.bind (wrC l (.O (.loop .busy pe f n g tm ps as bd df))) (fun _=>goTo af k) s1=rOf out s':=by
    cases c with
    |C a b=>exact(AU e2).elim
    |O o=>
     cases o with
     |loop st pe f n g tm ps as bd df=>
      cases st with
      |ready=>exact⟨pe,f,n,g,tm,ps,as,bd,df,rfl,e2⟩
      |_=>exact(AU e2).elim
     |_=>exact(AU e2).elim
   obtain⟨pe,f,n,g,tm,ps,as,bd,df,rfl,e2⟩:=fin
   rcases BB e2 with⟨u,s2,e3,e4⟩|⟨c,e3,_⟩
   ·obtain⟨rfl,rfl⟩:=Bd ((Lb af k s2).symm.trans e4)
    obtain⟨b',d,o',g1,g2,g3⟩:=hr.obj _ _ q1 rfl
    have hro2:=hF.round
    rw[hro]at hro2
    cases hfr:fr.roundOf with
    |none=>rw[hfr]at hro2;exact hro2.elim
    |some l'=>
     rw[hfr]at hro2
     obtain⟨d',hro2⟩:=hro2
     rw[g1]at hro2
     cases hro2
     cases o' with
     |loop L=>
      obtain⟨k1,k2,k3,k4,k5,k6,k7,k8,k9⟩:=g3
      have hOR:OR r (.loop .busy pe f n g tm ps as bd df) (.loop {L with state:= .busy}):=⟨rfl,k2,k3,k4,k5,k6,k7,k8,k9⟩
      obtain⟨p1,p2,p3⟩:=FW e3 (by rw[q2.1];exact hr) (by rw[q2.1];exact q1) rfl g1 hOR rfl
      have hF':=hF.to k
      rw[←hm]at hF'
      refine⟨_,r,(Goes.same q2 hr).trans p1,p2.trans q2.2.2.1,frm fr fr.tmps fr.defers k,cs,rfl,by rw[p3,q2.2.2.2];exact hF', .one ?_⟩
      rw[hF.frm hm,htodo]
      refine step_lone_go ?_
      have hrun : (do ((frm fr fr.tmps fr.defers (.beginRound :: k)).roundOf).elim (stuck "beginRound: no round") Instr.beginRound; pure Next.skip : Sem Next).run E.P w = .ok .skip (World.setO w b' (.loop { L with state := .busy })) := by
       rw[show(frm fr fr.tmps fr.defers (.beginRound::k)).roundOf=some b' from hfr]
       simp only[Option.elim_some,Instr.beginRound,Sem.run_bind,Gy g2,Result.andThen_ok,LD g2,k1,Sem.run_pure]
      have e5:stepG E.P true {frame:=frm fr fr.tmps fr.defers (.beginRound::k),callers:=cs,status:= .running,dying:=none} w=
        stepG.apply E.P true (frm fr fr.tmps fr.defers (.beginRound :: k)) cs none (do ((frm fr fr.tmps fr.defers (.beginRound :: k)).roundOf).elim (stuck "beginRound: no round") Instr.beginRound; pure Next.skip) w := by
       simp[stepG,stepG.exec,frm]
      rw[e5]
      simp only[stepG.apply,Sem.runT_eq,hrun,GStep.bare_after]
      rfl
     |_=>exact g3.elim
   ·exact((B6 _ _).no _ _ _ e3).elim
  ·exact((Cz _).no _ _ _ e1).elim
theorem XX {af:AF}{fr:Frame}{cs:List Frame}{s s':St}{d:Nat}(h:dfsR af.roundOf s= .some d s')(hF:FR E.P r af s.cx base fr cs)(hr:Rel w0 r s.mem w)(hf:A8 r s.next s'.next):
  ∃w' r' b' mark,Goes w0 r s s' r' w'∧s'.lim=s.lim∧(∃o,r'.blk d=some (b',o))∧CxR r' base s'.cx fr (mark++fr.defers) cs∧
   (∀fn tm ps as bd,(Instr.enterLoop fn tm ps as bd fr.roundOf).run E.P w= .ok (w'.heap.size,mark) (w'.alloc (.loop {state:= .ready,pending:=none,fn,tmps:=tm,params:=ps,assign:=as,body:=bd,defers:=b'}))):=by
 unfold dfsR at h
 have hro2:=hF.round
 cases hro:af.roundOf with
 |none=>
  rw[hro]at h hro2
  have hfr:fr.roundOf=none:=by
   cases hx:fr.roundOf with
   |none=>rfl
   |some y=>rw[hx]at hro2;exact hro2.elim
  obtain⟨d1,s1,e1,e2⟩:=bind_some h
  have hn:s.next=s1.next-1∧s1.next=s.next+1:=by have:=(J8 e1).2.2.1;omega
  have e2':(match s1.cx with| .cx up (some dfs)=>M.bind (putCx (.cx up (some ({target:= .collected d1,args:= #[]}::dfs)))) fun _=>M.pure d1|_=>M.fail) s1= .some d s':=e2
  have hcx1:s1.cx=s.cx:=(J8 e1).2.2.2.2
  have hc:=hF.cx
  cases hcx:s1.cx with
  |no=>rw[hcx]at e2';cases e2'
  |cx up dd=>
   cases dd with
   |none=>rw[hcx]at e2';cases e2'
   |some dfs=>
    rw[hcx]at e2'
    have e3:R.some d1 ⟨s1.mem,s1.next,s1.lim,s1.rd,s1.wr, .cx up (some ({target:= .collected d1,args:= #[]}::dfs))⟩=R.some d s':=e2'
    cases e3
    obtain⟨k1,k2,k3,k4,k5⟩:=Ju (o':= .deferred (some [])) e1 hr hf rfl (by simp[OR])
    rw[←hcx1,hcx]at hc
    obtain⟨c1,c2,c3⟩:=hc
    refine⟨_,_,w.heap.size,[{target:= .collected w.heap.size,args:= #[]}],⟨k2.le,k2.nxt,k2.domB,k2.domE,k2.rel⟩,k4,⟨0,k3⟩, ?_, ?_⟩
    ·have h1:CxR (r.add s.next (w.heap.size,0)) base (.cx up (some dfs)) fr fr.defers cs:=CxR.mono k2.le (show CxR r base (.cx up (some dfs)) fr fr.defers cs from⟨c1,c2,c3⟩)
     exact⟨h1.1,h1.2.1, .cons (.coll k3) h1.2.2⟩
    ·intro fn tm ps as bd
     simp[Instr.enterLoop,hfr,newObj,Sem.run]
 |some l=>
  rw[hro]at h hro2
  obtain⟨c,s1,e1,e2⟩:=bind_some h
  obtain⟨q1,q2⟩:=Ct e1
  cases c with
  |C a b=>cases e2
  |O o=>
   cases o with
   |loop st pe f n g tm ps as bd df=>
    obtain⟨rfl,rfl⟩:=Al e2
    obtain⟨b',dd,o',g1,g2,g3⟩:=hr.obj _ _ q1 rfl
    cases hfr:fr.roundOf with
    |none=>rw[hfr]at hro2;exact hro2.elim
    |some l'=>
     rw[hfr]at hro2
     obtain⟨d',hro2⟩:=hro2
     rw[g1]at hro2
     cases hro2
     cases o' with
     |loop L=>
      obtain⟨k1,k2,k3,k4,k5,k6,k7,k8,k9⟩:=g3
      refine⟨w,r,L.defers,[], .same q2 hr,q2.2.2.1,k9,by rw[q2.2.2.2];exact hF.cx, ?_⟩
      intro fn tm ps as bd
      simp[Instr.enterLoop,Gy g2,newObj,Sem.run]
     |_=>exact g3.elim
   |_=>cases e2
theorem Vk (ro:Option Nat):Loc (dfsR ro):=by
 unfold dfsR
 cases ro with
 |none=>
  refine Ae (Fa _) fun d=>Ae GK fun cx=> ?_
  cases cx with
  |no=>exact Af
  |cx up dfs=>
   cases dfs with
   |none=>exact Af
   |some dfs=>exact Ae (JE _) fun _=>Ah _
 |some l=>
  refine Ae (Cm _) fun c=> ?_
  cases c with
  |C a b=>exact Af
  |O o=>cases o<;>first|exact Ah _|exact Af
theorem Ce (af:AF)(k:List Item):Loc (goTo af k):=Ah _
theorem PO (af:AF)(k:List Item)(tm:T Value):Loc (goTm af k tm):=Ah _
theorem Hk (af:AF)(m:FrameMode)(tm:T Value):Loc (goMo af m tm):=Ah _
theorem HK (af:AF)(k:List Item)(l:Nat):Loc (Kq af k l):=by
 unfold Kq
 refine Ae (Cm _) fun c=> ?_
 cases c with
 |C a b=>exact Af
 |O o=>cases o<;>first|exact Af|exact Ar _ (Ae (B1 _ _) fun _=>Ce _ _)
theorem Ka (c1:CallOK E call)(fv:Value)(l:Nat):Loc (I6 E call fv l):=by
 unfold I6
 split
 ·exact Ar _ (c1.loc _ _)
 ·exact Af
theorem Jg_ (ro:Option Nat):NoPan (dfsR ro):=by
 unfold dfsR
 cases ro with
 |none=>
  refine Ag (Kl _) fun d=>Ag JX_ fun cx=> ?_
  cases cx with
  |no=>exact Ap
  |cx up dfs=>
   cases dfs with
   |none=>exact Ap
   |some dfs=>exact Ag (Xp _) fun _=>An _
 |some l=>
  refine Ag (Cz _) fun c=> ?_
  cases c with
  |C a b=>exact Ap
  |O o=>cases o<;>first|exact An _|exact Ap
theorem Iz_ (c1:CallOK E call)(af:AF)(fv:Value)(ps:Array Nat)(as bd:Code)(k:List Item):Loc (Eg E call af fv ps as bd k):=
 Ae (Vk _) fun _=>Ae (Fa _) fun _=>Ae (EC (Ka c1 _ _)) fun _=>HK _ _ _
theorem W6 {α:Type}(m:M α):NoPan (noP m):=⟨fun s c s' h=>by
 unfold noP at h
 cases e:m s<;>rw[e]at h<;>cases h⟩
theorem LX_ (_he:EnvOK E)(c1:CallOK E call){af:AF}{fr:Frame}{cs:List Frame}{s s':St}{out:Out Step}{fo:Operand}{fv:Value}{ps:Array Nat}{as bd:Code}{k:List Item}
  (h:Eg E call af fv ps as bd k s=rOf out s') (hF:FR E.P r af s.cx base fr cs) (hm:af.mode= .run) (htodo:af.todo= .code (.rangeFunc fo ps as bd)::k) (hv:VR r fv (Act.eval ⟨fr.tmps,fr.defers⟩ fo)) (hr:Rel w0 r s.mem w) (hb:Bnd s) (hf:A8 r s.next s'.next):
  ∃w' r',Goes w0 r s s' r' w'∧s'.lim=s.lim∧BT E.P r' base s'.cx fr (lone fr cs w) w' out:=by
 unfold Eg at h
 rcases BB h with⟨d,s1,e1,e2⟩|⟨c,e1,_⟩
 case inr=>exact((Jg_ _).no _ _ _ e1).elim
 have L1:=(Vk af.roundOf).at' s (.inl d) s1 e1 hb
 have L2:=(Ae (Fa (.loop .ready none af.fn af.n af.glob af.tmps ps.toList as bd d)) fun l=>Ae (EC (Ka c1 fv l)) fun _=>HK af k l).at' s1 out s' e2 L1.bnd
 obtain⟨w1,r1,b',mark,g1,g2,⟨o1,g3⟩,g4,g5⟩:=XX e1 hF hr (fun b x y=>hf b x (Nat.lt_of_lt_of_le y L2.next))
 rcases BB e2 with⟨l,s2,e3,e4⟩|⟨c,e3,_⟩
 case inr=>exact((Kl _).no _ _ _ e3).elim
 have L3:=(Fa (.loop .ready none af.fn af.n af.glob af.tmps ps.toList as bd d)).at' s1 (.inl l) s2 e3 L1.bnd
 have L4:=(Ae (EC (Ka c1 fv l)) fun _=>HK af k l).at' s2 out s' e4 L3.bnd
 have hf1:=g1.fresh hf
 have hle2: ∀x,r1.le (r1.add s1.next x):=fun x=>Inj.add_le x (hf1 s1.next (Nat.le_refl _) (by have:=(J8 e3).2.2.1;have:=L4.next;omega)).1
 obtain⟨k1,k2,k3,k4,k5⟩:=Ju (o':= .loop {state:= .ready,pending:=none,fn:=fr.fn,tmps:=fr.tmps,params:=ps,assign:=as,body:=bd,defers:=b'}) e3 g1.rel (fun b x y=>hf1 b x (Nat.lt_of_lt_of_le y L4.next)) rfl
  ⟨rfl,rfl,hF.fn,hF.size,hF.tm.mono g1.le,rfl,rfl,rfl,o1,g3⟩
 rcases BB e4 with⟨v,s3,e5,e6⟩|⟨c,e5,_⟩
 case inr=>exact((W6 _).no _ _ _ e5).elim
 have L5:=(EC (Ka c1 fv l)).at' s2 (.inl v) s3 e5 L3.bnd
 have L6:=(HK af k l).at' s3 out s' e6 L5.bnd
 obtain⟨v0,q0,e5⟩:=Jq (o:= .inl v) e5
 cases q0
 have hf2:=k2.fresh hf1
 have fin: ∃f first cap,fv= .func (.func f) first cap∧E.ext.get f=none∧call f (first.toList++(.func (.yield l) #[] #[]::cap.toList)) s2= .some v s3:=by
  unfold I6 at e5
  split at e5
  ·rename_i f first cap _
   cases hn:E.ext.get f with
   |none=>rw[hn]at e5;exact⟨_,_,_,rfl,hn,e5⟩
   |some m=>rw[hn]at e5;cases e5
  ·cases e5
 obtain⟨f,first,cap,rfl,hnx,e5⟩:=fin
 obtain⟨f',a',c',q1,q2,q3,q4⟩:=hv.func_inv
 cases f' with
 |func f'=>
  simp only[FnR]at q2
  subst q2
  have hle:=Inj.le_trans g1.le k2.le
  have hyield:VR (r1.add s1.next (w1.heap.size,0)) (.func (.yield l) #[] #[]) (.func (.yield w1.heap.size) #[] #[]):= .func ⟨0,k3⟩ rfl (fun i v v' e=>by simp at e) rfl (fun i v v' e=>by simp at e)
  obtain⟨p1,p2⟩:=(c1.ok (out:= .inl v) e5 k2.rel L3.bnd (fun b x y=>hf2 b x (Nat.lt_of_lt_of_le y L6.next)) (args':=a'.toList++(.func (.yield w1.heap.size) #[] #[]::c'.toList)) ((q3.mono hle).append (.cons hyield (q4.mono hle)))).resolve_right fun x=>x.1 hnx
  obtain⟨w3,r3,p3,p4,p5,v',p6,p7⟩:=p2 (frm fr fr.tmps (mark++fr.defers) (.inRangeFunc w1.heap.size::k)) cs
  have hstart:step E.P (lone fr cs w)= .next (lone (Frame.enter E.P f (a'.toList++(.func (.yield w1.heap.size) #[] #[]::c'.toList)).toArray .normal) (frm fr fr.tmps (mark++fr.defers) (.inRangeFunc w1.heap.size::k)::cs)
    (w1.alloc (.loop {state:= .ready,pending:=none,fn:=fr.fn,tmps:=fr.tmps,params:=ps,assign:=as,body:=bd,defers:=b'}))):=by
   rw[hF.frm hm,htodo]
   refine step_lone_go ?_
   have hrun:=g5 fr.fn fr.tmps ps as bd
   have hev:(frm fr fr.tmps (mark++fr.defers) (.inRangeFunc w1.heap.size::k)).eval fo= .func (.func f) a' c':=by
    rw[Me]
    rw[←q1]
    cases fo<;>rfl
   have hinv: ∀w,(do let d ←resolve (frm fr fr.tmps (mark++fr.defers) (.inRangeFunc w1.heap.size::k)).eval {callee:= .value fo,args:= #[.const (.func (.yield w1.heap.size) #[] #[])],argTypes:= #[]} 0;invoke d.target d.args:Sem Next).run E.P w=
     .ok (.enter f (a'.toList++(.func (.yield w1.heap.size) #[] #[]::c'.toList)).toArray) w:=by
    intro w
    rw[G5 _ rfl hev]
    have e1:(a'++Array.map (frm fr fr.tmps (mark++fr.defers) (.inRangeFunc w1.heap.size::k)).eval #[.const (.func (.yield w1.heap.size) #[] #[])]++c')=(a'.toList++(.func (.yield w1.heap.size) #[] #[]::c'.toList)).toArray:=by
     apply Array.toList_inj.1
     simp[Frame.eval]
    simp only[Sem.run_bind,Sem.run_pure,Result.andThen_ok,invoke,e1,p1]
   have e5:(stepG E.P true {frame:=frm fr fr.tmps fr.defers (.code (.rangeFunc fo ps as bd)::k),callers:=cs,status:= .running,dying:=none} w).bare=
     (stepG.apply E.P true (frm fr fr.tmps (mark++fr.defers) (.inRangeFunc w1.heap.size::k)) cs none (do let d ←resolve (frm fr fr.tmps (mark++fr.defers) (.inRangeFunc w1.heap.size::k)).eval {callee:= .value fo,args:= #[.const (.func (.yield w1.heap.size) #[] #[])],argTypes:= #[]} 0;invoke d.target d.args)
      (w1.alloc (.loop {state:= .ready,pending:=none,fn:=fr.fn,tmps:=fr.tmps,params:=ps,assign:=as,body:=bd,defers:=b'}))).bare:=by
    have hro:(frm fr fr.tmps fr.defers (.code (.rangeFunc fo ps as bd)::k)).roundOf=fr.roundOf:=rfl
    simp only[stepG,stepG.exec,frm,Sem.runT_eq,hrun,GStep.bare_after]
   rw[e5]
   simp only[stepG.apply,Sem.runT_eq,hinv,GStep.bare_after]
   rfl
  have e6':=e6
  unfold Kq at e6
  rcases BB e6 with⟨c,s4,e7,e8⟩|⟨c,e7,_⟩
  case inr=>exact((Cz _).no _ _ _ e7).elim
  obtain⟨z1,z2⟩:=Ct e7
  have fin2: ∃st pe f n g tm ps as bd df,c= .O (.loop st pe f n g tm ps as bd df)∧st≠ .busy∧M.bind (wrC l (.O (.loop .exhausted pe f n g tm ps as bd df))) (fun _=>goTo af (GN pe++k)) s4=rOf out s':=by
   cases c with
   |C a b=>exact(AU e8).elim
   |O o=>
    cases o with
    |loop st pe f n g tm ps as bd df=>
     cases st with
     |busy=>exact(AU e8).elim
     |ready=>exact⟨_,_,_,_,_,_,_,_,_,_,rfl,(by intro h;cases h),e8⟩
     |done=>exact⟨_,_,_,_,_,_,_,_,_,_,rfl,(by intro h;cases h),e8⟩
     |exhausted=>exact⟨_,_,_,_,_,_,_,_,_,_,rfl,(by intro h;cases h),e8⟩
    |_=>exact(AU e8).elim
  obtain⟨st,pe,lf,ln,lg,ltm,lps,las,lbd,ldf,rfl,hst,e8⟩:=fin2
  rcases BB e8 with⟨u,s5,e9,e10⟩|⟨c,e9,_⟩
  case inr=>exact((B6 _ _).no _ _ _ e9).elim
  obtain⟨rfl,rfl⟩:=Bd ((Lb af _ s5).symm.trans e10)
  obtain⟨lb,ld,lo,y1,y2,y3⟩:=p3.rel.obj _ _ z1 rfl
  have hlb:r3.blk l=some (w1.heap.size,0):=p3.le.1 _ _ k3
  rw[hlb]at y1
  cases y1
  cases lo with
  |loop LL=>
   obtain⟨j1,j2,j3,j4,j5,j6,j7,j8,j9⟩:=y3
   have hOR:OR r3 (.loop .exhausted pe lf ln lg ltm lps las lbd ldf) (.loop {LL with state:= .exhausted}):=⟨rfl,j2,j3,j4,j5,j6,j7,j8,j9⟩
   obtain⟨x1,x2,x3⟩:=FW e9 (by rw[z2.1];exact p3.rel) (by rw[z2.1];exact z1) rfl hlb hOR rfl
   have hgo:Goes w0 r s s' r3 (World.setO w3 w1.heap.size (.loop {LL with state:= .exhausted})):=g1.trans (k2.trans (p3.trans ((Goes.same z2 p3.rel).trans x1)))
   refine⟨_,r3,hgo,x2.trans (z2.2.2.1.trans (p4.trans (k4.trans g2))),frm fr fr.tmps (mark++fr.defers) (GN pe++k),cs,rfl, ?_, ?_⟩
   ·refine⟨hF.fn,hF.size,hF.tm.mono hgo.le,fun _=>rfl,by rw[show({af with todo:=GN pe++k}:AF).mode= .run from hm];exact .run,hF.round.mono hgo.le,hF.rk,hF.known, ?_⟩
    rw[x3,z2.2.2.2,p5,k5]
    exact g4.mono (Inj.le_trans k2.le p3.le)
   ·refine .head hstart (p7.trans (.one ?_))
    refine step_lone_go ?_
    have hrun:(Instr.endLoop w1.heap.size).run E.P w3= .ok pe (World.setO w3 w1.heap.size (.loop {LL with state:= .exhausted})):=by
     have hb:(LL.state==LoopState.busy)=false:=by
      rw[j1]
      cases st<;>first|rfl|exact absurd rfl hst
     simp only[Instr.endLoop,Sem.run_bind,Gy y2,Result.andThen_ok,hb,Bool.false_eq_true,if_false,LD y2,Sem.run_pure,j2]
    have hfin:(frm fr fr.tmps (mark++fr.defers) (.inRangeFunc w1.heap.size::k)).finish v'=frm fr fr.tmps (mark++fr.defers) (.endRangeFunc w1.heap.size::k):=rfl
    rw[hfin]
    have hpend:(pe.map Item.code).toList++k=GN pe++k:=by cases pe<;>rfl
    simp only[stepG,stepG.exec,frm,Sem.runT_eq,hrun,GStep.bare_after,hpend]
    rfl
  |_=>exact y3.elim
 |_=>simp only[FnR]at q2
end
end Go.Proofs.Ytjfhmacppabehaa.Am
end
