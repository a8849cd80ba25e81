import Derived.Test.YtheboekhpelhlaaDSb01
import Derived.Laws.Tables
import Derived.ChangeMaps3
import Derived.Laws.MakeOwn
import Derived.Laws.BitsLemmas
import Derived.Laws.Bits64
import Derived.Laws.BytesArg
import Derived.Laws.AppendOwn
namespace Go.Proofs.Ytheboekhpelhlaa
open Am in
theorem Y{p:Prop}(h:p:=by simp[Am.T.get_set]):p:=h
theorem an{p q:Prop}(g:q)(h:q->p:=by intro g;simp[Am.T.get_set,g]):p:=h g
end Go.Proofs.Ytheboekhpelhlaa
namespace Go.Proofs.Ytheboekhpelhlaa.Am
open Go.RowKit
def AR (r:Inj)(a a':Addr):Prop:= ∃b o b' d,a=⟨b,o,none⟩/\a'=⟨b',o+d,none⟩/\r.blk b=some (b',d)
theorem AR.ptr {r:Inj}{a a':Addr}(k:AR r a a'):VR r (.pointer (some a)) (.pointer (some a')):=by obtain⟨b,o,b',d,rfl,rfl,h3⟩:=k;exact .ptr h3
theorem VR.ptr_inv {r:Inj}{a:Addr}{v':Value}(h:VR r (.pointer (some a)) v'): ∃a',v'= .pointer (some a')/\AR r a a':=by
 cases h with
 |ptr e=>exact⟨_,rfl,_,_,_,_,rfl,rfl,e⟩
theorem DN (b o n:Nat):(⟨b,o,none⟩:Addr).add n=⟨b,o+n,none⟩:=by
 unfold Addr.add
 split
 ·rename_i h;rw[h];rfl
 ·rfl
theorem AR.add {r:Inj}{a a':Addr}(k:AR r a a')(n:Nat):AR r (addA a n) (a'.add n):=by
 obtain⟨b,o,b',d,rfl,rfl,h3⟩:=k
 exact⟨b,o+n,b',d,rfl,by rw[DN];congr 1;omega,h3⟩
def Same (s s':St):Prop:=s'.mem=s.mem/\s'.next=s.next/\s'.lim=s.lim/\s'.cx=s.cx
theorem Same.refl (s:St):Same s s:=⟨rfl,rfl,rfl,rfl⟩
theorem Same.trans {a b c:St}(h:Same a b)(k:Same b c):Same a c:=⟨k.1.trans h.1,k.2.1.trans h.2.1,k.2.2.1.trans h.2.2.1,k.2.2.2.trans h.2.2.2⟩
theorem DW {loc:Nat}{s s':St}{c:Cell}(h:rdC loc s= .some c s'):T.get s.mem loc=some c/\Same s s':=by
 obtain⟨mem,next,lim,rd,wr,cx⟩:=s
 unfold rdC at h
 simp only at h
 cases hb:Nat.blt loc next with
 |false=>rw[hb]at h;cases h
 |true=>
  rw[hb]at h
  cases e:T.get mem loc with
  |none=>rw[e]at h;cases h
  |some c1=>rw[e]at h;cases h;exact⟨rfl,rfl,rfl,rfl,rfl⟩
theorem Gd {loc:Nat}{c:Cell}{s s':St}{u:Unit}(h:wrC loc c s= .some u s'):s'.mem=T.set s.mem loc c/\s'.next=s.next/\s'.lim=s.lim/\s'.cx=s.cx:=by
 obtain⟨mem,next,lim,rd,wr,cx⟩:=s
 unfold wrC at h
 obtain⟨v,l,r,e⟩:=aZ mem loc c
 simp only[e]at h
 cases hb:Nat.blt loc next with
 |false=>rw[hb]at h;cases h
 |true=>rw[hb]at h;cases h;exact⟨e.symm,rfl,rfl,rfl⟩
theorem AgB_ {loc:Nat}{s s':St}{u:Unit}(h:delC loc s= .some u s'):s'.mem=aY s.mem loc/\s'.next=s.next/\s'.lim=s.lim/\s'.cx=s.cx:=by
 obtain⟨mem,next,lim,rd,wr,cx⟩:=s
 unfold delC at h
 simp only at h
 cases hb:Nat.blt loc next with
 |false=>rw[hb]at h;cases h
 |true=>rw[hb]at h;cases h;exact⟨rfl,rfl,rfl,rfl⟩
theorem Adr_ {b:Nat}{c:Cell}{v:Value}(h:RI b c=some v):c= .C b v\/c= .O (.old b v):=by
 cases c with
 |C blk x=>
  unfold RI at h
  simp only at h
  cases e:Nat.beq blk b with
  |false=>rw[e]at h;cases h
  |true=>rw[e]at h;cases h;rw[Nat.eq_of_beq_eq_true e];exact .inl rfl
 |O o=>
  have h':oldV b o=some v:=h
  unfold oldV at h'
  split at h'
  ·rename_i blk x
   cases e:Nat.beq blk b with
   |false=>rw[e]at h';cases h'
   |true=>rw[e]at h';cases h';rw[Nat.eq_of_beq_eq_true e];exact .inr rfl
  ·cases h'
theorem YV {a:Addr}{s s':St}{v:Value}(h:rdV a s= .some v s'):a.spot=none/\(T.get s.mem (a.block+a.off)=some (.C a.block v)\/T.get s.mem (a.block+a.off)=some (.O (.old a.block v)))/\Same s s':=by
 obtain⟨b,o,sp⟩:=a
 cases sp with
 |some x=>cases h
 |none=>
  obtain⟨c,s1,h1,h2⟩:=bind_some h
  obtain⟨h3,h4⟩:=DW h1
  obtain⟨h5,rfl⟩:=DR h2
  refine⟨rfl, ?_,h4⟩
  rcases Adr_ h5 with q|q
  ·rw[q]at h3;exact .inl h3
  ·rw[q]at h3;exact .inr h3
theorem AeZ_ {a:Addr}{v:Value}{s s':St}{u:Unit}(h:wrV a v s= .some u s'):
  a.spot=none/\(∃x,T.get s.mem (a.block+a.off)=some (.C a.block x))/\oneCell v=true/\s'.mem=T.set s.mem (a.block+a.off) (.C a.block v)/\s'.next=s.next/\s'.lim=s.lim/\s'.cx=s.cx:=by
 obtain⟨b,o,sp⟩:=a
 cases sp with
 |some x=>cases h
 |none=>
  obtain⟨c,s1,h1,h2⟩:=bind_some h
  obtain⟨h3,h4⟩:=DW h1
  obtain⟨h5,h6⟩:=AV h2
  obtain⟨h7,h8,h9,h10⟩:=Gd h6
  rw[Bool.and_eq_true]at h5
  refine⟨rfl, ?_,h5.2,by rw[h7,h4.1];rfl,h8.trans h4.2.1,h9.trans h4.2.2.1,h10.trans h4.2.2.2⟩
  cases c with
  |C blk x=>
   have:blk=b:=Nat.eq_of_beq_eq_true h5.1
   rw[this]at h3
   exact⟨x,h3⟩
  |O o=>cases h5.1
structure Goes (w0:World)(r:Inj)(s s':St)(r':Inj)(w':World):Prop where
 le:r.le r'
 nxt:s.next<=s'.next
 domB: ∀b,r'.blk b≠none->r.blk b≠none\/(s.next<=b/\b<s'.next)
 domE: ∀b,r'.ext b≠none->r.ext b≠none\/(s.next<=b/\b<s'.next)
 rel:Rel w0 r' s'.mem w'
def AK (r:Inj)(lo hi:Nat):Prop:= ∀b,lo<=b->b<hi->r.blk b=none/\r.ext b=none
theorem Goes.fresh {w0:World}{r r':Inj}{s s':St}{w':World}{hi:Nat}(h:Goes w0 r s s' r' w')(k:AK r s.next hi):AK r' s'.next hi:=by
 intro b h1 h2
 have h3:=k b (Nat.le_trans h.nxt h1) h2
 constructor
 ·cases e:r'.blk b with
  |none=>rfl
  |some x=>
   rcases h.domB b (by rw[e];simp)with h4|h4
   ·exact absurd h3.1 h4
   ·omega
 ·cases e:r'.ext b with
  |none=>rfl
  |some x=>
   rcases h.domE b (by rw[e];simp)with h4|h4
   ·exact absurd h3.2 h4
   ·omega
theorem Goes.trans {w0:World}{r r1 r2:Inj}{s s1 s2:St}{w1 w2:World}(h:Goes w0 r s s1 r1 w1)(k:Goes w0 r1 s1 s2 r2 w2):Goes w0 r s s2 r2 w2:=by
 refine⟨Inj.le_trans h.le k.le,Nat.le_trans h.nxt k.nxt,λb hb=> ?_,λb hb=> ?_,k.rel⟩
 ·rcases k.domB b hb with h1|h1
  ·rcases h.domB b h1 with h2|h2
   ·exact .inl h2
   ·exact .inr ⟨h2.1,Nat.lt_of_lt_of_le h2.2 k.nxt⟩
  ·exact .inr ⟨Nat.le_trans h.nxt h1.1,h1.2⟩
 ·rcases k.domE b hb with h1|h1
  ·rcases h.domE b h1 with h2|h2
   ·exact .inl h2
   ·exact .inr ⟨h2.1,Nat.lt_of_lt_of_le h2.2 k.nxt⟩
  ·exact .inr ⟨Nat.le_trans h.nxt h1.1,h1.2⟩
theorem Goes.of_rel {w0:World}{r:Inj}{s s':St}{w':World}(hn:s'.next=s.next)(h:Rel w0 r s'.mem w'):Goes w0 r s s' r w':=
 ⟨Inj.le_refl r,Nat.le_of_eq hn.symm,λ_ h=> .inl h,λ_ h=> .inl h,h⟩
theorem Goes.same {w0:World}{r:Inj}{s s':St}{w:World}(hs:Same s s')(h:Rel w0 r s.mem w):Goes w0 r s s' r w:= .of_rel hs.2.1 (by rw[hs.1];exact h)
section
variable {P:Program}{w0 w:World}{r:Inj}
theorem Aiu_ {a:Addr}{v:Value}(h:w.cell? a=some v):(load a).run P w= .ok v w:=by simp[load,Sem.run,h]
theorem AoS_ {a:Addr}{v u:Value}(h:w.cell? a=some u)(hf:w.frozen? a=false)(ho:oneCell v=true):(store a v).run P w= .ok () (w.setCell a v):=by
 cases v<;>simp[oneCell]at ho<;>simp[store,Sem.run,h,hf]
theorem VR.oneCell {v v':Value}(h:VR r v v'):oneCell v'=oneCell v:=by cases h<;>first|rfl|exact TopR.one (by assumption)
theorem Ei {a a':Addr}{s s':St}{v:Value}(h:rdV a s= .some v s')(hr:Rel w0 r s.mem w)(ha:AR r a a'):
  ∃v',w.cell? a'=some v'/\VR r v v'/\Same s s':=by
 obtain⟨b,o,b',d,rfl,rfl,h3⟩:=ha
 obtain⟨_,h1,h2⟩:=YV h
 rcases h1 with h1|h1
 ·obtain⟨v',g1,g2,_⟩:=hr.load h1 h3
  exact⟨v',g1,g2,h2⟩
 ·obtain⟨v',g1,g2⟩:=hr.loadOld h1 h3
  exact⟨v',g1,g2,h2⟩
theorem RK_ {a a':Addr}{s s':St}{v v':Value}{u:Unit}(h:wrV a v s= .some u s')(hr:Rel w0 r s.mem w)(ha:AR r a a')(hv:VR r v v'):
  (store a' v').run P w= .ok () (w.setCell a' v')/\Rel w0 r s'.mem (w.setCell a' v')/\s'.next=s.next/\s'.lim=s.lim/\s'.cx=s.cx/\(w.cell? a').isSome=true/\w.frozen? a'=false:=by
 obtain⟨b,o,b',d,rfl,rfl,h3⟩:=ha
 obtain⟨_,⟨x,h1⟩,h2,h4,h5,h6,h7⟩:=AeZ_ h
 obtain⟨x',g1,g2,g3⟩:=hr.load h1 h3
 refine⟨AoS_ g1 g3 (by rw[hv.oneCell];exact h2), ?_,h5,h6,h7,by rw[g1];rfl,g3⟩
 rw[h4]
 exact hr.store h1 h3 hv
theorem DS: ∀(n:Nat) {a a':Addr} {s s':St} {l:List Value},rdL n a s= .some l s'->Rel w0 r s.mem w->AR r a a'->
  ∃l':List Value,l'.length=n/\(∀(j:Nat) v,l'[j]?=some v->w.cell? (a'.add j)=some v)/\VRs r l l'/\Same s s'
 |0,a,a',s,s',l,h,hr,ha=>by
  obtain⟨rfl,rfl⟩:=Af h
  exact⟨[],rfl,λj v e=>by simp at e, .nil, .refl _⟩
 |n+1,a,a',s,s',l,h,hr,ha=>by
  have h0:rdL (n+1) a=fA a λa=>M.bind (rdV a) λv=>M.bind (rdL n ⟨a.block,Nat.succ a.off,a.spot⟩) λl=>M.pure (v::l):=rfl
  rw[h0,CH]at h
  obtain⟨v,s1,h1,h2⟩:=bind_some h
  obtain⟨l1,s2,h3,h4⟩:=bind_some h2
  obtain⟨rfl,rfl⟩:=Af h4
  obtain⟨v',g1,g2,g3⟩:=Ei h1 hr ha
  have ha1:AR r (addA a 1) (a'.add 1):=ha.add 1
  obtain⟨l',q1,q2,q3,q4⟩:=DS n (a:=addA a 1) (a':=a'.add 1) h3 (by rw[g3.1];exact hr) ha1
  refine⟨v'::l',by simp[q1], ?_, .cons g2 q3,g3.trans q4⟩
  intro j x e
  obtain⟨b,o,b',d,rfl,rfl,e3⟩:=ha
  cases j with
  |zero=>simp at e;subst e;rw[DN];exact g1
  |succ j=>
   have:=q2 j x (by simpa using e)
   rw[DN,DN]at this
   rw[DN,show o+d+(j+1)=o+d+1+j by omega]
   exact this
end
theorem Iy {P:Program}{w0:World}{r:Inj}: ∀(l l':List Value) {w:World} {a a':Addr} {s s':St} {u:Unit} (i:Nat),wrL l a s= .some u s'->Rel w0 r s.mem w->AR r a (a'.add i)->VRs r l l'->
  ∃w',(storeCells a' l' i).run P w= .ok () w'/\Rel w0 r s'.mem w'/\s'.next=s.next/\s'.lim=s.lim/\s'.cx=s.cx
 |[],l',w,a,a',s,s',u,i,h,hr,ha,hv=>by
  obtain⟨_,rfl⟩:=Af h
  rw[hv.inv_nil]
  exact⟨w,rfl,hr,rfl,rfl,rfl⟩
 |v::l,m,w,a,a',s,s',u,i,h,hr,ha,hv=>by
  obtain⟨v',l',rfl,hv1,hv2⟩:=hv.inv
  have h0:wrL (v::l) a=fA a λa=>M.bind (wrV a v) λ_=>wrL l ⟨a.block,Nat.succ a.off,a.spot⟩:=rfl
  rw[h0,CH]at h
  obtain⟨u1,s1,h1,h2⟩:=bind_some h
  obtain⟨g1,g2,g3,g4,g5,_⟩:=RK_ (P:=P) h1 hr ha hv1
  have ha1:AR r (addA a 1) (a'.add (i+1)):=by
   have:=ha.add 1
   have e:(a'.add i).add 1=a'.add (i+1):=by
    obtain⟨b,o,b',d,_,e2,_⟩:=ha
    by_cases hi:i=0
    ·subst hi
     unfold Addr.add
     simp
    ·unfold Addr.add at e2 ⊢
     rw[if_neg hi]at e2 ⊢
     simp at e2 ⊢
     omega
   rw[e]at this
   exact this
  obtain⟨w',q1,q2,q3,q4,q5⟩:=Iy (P:=P) l l' (i+1) (a:=addA a 1) h2 g2 ha1 hv2
  refine⟨w', ?_,q2,q3.trans g3,q4.trans g4,q5.trans g5⟩
  simp only[storeCells,Sem.run_bind,g1,Result.andThen_ok,q1]
theorem FA (b:Nat): ∀(vs:List Value) (loc:Nat) (t:T Cell) (k:Nat) (x:Cell),T.get (layL b vs loc t) k=some x->
  (∃i v,k=loc+i/\vs[i]?=some v/\x= .C b v)\/T.get t k=some x
 |[],_,_,_,_,h=> .inr h
 |v::vs,loc,t,k,x,h=>by
  have h0:layL b (v::vs) loc t=fN loc λloc=>layL b vs (Nat.succ loc) (T.set t loc (.C b v)):=rfl
  rw[h0,Ar]at h
  rcases FA b vs _ _ _ _ h with⟨i,y,h1,h2,h3⟩|h1
  ·exact .inl ⟨i+1,y,J,by simpa using h2,h3⟩
  ·rw[T.get_set]at h1
   split at h1
   ·rename_i hk
    cases h1
    exact .inl ⟨0,v,J,am,rfl⟩
   ·exact .inr h1
theorem IC {vs:List Value}{s s':St}{b:Nat}(h:newL vs s= .some b s'):b=s.next/\s'.mem=layL s.next vs s.next s.mem/\s'.next=s.next+vs.length+1/\s'.lim=s.lim/\s'.cx=s.cx:=by
 obtain⟨mem,next,lim,rd,wr,cx⟩:=s
 have h0:newL vs ⟨mem,next,lim,rd,wr,cx⟩=fN next λb=>fN (Nat.succ (Nat.add b vs.length)) λn=>R.some b (St.mk (layL b vs b mem) n lim rd wr cx):=rfl
 rw[h0,Ar,Ar]at h
 cases h
 exact⟨rfl,rfl,rfl,rfl,rfl⟩
theorem AgM_ {o:AObj}{s s':St}{b:Nat}(h:newO o s= .some b s'):b=s.next/\s'.mem=T.set s.mem s.next (.O o)/\s'.next=s.next+1/\s'.lim=s.lim/\s'.cx=s.cx:=by
 obtain⟨mem,next,lim,rd,wr,cx⟩:=s
 have h0:newO o ⟨mem,next,lim,rd,wr,cx⟩=fN next λb=>fN (Nat.succ b) λn=>R.some b (St.mk (T.set mem b (.O o)) n lim rd wr cx):=rfl
 rw[h0,Ar,Ar]at h
 cases h
 exact⟨rfl,rfl,rfl,rfl,rfl⟩
theorem Goes.add {w0:World}{r:Inj}{s s':St}{w':World}{x:Nat×Nat}(hb:r.blk s.next=none)(hn:s.next<s'.next)(h:Rel w0 (r.add s.next x) s'.mem w'):Goes w0 r s s' (r.add s.next x) w':=by
 refine⟨bB x hb,Nat.le_of_lt hn,λb hb'=> ?_,λ_ h=> .inl h,h⟩
 by_cases e:b=s.next
 ·exact .inr ⟨Nat.le_of_eq e.symm,by rw[e];exact hn⟩
 ·rw[aF _ e]at hb';exact .inl hb'
theorem HA {w0 w:World}{r:Inj}{vs vs':List Value}{s s':St}{b:Nat}(h:newL vs s= .some b s')(hr:Rel w0 r s.mem w)(hf:AK r s.next s'.next)(hv:VRs r vs vs'){c:Array Value}(e:TypeId)
  (hc: ∀(i:Nat) (v:Value),vs'[i]?=some v->c[i]?=some v):
  b=s.next/\Goes w0 r s s' (r.add s.next (w.heap.size,0)) (w.alloc (.cells c e))/\AR (r.add s.next (w.heap.size,0)) ⟨s.next,0,none⟩ ⟨w.heap.size,0,none⟩/\s'.lim=s.lim/\s'.cx=s.cx:=by
 obtain⟨h1,h2,h3,h4,h5⟩:=IC h
 have hb:=(hf s.next (Nat.le_refl _) J).1
 refine⟨h1,Goes.add hb J ?_,⟨s.next,0,w.heap.size,0,rfl,rfl,aE _ _ _⟩,h4,h5⟩
 rw[h2]
 exact hr.newCells hb hv e hc (FA _ _ _ _)
def aggD:TypeDesc->Bool
 | .struct _| .array _ _=>true
 |_=>false
def aggV:Value->Bool
 | .agg _=>true
 |_=>false
structure TyOK (P:Program)(t:Nat)(i:TI):Prop where
 info: ∃n,P.info? t=some n/\n.size=i.size/\n.bytes=i.bytes/\ ∃z,n.zero=some z/\z.cells.toList=i.zero
 und:P.underlying t=some i.u
 agg:i.agg=aggD i.u
 len:i.zero.length=i.size
 pl: ∀v∈i.zero,plain v=true
 zagg: ∀n z,P.info? t=some n->n.zero=some z->aggV z=i.agg
structure EnvTy (E:Env):Prop where
 ok: ∀t i,E.ty.get t=some i->TyOK E.P t i
 flds: ∀t i fs,E.ty.get t=some i->i.u= .struct fs-> ∀f∈fs,∃fi,E.ty.get f.type=some fi
section
variable {E:Env}{w0 w:World}{r:Inj}
theorem AE {t:Nat}{i:TI}{s s':St}(h:ti E t s= .some i s')(he:EnvTy E):TyOK E.P t i/\s=s':=by
 obtain⟨h1,h2⟩:=DR h
 exact⟨he.ok t i h1,h2⟩
variable {P:Program}{t:Nat}{i:TI}
theorem TyOK.run_und (h:TyOK P t i):(underlying t).run P w= .ok i.u w:=by simp[underlying,program,Sem.run,h.und]
theorem TyOK.run_size (h:TyOK P t i):(sizeOf t).run P w= .ok i.size w:=by
 obtain⟨n,h1,h2,_⟩:=h.info
 simp[sizeOf,typeInfo,program,Sem.run,h1,h2]
theorem TyOK.run_zero (h:TyOK P t i): ∃z,(zeroValue t).run P w= .ok z w/\z.cells.toList=i.zero:=by
 obtain⟨n,h1,h2,h3,z,h4,h5⟩:=h.info
 exact⟨z,by simp[zeroValue,typeInfo,program,Sem.run,h1,h4],h5⟩
theorem TyOK.run_agg (h:TyOK P t i):(isAgg t).run P w= .ok i.agg w:=by
 rw[h.agg]
 simp only[isAgg,Sem.run_bind,h.run_und,Result.andThen_ok]
 cases i.u<;>rfl
theorem Ej {l:List Value}(h: ∀v∈l,plain v=true):VRs r l l:=⟨rfl,λi v v' e e'=>by
 rw[e]at e';cases e'
 exact VR.of_plain (h v (List.mem_of_getElem? e))⟩
theorem VR.cells {v v':Value}(h:VR r v v'):VRs r (cellsOf v) v'.cells.toList:=by
 cases h with
 |agg h1 h2=>exact a8 h1 h2
 |bool b=>exact .cons (.bool b) .nil
 |int k n=>exact .cons (.int k n) .nil
 |float k n=>exact .cons (.float k n) .nil
 | @complex k a b v' h=>
  have:v'.cells.toList=[v']:=by cases v'<;>first|rfl|(have h1:=TopR.one h;simp[Am.oneCell]at h1)
  rw[this]
  exact .cons (.complex h) .nil
 |string s=>exact .cons (.string s) .nil
 |ptrNil=>exact .cons .ptrNil .nil
 |ptr e=>exact .cons (.ptr e) .nil
 |slNil=>exact .cons .slNil .nil
 |sl e c l=>exact .cons (.sl e c l) .nil
 |slEnd a b=>exact .cons (.slEnd a b) .nil
 |mapNil=>exact .cons .mapNil .nil
 |map e=>exact .cons (.map e) .nil
 |chanNil=>exact .cons .chanNil .nil
 |iter e=>exact .cons (.iter e) .nil
 |func a b c d e=>exact .cons (.func a b c d e) .nil
 |nilFunc=>exact .cons .nilFunc .nil
 |iface a=>exact .cons (.iface a) .nil
 |nilIface=>exact .cons .nilIface .nil
 |tuple a b=>exact .cons (.tuple a b) .nil
theorem BG_ {a a':Addr}{s s':St}{v:Value}(he:EnvTy E)(h:F7 E t a s= .some v s')(hr:Rel w0 r s.mem w)(ha:AR r a a'):
  ∃v',(loadVar t a').run E.P w= .ok v' w/\VR r v v'/\Same s s':=by
 obtain⟨i,s1,h1,h2⟩:=bind_some h
 obtain⟨hi,rfl⟩:=AE h1 he
 rw[DO]at h2
 simp only[loadVar,Sem.run_bind,hi.run_agg,Result.andThen_ok]
 by_cases hg:i.agg=true
 ·rw[if_pos hg]at h2
  obtain⟨l,s2,h3,h4⟩:=bind_some h2
  obtain⟨rfl,rfl⟩:=Af h4
  obtain⟨l',g1,g2,g3,g4⟩:=DS _ h3 hr ha
  refine⟨.agg l'.toArray, ?_,g3.agg,g4⟩
  have:=run_loadCells_list (P:=E.P) w a' l' g2
  rw[g1]at this
  simp[hg,hi.run_size,this]
 ·rw[if_neg hg]at h2
  obtain⟨v',g1,g2,g3⟩:=Ei h2 hr ha
  exact⟨v',by simp[hg,Aiu_ g1],g2,g3⟩
theorem Ajl_ {a a':Addr}{s s':St}{v v':Value}{u:Unit}(he:EnvTy E)(h:Hv E t a v s= .some u s')(hr:Rel w0 r s.mem w)(ha:AR r a a')(hv:VR r v v'):
  ∃w',(storeVar t a' v').run E.P w= .ok () w'/\Rel w0 r s'.mem w'/\s'.next=s.next/\s'.lim=s.lim/\s'.cx=s.cx:=by
 obtain⟨i,s1,h1,h2⟩:=bind_some h
 obtain⟨hi,rfl⟩:=AE h1 he
 obtain⟨h3,h4⟩:=AV h2
 have hl:=hv.cells.1
 obtain⟨w',g1,g2,g3,g4,g5⟩:=Iy (P:=E.P) _ _ 0 h4 hr (by simpa [Addr.add]using ha) hv.cells
 refine⟨w', ?_,g2,g3,g4,g5⟩
 have hs:v'.cells.size=i.size:=by
  have:=Nat.eq_of_beq_eq_true h3
  rw[<-Array.length_toList,<-hl];exact this
 simp[storeVar,hi.run_size,hs,g1]
def Yields (E:Env)(w0:World)(r:Inj)(s s':St)(v:Value)(w:World)(m:Sem Value):Prop:=
 ∃v' w' r',m.run E.P w= .ok v' w'/\Goes w0 r s s' r' w'/\VR r' v v'/\s'.lim=s.lim/\s'.cx=s.cx
theorem Yields.pure {s:St}{v v':Value}{m:Sem Value}(hm:m.run E.P w= .ok v' w)(hr:Rel w0 r s.mem w)(hv:VR r v v'):Yields E w0 r s s v w m:=
 ⟨v',w,r,hm, .of_rel rfl hr,hv,rfl,rfl⟩
theorem Yields.same {s s':St}{v v':Value}{m:Sem Value}(hm:m.run E.P w= .ok v' w)(hs:Same s s')(hr:Rel w0 r s.mem w)(hv:VR r v v'):Yields E w0 r s s' v w m:=
 ⟨v',w,r,hm, .same hs hr,hv,hs.2.2.1,hs.2.2.2⟩
theorem JB (c:Array Value)(e:TypeId):(newRow e c).run P w= .ok ⟨w.heap.size,0,none⟩ (w.alloc (.cells c e)):=by simp[newRow,newObj,Sem.run]
theorem Kk {v:Value}{a:Addr}{s s':St}(h:asA v s= .some a s'):v= .pointer (some a)/\s=s':=by
 unfold asA at h
 split at h
 ·obtain⟨rfl,rfl⟩:=Af h;exact⟨rfl,rfl⟩
 ·cases h
theorem Ada_ {e:Nat}{s s':St}{v:Value}(he:EnvTy E)(h:CM E e s= .some v s')(hr:Rel w0 r s.mem w)(hf:AK r s.next s'.next):Yields E w0 r s s' v w (Instr.alloc e true (.tuple #[])):=by
 obtain⟨i,s1,h1,h2⟩:=bind_some h
 obtain⟨hi,rfl⟩:=AE h1 he
 obtain⟨b,s2,h3,h4⟩:=bind_some h2
 obtain⟨rfl,rfl⟩:=Af h4
 obtain⟨z,g1,g2⟩:=hi.run_zero (w:=w)
 obtain⟨k1,k2,k3,k4,k5⟩:=HA h3 hr hf (Ej hi.pl) (c:=z.cells) e (λi v e=>by rw[<-g2]at e;simpa using e)
 subst k1
 exact⟨_,_,_,by simp[Instr.alloc,g1,newVar,JB],k2,k3.ptr,k4,k5⟩
theorem AiA_ {e:Nat}{s s':St}{x x' v:Value}(h:kBox x s= .some v s')(hr:Rel w0 r s.mem w)(hf:AK r s.next s'.next)(hx:VR r x x'):Yields E w0 r s s' v w (Instr.box e x'):=by
 obtain⟨b,s2,h3,h4⟩:=bind_some h
 obtain⟨rfl,rfl⟩:=Af h4
 obtain⟨k1,k2,k3,k4,k5⟩:=HA h3 hr hf hx.cells (c:=x'.cells) e (λi v e=>by simpa using e)
 subst k1
 exact⟨_,_,_,by simp[Instr.box,newVar,JB],k2,k3.ptr,k4,k5⟩
theorem AbO_ {s s':St}{a a' v:Value}(he:EnvTy E)(h:Bd E t a s= .some v s')(hr:Rel w0 r s.mem w)(ha:VR r a a'):Yields E w0 r s s' v w (Instr.loadAt t a'):=by
 obtain⟨a1,s1,h1,h2⟩:=bind_some h
 obtain⟨rfl,rfl⟩:=Kk h1
 obtain⟨a2,rfl,ha2⟩:=ha.ptr_inv
 obtain⟨v',g1,g2,g3⟩:=BG_ he h2 hr ha2
 exact .same (by simp[Instr.loadAt,Instr.sureAddr,g1]) g3 hr g2
theorem SM_ {s s':St}{a a' x x' v:Value}(he:EnvTy E)(h:Az E t a x s= .some v s')(hr:Rel w0 r s.mem w)(ha:VR r a a')(hx:VR r x x'):
  v=undef/\ ∃w',(Instr.storeAt t a' x').run E.P w= .ok () w'/\Rel w0 r s'.mem w'/\s'.next=s.next/\s'.lim=s.lim/\s'.cx=s.cx:=by
 obtain⟨a1,s1,h1,h2⟩:=bind_some h
 obtain⟨rfl,rfl⟩:=Kk h1
 obtain⟨a2,rfl,ha2⟩:=ha.ptr_inv
 obtain⟨u,s2,h3,h4⟩:=bind_some h2
 obtain⟨rfl,rfl⟩:=Af h4
 obtain⟨w',g1,g2,g3⟩:=Ajl_ he h3 hr ha2 hx
 exact⟨rfl,w',by simp[Instr.storeAt,Instr.sureAddr,g1],g2,g3⟩
theorem Bg {a b:Nat}(h:Nat.blt a b=true):a<b:=Nat.le_of_ble_eq_true h
theorem SR {a:Addr}{s s':St}{v:Value}(h:ptrA a s= .some v s'):v= .pointer (some a)/\s=s':=by
 unfold ptrA at h
 rw[CH]at h
 obtain⟨rfl,rfl⟩:=Af h
 exact⟨rfl,rfl⟩
theorem Ip {a:Addr}{l c:Nat}{s s':St}{v:Value}(h:pSl a l c s= .some v s'):v= .slice (some a) l c/\s=s':=by
 unfold pSl at h
 rw[CH,Ar,Ar]at h
 obtain⟨rfl,rfl⟩:=Af h
 exact⟨rfl,rfl⟩
theorem FS {n:Nat}{s s':St}{v:Value}(h:pN n s= .some v s'):v= .int .i64 n/\s=s':=by
 unfold pN at h
 rw[Ar]at h
 obtain⟨rfl,rfl⟩:=Af h
 exact⟨rfl,rfl⟩
theorem Ws_ {x v:Value}{s s':St}(h:pV x s= .some v s'):v=x/\s=s'/\plain v=true:=by
 unfold pV Ch at h
 cases x<;>simp only at h
 case int k n=>
  rw[Cd]at h
  obtain⟨rfl,rfl⟩:=Af h
  exact⟨rfl,rfl,rfl⟩
 all_goals
  obtain⟨hp,h⟩:=AV h
  obtain⟨rfl,rfl⟩:=Af h
  exact⟨rfl,rfl,hp⟩
theorem K5 {v:Value}{k:Nat}{s s':St}(h:asN v s= .some k s'):(∃kd,v= .int kd k)/\s=s':=by
 unfold asN at h
 split at h
 ·obtain⟨rfl,rfl⟩:=Af h;exact⟨⟨_,rfl⟩,rfl⟩
 ·cases h
theorem VR.int_inv {k:IntKind}{n:Int}{v':Value}(h:VR r (.int k n) v'):v'= .int k n:=by cases h;rfl
theorem EI_ {u:TypeDesc}{f:Nat}{p:Nat×TI×Nat}{s s':St}(he:EnvTy E)(h:DJ E u f s= .some p s'):
  s=s'/\ ∃fs fd fi,u= .struct fs/\fs[f]?=some fd/\TyOK E.P fd.type fi/\p=(fd.offset,fi,fd.type):=by
 unfold DJ at h
 split at h
 ·rename_i fs
  generalize hfd:fs.toList[f]?=q at h
  split at h
  ·rename_i fd
   obtain⟨fi,s3,h9,h10⟩:=bind_some h
   obtain⟨hfi,rfl⟩:=AE h9 he
   obtain⟨rfl,rfl⟩:=Af h10
   exact⟨rfl,fs,fd,fi,rfl,by simpa using hfd,hfi,rfl⟩
  ·cases h
 ·cases h
theorem VR.sl_inv {a:Addr}{l c:Nat}{v':Value}(h:VR r (.slice (some a) l c) v'):
  (∃a' c',v'= .slice (some a') l c'/\AR r a a'/\CapR r a'.block a'.off c c'/\l<=c%capU)\/(l=0/\c/capU≠0/\c%capU=0/\ ∃a' c',v'= .slice (some a') 0 c'):=by
 cases h with
 | @sl b o b' d l c c' hb hc hl=>exact .inl ⟨_,_,rfl,⟨b,o,b',d,rfl,rfl,hb⟩,hc,hl⟩
 |slEnd h1 h2=>exact .inr ⟨rfl,h1,h2,_,_,rfl⟩
theorem Us_ {f:Nat}{s s':St}{a a' v:Value}(he:EnvTy E)(h:kFld E t a f s= .some v s')(hr:Rel w0 r s.mem w)(ha:VR r a a'):Yields E w0 r s s' v w (Instr.fieldAt t a' f):=by
 obtain⟨i,s1,h1,h2⟩:=bind_some h
 obtain⟨hi,rfl⟩:=AE h1 he
 obtain⟨a1,s1,h3,h4⟩:=bind_some h2
 obtain⟨rfl,rfl⟩:=Kk h3
 obtain⟨a2,rfl,ha2⟩:=ha.ptr_inv
 obtain⟨p,s2,h5,h6⟩:=bind_some h4
 obtain⟨h7,h8⟩:=AV h6
 obtain⟨rfl,rfl⟩:=SR h8
 obtain⟨rfl,fs,fd,fi,hu,hfd,hfi,rfl⟩:=EI_ he h5
 have hz:fi.size≠0:=by
  intro h0
  simp[h0]at h7
 refine .pure (v':= .pointer (some (a2.add fd.offset))) ?_ hr (ha2.add _).ptr
 simp[Instr.fieldAt,hi.run_und,hu,hfd,Instr.sureAddr,fieldPlace,hfi.run_size,hz]
theorem Aee_ {s s':St}{x x' ix ix' v:Value}(he:EnvTy E)(h:B8 E t x ix s= .some v s')(hr:Rel w0 r s.mem w)(hx:VR r x x')(hix:VR r ix ix'):Yields E w0 r s s' v w (Instr.indexAt t x' ix'):=by
 obtain⟨i,s1,h1,h2⟩:=bind_some h
 obtain⟨hi,rfl⟩:=AE h1 he
 obtain⟨k,s1,h3,h4⟩:=bind_some h2
 obtain⟨⟨kd,rfl⟩,rfl⟩:=K5 h3
 have e1:=hix.int_inv
 subst e1
 generalize hu:i.u=u at h4
 unfold idxN at h4
 split at h4
 ·rename_i n e a
  obtain⟨ie,s3,h9,h10⟩:=bind_some h4
  obtain⟨hie,rfl⟩:=AE h9 he
  obtain⟨h7,h8⟩:=AV h10
  obtain⟨rfl,rfl⟩:=SR h8
  obtain⟨a2,rfl,ha2⟩:=hx.ptr_inv
  have hk:k<n:=Bg h7
  refine .pure (v':= .pointer (some (a2.add (k*ie.size)))) ?_ hr (ha2.add _).ptr
  simp[Instr.indexAt,asIntOf,hi.run_und,hu,Instr.sureAddr,hie.run_size]
  intro hh
  exact absurd hh J
 ·rename_i e a len c
  obtain⟨ie,s3,h9,h10⟩:=bind_some h4
  obtain⟨hie,rfl⟩:=AE h9 he
  obtain⟨h7,h8⟩:=AV h10
  obtain⟨rfl,rfl⟩:=SR h8
  have hk:k<len:=Bg h7
  rcases hx.sl_inv with⟨a2,c2,rfl,ha2,hc,_⟩|⟨rfl,_⟩
  ·refine .pure (v':= .pointer (some (a2.add (k*ie.size)))) ?_ hr (ha2.add _).ptr
   simp[Instr.indexAt,asIntOf,hi.run_und,hu,hie.run_size]
   intro hh
   exact absurd hh J
  ·exact absurd hk (Nat.not_lt_zero _)
 ·cases h4
theorem SL_ {s s':St}{x x' v:Value}{o:Oper}{xo:Operand}{a:Act}(ho:o.op= .nilCheck xo)(hxo:a.eval xo=x')(h:kNil x s= .some v s')(hx:VR r x x'):
  s=s'/\v=x/\(execOp a.eval o).run P w= .ok (.value x') w:=by
 unfold kNil at h
 split at h
 ·obtain⟨rfl,rfl⟩:=Af h
  obtain⟨a2,rfl,ha2⟩:=hx.ptr_inv
  exact⟨rfl,rfl,by simp[execOp,ho,hxo]⟩
 ·obtain⟨rfl,rfl⟩:=Af h
  cases hx
  exact⟨rfl,rfl,by simp[execOp,ho,hxo]⟩
 ·obtain⟨rfl,rfl⟩:=Af h
  cases hx with
  | @func _ f' _ a' _ c' hf _ _ _ _=>
   cases f'<;>simp[FnR]at hf
   subst hf
   exact⟨rfl,rfl,by simp[execOp,ho,hxo]⟩
 ·cases h
theorem UO {off:Nat}{s s':St}{cs:List Value}{cs':Array Value}{v:Value}(he:EnvTy E)(h:Gh E t cs off s= .some v s')(hc:VRs r cs cs'.toList):
  s=s'/\ ∃v',(part t cs' off).run E.P w= .ok v' w/\VR r v v':=by
 obtain⟨i,s1,h1,h2⟩:=bind_some h
 obtain⟨hi,rfl⟩:=AE h1 he
 rw[DO]at h2
 by_cases hg:i.agg=true
 ·rw[if_pos hg]at h2
  obtain⟨rfl,rfl⟩:=Af h2
  refine⟨rfl, .agg (cs'.extract off (off+i.size)),by simp[part,hi.run_agg,hg,hi.run_size], ?_⟩
  have:=((hc.drop off).take i.size).agg
  have e:(List.take i.size (List.drop off cs'.toList)).toArray=cs'.extract off (off+i.size):=by
   apply Array.ext'
   simp[Array.toList_extract]
  rw[e]at this
  exact this
 ·rw[if_neg hg]at h2
  obtain⟨h3,rfl⟩:=DR h2
  obtain⟨v',g1,g2⟩:=hc.get h3
  have g1':cs'[off]?=some v':=by simpa using g1
  exact⟨rfl,v',by simp[part,hi.run_agg,hg,g1'],g2⟩
theorem WZ_ {v:Value}{l:List Value}{s s':St}(h:asCs v s= .some l s'):(∃c,v= .agg c/\l=c.toList)/\s=s':=by
 unfold asCs at h
 split at h
 ·obtain⟨rfl,rfl⟩:=Af h;exact⟨⟨_,rfl,rfl⟩,rfl⟩
 ·cases h
theorem VR.agg_inv {c:Array Value}{v':Value}(h:VR r (.agg c) v'): ∃c',v'= .agg c'/\VRs r c.toList c'.toList:=by
 cases h with
 |agg h1 h2=>exact⟨_,rfl,a8 h1 h2⟩
theorem AkA_ {f:Nat}{s s':St}{x x' v:Value}(he:EnvTy E)(h:Fq E t x f s= .some v s')(hr:Rel w0 r s.mem w)(hx:VR r x x'):Yields E w0 r s s' v w (Instr.field t x' f):=by
 obtain⟨i,s1,h1,h2⟩:=bind_some h
 obtain⟨hi,rfl⟩:=AE h1 he
 obtain⟨cs,s1,h3,h4⟩:=bind_some h2
 obtain⟨⟨c,rfl,rfl⟩,rfl⟩:=WZ_ h3
 obtain⟨c',rfl,hc⟩:=hx.agg_inv
 obtain⟨p,s2,h5,h6⟩:=bind_some h4
 obtain⟨rfl,fs,fd,fi,hu,hfd,hfi,rfl⟩:=EI_ he h5
 obtain⟨rfl,v',g1,g2⟩:=UO (w:=w) he h6 hc
 exact .pure (by simp[Instr.field,hi.run_und,hu,hfd,asAgg,g1]) hr g2
theorem Abt_ {k:Nat}{s s':St}{x x' v:Value}(h:kExt k x s= .some v s')(hr:Rel w0 r s.mem w)(hx:VR r x x'):Yields E w0 r s s' v w (Instr.extract x' k):=by
 unfold kExt at h
 split at h
 ·obtain⟨h3,rfl⟩:=DR h
  cases hx with
  |tuple h1 h2=>
   obtain⟨v',g1,g2⟩:=(a8 h1 h2).get h3
   exact .pure (v':=v') (by simp at g1;simp[Instr.extract,g1]) hr g2
 ·cases h
theorem Uo_ {s s':St}{x x' v:Value}(he:EnvTy E)(h:Gl E t x s= .some v s')(hr:Rel w0 r s.mem w)(hx:VR r x x'):Yields E w0 r s s' v w (Instr.makeInterface t x'):=by
 obtain⟨i,s1,h1,h2⟩:=bind_some h
 obtain⟨hi,rfl⟩:=AE h1 he
 have hm:=hi.run_und (w:=w)
 generalize i.u=u at h2 hm
 cases u with
 |interface ms=>cases h2
 |_=>
  obtain⟨rfl,rfl⟩:=Af h2
  exact .pure (v':= .iface t x') (by simp[Instr.makeInterface,hm]) hr (.iface hx)
theorem Ajy_ {s s':St}{x x' v:Value}(he:EnvTy E)(h:FT E t x s= .some v s')(hr:Rel w0 r s.mem w)(hx:VR r x x'):Yields E w0 r s s' v w (Instr.arrayAt t x'):=by
 obtain⟨i,s1,h1,h2⟩:=bind_some h
 obtain⟨hi,rfl⟩:=AE h1 he
 generalize hu:i.u=u at h2
 unfold GX at h2
 split at h2
 ·rename_i n e a len c
  obtain⟨h7,h8⟩:=AV h2
  obtain⟨rfl,rfl⟩:=Af h8
  rw[Bool.and_eq_true]at h7
  have hk:n<=len/\0<len:=⟨Nat.le_of_ble_eq_true h7.1,Bg h7.2⟩
  rcases hx.sl_inv with⟨a2,c2,rfl,ha2,hc,_⟩|⟨rfl,_⟩
  ·exact .pure (v':= .pointer (some a2)) (by simp[Instr.arrayAt,hi.run_und,hu,Nat.not_lt.2 hk.1]) hr ha2.ptr
  ·exact absurd hk.2 (Nat.lt_irrefl 0)
 ·cases h2
theorem Ack_ {c c' a a' b b' v:Value}{s s':St}(h:Au c a b s= .some v s')(hc:VR r c c')(ha:VR r a a')(hb:VR r b b'):s=s'/\ ∃t,c'= .bool t/\VR r v (if t then a' else b'):=by
 unfold Au at h
 split at h
 ·rename_i t
  cases hc
  cases t with
  |false=>obtain⟨rfl,rfl⟩:=Af h;exact⟨rfl,false,rfl,hb⟩
  |true=>obtain⟨rfl,rfl⟩:=Af h;exact⟨rfl,true,rfl,ha⟩
 ·cases h
end
def VRo (r:Inj):Option Value->Option Value->Prop
 |none,none=>True
 |some v,some v'=>VR r v v'
 |_,_=>False
theorem LA:0<capU:=by unfold capU;decide
section
variable {E:Env}{w0 w:World}{r:Inj}{t:Nat}
theorem EL {o:Option Value}{top dflt n:Nat}{s s':St}(h:bnd o top dflt s= .some n s'):s=s'/\((o=none/\n=dflt)\/ ∃k,o=some (.int k n)/\n<=top):=by
 unfold bnd at h
 split at h
 ·obtain⟨rfl,rfl⟩:=Af h;exact⟨rfl, .inl ⟨rfl,rfl⟩⟩
 ·obtain⟨h1,h2⟩:=AV h
  obtain⟨rfl,rfl⟩:=Af h2
  exact⟨rfl, .inr ⟨_,rfl,Nat.le_of_ble_eq_true h1⟩⟩
 ·cases h
theorem Ia {P:Program}{b:Bool}{len cap l h:Nat}{lo hi lo' hi':Option Value}(hh:(hi=none/\h=len)\/ ∃k,hi=some (.int k h)/\h<=cap)(hl:(lo=none/\l=0)\/ ∃k,lo=some (.int k l)/\l<=h)
  (h1:VRo r lo lo') (h2:VRo r hi hi'):(Instr.sliceBounds b len cap lo' hi' none).run P w= .ok (l,h,cap) w:=by
 have e1:lo'=lo:=by
  rcases hl with⟨rfl,_⟩|⟨k,rfl,_⟩<;>cases lo'<;>simp[VRo]at h1 ⊢
  exact h1.int_inv
 have e2:hi'=hi:=by
  rcases hh with⟨rfl,_⟩|⟨k,rfl,_⟩<;>cases hi'<;>simp[VRo]at h2 ⊢
  exact h2.int_inv
 subst e1;subst e2
 rcases hh with⟨rfl,rfl⟩|⟨k,rfl,hle⟩<;>rcases hl with⟨rfl,rfl⟩|⟨k',rfl,hle'⟩
 ·simp[Instr.sliceBounds]
 ·simp[Instr.sliceBounds,Instr.sliceBound,asIntOf]
  intro hx;exact absurd hx J
 ·simp[Instr.sliceBounds,Instr.sliceBound,asIntOf]
  intro hx;exact absurd hx J
 ·simp[Instr.sliceBounds,Instr.sliceBound,asIntOf]
  rw[if_pos hle,if_pos hle']
theorem Aqq_ (a c l m x:Nat)(h1:m+x=c)(h:l<=x)(h2:x<a):c-l=m+(x-l)/\x-l<a:=J
theorem Lh {c l:Nat}(h:l<=c%capU):(c-l)/capU=c/capU/\(c-l)%capU=c%capU-l:=by
 have hp:=LA
 obtain⟨h3,h4⟩:=Aqq_ capU c l _ _ (Nat.div_add_mod c capU) h (Nat.mod_lt _ hp)
 constructor
 ·rw[h3,Nat.mul_add_div hp,Nat.div_eq_of_lt h4];rfl
 ·rw[h3,Nat.mul_add_mod,Nat.mod_eq_of_lt h4]
theorem NN_ {c:Nat}(h:c/capU=0):c%capU=c:=Nat.mod_eq_of_lt (by
 have hp:=LA
 rcases Nat.lt_or_ge c capU with h1|h1
 ·exact h1
 ·exact absurd h (Nat.ne_of_gt (Nat.div_pos h1 hp)))
theorem ApO_ {c size:Nat}(h:Bu c size=true):c/capU=0\/(c/capU)%1024=size:=by
 unfold Bu at h
 cases e:Nat.beq (Nat.div c capU) 0 with
 |true=>exact .inl (Nat.eq_of_beq_eq_true e)
 |false=>rw[e]at h;exact .inr (Nat.eq_of_beq_eq_true h)
theorem AR.block_add {a a':Addr}(k:AR r a a')(n:Nat):(a'.add n).block=a'.block/\(a'.add n).off=a'.off+n:=by
 obtain⟨b,o,b',d,rfl,rfl,h⟩:=k
 rw[DN];exact⟨rfl,rfl⟩
theorem VR.slice {a a':Addr}{l c c':Nat}(k:AR r a a')(hc:CapR r a'.block a'.off c c')(hl:l<=c%capU):VR r (.slice (some a) l c) (.slice (some a') l c'):=by
 obtain⟨b,o,b',d,rfl,rfl,h⟩:=k
 exact .sl h hc hl
theorem CapR.exact {b o c:Nat}(h:c<capU):CapR r b o c c:= .inl ⟨Nat.div_eq_of_lt h,rfl⟩
theorem AaS_ {s s':St}{x x' v:Value}{lo lo' hi hi':Option Value}(he:EnvTy E)(h:AZ E t x lo hi s= .some v s')(hr:Rel w0 r s.mem w)(hx:VR r x x')(h1:VRo r lo lo')(h2:VRo r hi hi'):
  Yields E w0 r s s' v w (Instr.sliceAt t x' lo' hi' none):=by
 obtain⟨i,s1,h3,h4⟩:=bind_some h
 obtain⟨hi0,rfl⟩:=AE h3 he
 generalize hu:i.u=u at h4
 have hund:=hi0.run_und (w:=w)
 rw[hu]at hund
 split at h4
 ·
  rename_i n e a
  obtain⟨ie,s1,h5,h6⟩:=bind_some h4
  obtain⟨hie,rfl⟩:=AE h5 he
  unfold Gz at h6
  obtain⟨hcu,h6⟩:=AV h6
  have hlt:n<capU:=Bg hcu
  obtain⟨hh,s1,h7,h8⟩:=bind_some h6
  obtain⟨rfl,k1⟩:=EL h7
  obtain⟨l,s1,h9,h10⟩:=bind_some h8
  obtain⟨rfl,k2⟩:=EL h9
  obtain⟨rfl,rfl⟩:=Ip h10
  obtain⟨a2,rfl,ha2⟩:=hx.ptr_inv
  have hb:=Ia (r:=r) (w:=w) (P:=E.P) (b:=false) k1 k2 h1 h2
  refine .pure (v':= .slice (some (if n=l then a2 else a2.add (l*ie.size))) (hh-l) (n-l)) ?_ hr ?_
  ·simp[Instr.sliceAt,hund,Instr.sureAddr,hb,hie.run_size]
  ·have hc:(n-l)<capU:=J
   have hle:hh-l<=(n-l)%capU:=by
    rw[Nat.mod_eq_of_lt hc]
    rcases k1 with⟨_,rfl⟩|⟨_,_,k1⟩<;>omega
   by_cases hnl:n=l
   ·have e1:Nat.beq n l=true:=by rw[hnl];exact Nat.beq_refl l
    rw[if_pos hnl,e1]
    exact .slice ha2 (.exact hc) hle
   ·have e1:Nat.beq n l=false:=by
     cases e:Nat.beq n l with
     |true=>exact absurd (Nat.eq_of_beq_eq_true e) hnl
     |false=>rfl
    rw[if_neg hnl,e1]
    exact .slice (ha2.add _) (.exact hc) hle
 ·
  rename_i e a len c
  obtain⟨ie,s1,h5,h6⟩:=bind_some h4
  obtain⟨hie,rfl⟩:=AE h5 he
  unfold slSl at h6
  obtain⟨hh,s1,h7,h8⟩:=bind_some h6
  obtain⟨rfl,k1⟩:=EL h7
  obtain⟨l,s1,h9,h10⟩:=bind_some h8
  obtain⟨rfl,k2⟩:=EL h9
  obtain⟨hsz,h11⟩:=AV h10
  obtain⟨rfl,rfl⟩:=Ip h11
  have k3:l<=hh:=by rcases k2 with⟨_,rfl⟩|⟨_,_,k2⟩<;>omega
  change (hi=none/\hh=len)\/ ∃k,hi=some (.int k hh)/\hh<=c%capU at k1
  rcases hx.sl_inv with⟨a2,c2,rfl,ha2,hc,hlen⟩|⟨rfl,q1,q2,a2,c2,rfl⟩
  ·have hle:c%capU<=c2:=by
    rcases hc with⟨e1,rfl⟩|⟨_,k,_,_,e2,_⟩
    ·exact Nat.mod_le _ _
    ·omega
   have k1':(hi=none/\hh=len)\/ ∃k,hi=some (.int k hh)/\hh<=c2:=by
    rcases k1 with k1|⟨k,e1,e2⟩
    ·exact .inl k1
    ·exact .inr ⟨k,e1,Nat.le_trans e2 hle⟩
   have hb:=Ia (r:=r) (w:=w) (P:=E.P) (b:=true) k1' k2 h1 h2
   have hrun:(Instr.sliceAt t (.slice (some a2) len c2) lo' hi' none).run E.P w= .ok (.slice (if c2=l then some a2 else some (a2.add (l*ie.size))) (hh-l) (c2-l)) w:=by
    simp[Instr.sliceAt,hund,Instr.slice,hb,hie.run_size]
   show Yields E w0 r s s (.slice (some (Bool.rec (motive:=λ_=>Addr) a (addA a (l*ie.size)) (Nat.blt l (c%capU)))) (hh-l) (c-l)) w _
   have hhb:hh<=c%capU:=by
    rcases k1 with⟨_,rfl⟩|⟨_,_,k1⟩<;>omega
   by_cases hlt:l<c%capU
   ·have e1:Nat.blt l (c%capU)=true:=Nat.ble_eq_true_of_le hlt
    rw[e1]
    refine .pure hrun hr ?_
    rw[if_neg J]
    obtain⟨m1,m2⟩:=Lh (c:=c) (l:=l) (Nat.le_of_lt hlt)
    refine .slice (ha2.add _) ?_ (by rw[m2];omega)
    rw[(ha2.block_add _).1,(ha2.block_add _).2]
    rcases hc with⟨e2,rfl⟩|⟨e2,k,g1,g2,g3,g4,g5⟩
    ·exact .inl ⟨by rw[m1];exact e2,rfl⟩
    ·refine .inr ⟨by rw[m1];exact e2,k,by rw[m1];exact g1,by rw[m1];exact g2,by rw[m2];omega,g4, ?_⟩
     have e3:k.sz=ie.size:=by
      rcases ApO_ hsz with q|q
      ·exact absurd q e2
      ·rw[g2];exact q
     rw[m2,<-e3,Nat.add_assoc,<-Nat.add_mul,Nat.add_sub_cancel' (Nat.le_of_lt hlt)]
     exact g5
   ·have e1:Nat.blt l (c%capU)=false:=by
     cases e:Nat.blt l (c%capU)with
     |true=>exact absurd (Bg e) hlt
     |false=>rfl
    rw[e1]
    have e2:hh-l=0:=J
    have e3:l=c%capU:=J
    obtain⟨m1,m2⟩:=Lh (c:=c) (l:=l) (Nat.le_of_eq e3)
    rw[e2]
    rw[e2]at hrun
    refine .pure hrun hr ?_
    rcases hc with⟨e4,rfl⟩|⟨e4,k,g1,g2,g3,g4,g5⟩
    ·have e5:=NN_ e4
     have e6:c2=l:=J
     rw[if_pos e6]
     exact .slice ha2 (.inl ⟨by rw[m1];exact e4,rfl⟩) (Nat.zero_le _)
    ·have h5:(c-l)/capU≠0:=by rw[m1];exact e4
     have h6:(c-l)%capU=0:=by rw[m2];omega
     show VR r (.slice (some a) 0 (c-l)) _
     split
     ·exact .slEnd h5 h6
     ·exact .slEnd h5 h6
  ·have hl:l=0/\hh=0:=by
    rcases k1 with⟨_,rfl⟩|⟨_,_,k1⟩<;>rcases k2 with⟨_,rfl⟩|⟨_,_,k2⟩<;>omega
   obtain⟨rfl,rfl⟩:=hl
   have k1':(hi=none/\0=0)\/ ∃k,hi=some (.int k ((0:Nat):Int))/\0<=c2:=by
    rcases k1 with⟨k1,_⟩|⟨k,e1,e2⟩
    ·exact .inl ⟨k1,rfl⟩
    ·exact .inr ⟨k,e1,Nat.zero_le _⟩
   have hb:=Ia (r:=r) (w:=w) (P:=E.P) (b:=true) k1' k2 h1 h2
   refine .pure (v':= .slice (if c2=0 then some a2 else some (a2.add (0*ie.size))) 0 c2) ?_ hr ?_
   ·simp[Instr.sliceAt,hund,Instr.slice,hb,hie.run_size]
   ·show VR r (.slice (some _) 0 c) _
    split
    ·exact .slEnd q1 q2
    ·exact .slEnd q1 q2
 ·rename_i e
  obtain⟨ie,s1,h5,h4⟩:=bind_some h4
  obtain⟨hie,rfl⟩:=AE h5 he
  obtain⟨hh,s1,h7,h8⟩:=bind_some h4
  obtain⟨rfl,k1⟩:=EL h7
  obtain⟨l,s1,h9,h10⟩:=bind_some h8
  obtain⟨rfl,k2⟩:=EL h9
  obtain⟨rfl,rfl⟩:=Af h10
  cases hx
  have hb:=Ia (r:=r) (w:=w) (P:=E.P) (b:=true) (cap:=0) k1 k2 h1 h2
  have hl:l=0/\hh=0:=by
   rcases k1 with⟨_,rfl⟩|⟨_,_,k1⟩<;>rcases k2 with⟨_,rfl⟩|⟨_,_,k2⟩<;>omega
  obtain⟨rfl,rfl⟩:=hl
  exact .pure (v':= .slice none 0 0) (by simp[Instr.sliceAt,hund,Instr.slice,hb,hie.run_size]) hr .slNil
 ·rename_i st
  unfold EM at h4
  obtain⟨hh,s1,h7,h8⟩:=bind_some h4
  obtain⟨rfl,k1⟩:=EL h7
  obtain⟨l,s1,h9,h10⟩:=bind_some h8
  obtain⟨rfl,k2⟩:=EL h9
  obtain⟨rfl,rfl⟩:=Af h10
  cases hx
  have hb:=Ia (r:=r) (w:=w) (P:=E.P) (b:=false) k1 k2 h1 h2
  exact .pure (v':= .string (st.extract l hh)) (by simp[Instr.sliceAt,hund,Instr.slice,hb]) hr (.string _)
 ·cases h4
def PRs (r:Inj):List (Nat×Value)->List (Nat×Value)->Prop
 |[],[]=>True
 |p::l,q::m=>p.1=q.1/\VR r p.2 q.2/\PRs r l m
 |_,_=>False
theorem WW: ∀(l:List Value) (off k:Nat) (cs:Array Value),off+k+l.length<=cs.size->
  ((l.zipIdx k).foldl (λcs p=>cs.setIfInBounds (off+p.2) p.1) cs).toList=cs.toList.take (off+k)++(l++cs.toList.drop (off+k+l.length))
 |[],off,k,cs,h=>am
 |v::l,off,k,cs,h=>by
  simp only[List.length_cons]at h
  rw[List.zipIdx_cons,List.foldl_cons,WW l off (k+1) _ (by simp;omega)]
  simp only[Array.toList_setIfInBounds]
  have hl:cs.toList.length=cs.size:=Array.length_toList
  generalize cs.toList=m at *
  have e2:(m.set (off+k) v).drop (off+(k+1)+l.length)=m.drop (off+k+(l.length+1)):=by
   rw[List.drop_set,if_pos J]
   congr 1
   omega
  have e3:(m.set (off+k) v).take (off+(k+1))=m.take (off+k)++[v]:=by
   rw[show off+(k+1)=off+k+1 by omega,List.take_set,List.take_succ_eq_append_getElem J,List.set_append]
   simp only[List.length_take]
   rw[if_neg J,show off+k-min (off+k) m.length=0 by omega]
   rfl
  rw[e2,e3]
  simp
theorem JK {place:Nat->Option (Nat×Nat)}{place':Nat->Option (Nat×Nat)}(hp: ∀k x,place k=some x->place' k=some x):
  ∀(ps ps':List (Nat×Value)) (cs res:List Value) (cs':Array Value),CY place ps cs=some res->PRs r ps ps'->VRs r cs cs'.toList-> ∃res',Instr.fill place' cs' ps'=some res'/\VRs r res res'.toList
 |[],[],cs,res,cs',h,_,hc=>by
  cases h
  exact⟨cs',rfl,hc⟩
 |[],_::_,_,_,_,_,hp,_=>hp.elim
 |_::_,[],_,_,_,_,hp,_=>hp.elim
 |p::ps,q::ps',cs,res,cs',h,⟨h1,h2,h3⟩,hc=>by
  obtain⟨i,v⟩:=p
  obtain⟨j,v'⟩:=q
  obtain rfl:i=j:=h1
  have h0:CY place ((i,v)::ps) cs=(match place i with
   |none=>none
   |some (off,size)=>Bool.rec (motive:=λ_=>Option (List Value)) none (CY place ps (GA off (cellsOf v) cs)) (Nat.beq (cellsOf v).length size&&Nat.ble (off+(cellsOf v).length) cs.length)):=rfl
  rw[h0]at h
  cases hpl:place i with
  |none=>rw[hpl]at h;cases h
  |some x=>
   obtain⟨off,size⟩:=x
   rw[hpl]at h
   simp only at h
   have hv:=h2.cells
   cases hb:(Nat.beq (cellsOf v).length size&&Nat.ble (off+(cellsOf v).length) cs.length)with
   |false=>rw[hb]at h;cases h
   |true=>
    rw[hb]at h
    rw[Bool.and_eq_true]at hb
    have e1:=Nat.eq_of_beq_eq_true hb.1
    have e2:=Nat.le_of_ble_eq_true hb.2
    have l1:(cellsOf v).length=v'.cells.size:=by rw[hv.1,Array.length_toList]
    have l2:cs.length=cs'.size:=by rw[hc.1,Array.length_toList]
    have hfold:(v'.cells.zipIdx.foldl (λcs (c,j)=>cs.setIfInBounds (off+j) c) cs').toList=GA off v'.cells.toList cs'.toList:=by
     rw[<-Array.foldl_toList,Array.toList_zipIdx]
     have:=WW v'.cells.toList off 0 cs' (by rw[Array.length_toList];omega)
     simpa [GA]using this
    have hrel:VRs r (GA off (cellsOf v) cs) (v'.cells.zipIdx.foldl (λcs (c,j)=>cs.setIfInBounds (off+j) c) cs').toList:=by
     rw[hfold]
     unfold GA
     rw[hv.1]
     exact(hc.take off).append (hv.append (hc.drop _))
    obtain⟨res',g1,g2⟩:=JK hp ps ps' _ res _ h h3 hrel
    refine⟨res', ?_,g2⟩
    unfold Instr.fill
    rw[hp _ _ hpl]
    simp only
    rw[if_neg]
    ·exact g1
    ·simp only[Bool.or_eq_true,ne_eq,decide_eq_true_eq,not_or,Decidable.not_not,Nat.not_lt]
     exact⟨J,J⟩
theorem Ago_ {fs:Array Field}: ∀(k:Nat) (x:Nat×Nat),H8 E fs k=some x-> ∃f fi,fs[k]?=some f/\E.ty.get f.type=some fi/\x=(f.offset,fi.size):=by
 intro k x h
 unfold H8 at h
 cases e:fs.toList[k]? with
 |none=>rw[e]at h;cases h
 |some f=>
  rw[e]at h
  simp only at h
  cases e2:E.ty.get f.type with
  |none=>rw[e2]at h;cases h
  |some fi=>
   rw[e2]at h
   simp only[Option.some.injEq]at h
   exact⟨f,fi,by simpa using e,e2,h.symm⟩
theorem AdF_ {s s':St}{ps:List (Nat×Value)}{ps':Array (Nat×Value)}{v:Value}(he:EnvTy E)(h:Cz E t ps s= .some v s')(hr:Rel w0 r s.mem w)(hp:PRs r ps ps'.toList):Yields E w0 r s s' v w (Instr.build t ps'):=by
 obtain⟨i,s1,h3,h4⟩:=bind_some h
 have hget:=(DR h3).1
 obtain⟨hi,rfl⟩:=AE h3 he
 obtain⟨n,q1,q2,q3,z,q4,q5⟩:=hi.info
 have hz:VRs r i.zero z.cells.toList:=by rw[q5];exact Ej hi.pl
 generalize hu:i.u=u at h4
 have hund:=hi.und
 rw[hu]at hund
 cases u with
 |struct fs=>
  obtain⟨res,s1,h5,h6⟩:=bind_some h4
  obtain⟨h7,rfl⟩:=DR h5
  obtain⟨rfl,rfl⟩:=Af h6
  have hall: ∀f∈fs.toList,∃y,((E.P.info? f.type).map λi=>(f.offset,i.size))=some y:=by
   intro f hf
   obtain⟨fi,e1⟩:=he.flds t i fs hget hu f (by simpa using hf)
   obtain⟨m,e2,_⟩:=(he.ok _ _ e1).info
   exact⟨_,by rw[e2];rfl⟩
  have hpl:=Go.ChangeMaps.mapM_total (0,0) hall
  generalize hplaces:fs.toList.map (λx=>(((E.P.info? x.type).map λi=>(x.offset,i.size)).getD (0,0)))=places at hpl
  have hplace: ∀k x,H8 E fs k=some x->places[k]?=some x:=by
   intro k x hk
   obtain⟨f,fi,e1,e2,e3⟩:=Ago_ k x hk
   obtain⟨m,e4,e5,_⟩:=(he.ok _ _ e2).info
   rw[<-hplaces,List.getElem?_map]
   have e1':fs.toList[k]?=some f:=by simpa using e1
   rw[e1']
   simp[e4,e5,e3]
  obtain⟨res',g1,g2⟩:=JK hplace ps ps'.toList _ _ z.cells h7 hp hz
  refine .pure (v':= .agg res') (run_build w t ps' res' ?_) hr ?_
  ·simp only[Program.built,q1,hund,q4]
   rw[hpl]
   simpa using g1
  ·have:=g2.agg;simpa using this
 |array n e=>
  obtain⟨ie,s1,h9,h10⟩:=bind_some h4
  obtain⟨hie,rfl⟩:=AE h9 he
  obtain⟨res,s1,h5,h6⟩:=bind_some h10
  obtain⟨h7,rfl⟩:=DR h5
  obtain⟨rfl,rfl⟩:=Af h6
  obtain⟨m,e4,e5,_⟩:=hie.info
  obtain⟨res',g1,g2⟩:=JK (place':=λk=>some (k*ie.size,ie.size)) (λ_ _ h=>h) ps ps'.toList _ _ z.cells h7 hp hz
  refine .pure (v':= .agg res') (run_build w t ps' res' ?_) hr ?_
  ·simp only[Program.built,q1,hund,q4,e4,e5]
   exact g1
  ·have:=g2.agg;simpa using this
 |_=>cases h4
theorem Gt {α:Type}(n:Nat)(l:List α):(rep n l).length=n*l.length:=by
 induction n with
 |zero=>show([]:List α).length=_;simp
 |succ n ih=>
  show(l++rep n l).length=_
  rw[List.length_append,ih,Nat.succ_mul];omega
theorem Sb {α:Type}(l:List α): ∀(n i:Nat),i<n*l.length->(rep n l)[i]?=l[i%l.length]?
 |0,i,h=>J
 |n+1,i,h=>by
  show(l++rep n l)[i]?=_
  rw[Nat.succ_mul]at h
  by_cases hi:i<l.length
  ·rw[List.getElem?_append_left hi,Nat.mod_eq_of_lt hi]
  ·rw[List.getElem?_append_right J,Sb l n _ J,<-Nat.mod_eq_sub_mod J]
theorem LG (z:Array Value)(n:Nat)(hz:0<z.size):((Array.range (n*z.size)).map (z[· %z.size]!)).toList=rep n z.toList:=by
 apply List.ext_getElem?
 intro i
 by_cases hi:i<n*z.size
 ·rw[Sb _ _ _ (by rw[Array.length_toList];exact hi),Array.length_toList]
  have hm:i%z.size<z.size:=Nat.mod_lt _ hz
  have h1:i<(Array.range (n*z.size)).size:=by simpa using hi
  simp[hi,hm]
 ·rw[List.getElem?_eq_none (by simp;omega),List.getElem?_eq_none (by rw[Gt,Array.length_toList];omega)]
theorem Kn {z:List Value}(h: ∀v∈z,plain v=true)(n:Nat): ∀v∈rep n z,plain v=true:=by
 induction n with
 |zero=>intro v hv;exact absurd hv (List.not_mem_nil)
 |succ n ih=>
  intro v hv
  have hv':v∈z++rep n z:=hv
  rcases List.mem_append.1 hv' with h1|h1
  ·exact h v h1
  ·exact ih v h1
end
theorem If {α:Type}{P:Program}: ∀{s:Sem α} {a:α} {w:World},semP P s=some a->s.run P w= .ok a w
 | .pure b,a,w,h=>by cases h;rfl
 | .program k,a,w,h=>If (s:=k P) h
 | .load ..,_,_,h| .store ..,_,_,h| .new ..,_,_,h| .shape ..,_,_,h| .freeze ..,_,_,h| .frozen ..,_,_,h| .getObj ..,_,_,h| .setObj ..,_,_,h| .choose ..,_,_,h| .sys ..,_,_,h| .mark ..,_,_,h| .halt ..,_,_,h=>by cases h
section
variable {E:Env}{w0 w:World}{r:Inj}{t:Nat}
theorem Re {l l':List Value}(h:VRs r l l')(hp:l.all plain=true):l'=l:=by
 apply List.ext_getElem?
 intro i
 by_cases hi:i<l.length
 ·have hi':i<l'.length:=by rw[<-h.1];exact hi
  rw[List.getElem?_eq_getElem hi,List.getElem?_eq_getElem hi']
  have:=h.2 i _ _ (List.getElem?_eq_getElem hi) (List.getElem?_eq_getElem hi')
  rw[this.eq_of_plain (List.all_eq_true.1 hp _ (List.getElem_mem hi))]
 ·rw[List.getElem?_eq_none (by rw[<-h.1];omega),List.getElem?_eq_none J]
theorem GH {m:Sem Value}{s s':St}{v:Value}(h:M.on (semP E.P m) pV s= .some v s'):s=s'/\m.run E.P w= .ok v w/\plain v=true:=by
 obtain⟨a,h1,h2⟩:=Bw h
 obtain⟨rfl,rfl,hp⟩:=Ws_ h2
 exact⟨rfl,If h1,hp⟩
theorem AcC_ {s s':St}{n:Nat}{ps:List (Nat×Value)}{ps':Array (Nat×Value)}{v:Value}(he:EnvTy E)(h:BU E t n ps s= .some v s')(hr:Rel w0 r s.mem w)(hf:AK r s.next s'.next)(hp:PRs r ps ps'.toList):
  Yields E w0 r s s' v w (Instr.buildSlice t n ps'):=by
 obtain⟨i,s1,h3,h4⟩:=bind_some h
 obtain⟨hi,rfl⟩:=AE h3 he
 generalize hu:i.u=u at h4
 have hund:=hi.run_und (w:=w)
 rw[hu]at hund
 cases u with
 |slice e=>
  obtain⟨ie,s1,h9,h10⟩:=bind_some h4
  obtain⟨hie,rfl⟩:=AE h9 he
  obtain⟨hb,h10⟩:=AV h10
  obtain⟨res,s1,h5,h6⟩:=bind_some h10
  obtain⟨h7,rfl⟩:=DR h5
  obtain⟨b,s2,h8,h11⟩:=bind_some h6
  obtain⟨u0,s3,h12,h13⟩:=bind_some h11
  obtain⟨rfl,rfl⟩:=Af h13
  obtain⟨y1,y2,y3,y4⟩:=Gd h12
  rw[Bool.and_eq_true]at hb
  have hsz:=Nat.le_of_ble_eq_true hb.1
  obtain⟨z,g1,g2⟩:=hie.run_zero (w:=w)
  have hzs:z.cells.size=ie.size:=by rw[<-Array.length_toList,g2,hie.len]
  have hz1:(madeCells z.cells (n*ie.size)).toList=rep n ie.zero:=by
   by_cases h0:n*ie.size=0
   ·rw[h0]
    have:(rep n ie.zero).length=0:=by rw[Gt,hie.len,h0]
    rw[List.eq_nil_of_length_eq_zero this];simp[madeCells]
   ·have hpos:0<z.cells.size:=by rw[hzs];exact Nat.pos_of_ne_zero λq=>h0 (by rw[q,Nat.mul_zero])
    rw[<-hzs,<-g2];exact LG _ _ hpos
  have hzr:VRs r (rep n ie.zero) (madeCells z.cells (n*ie.size)).toList:=by rw[hz1];exact Ej (Kn hie.pl n)
  obtain⟨res',k1,k2⟩:=JK (place':=λk=>some (k*ie.size,ie.size)) (λ_ _ h=>h) ps ps'.toList _ _ _ h7 hp hzr
  obtain⟨q1,q2,q3,q4,q5⟩:=HA h8 hr (λx p1 p2=>hf x p1 (by rw[y2];exact p2)) k2 (c:=res') e (λi v e=>by simpa using e)
  subst q1
  have hsz2:SzB (r.add s.next (w.heap.size,0)) (w.alloc (.cells res' e)) s.next res.length:=by
   have hl2:res.length=res'.size:=by rw[k2.1,Array.length_toList]
   have:(w.alloc (.cells res' e)).heap[w.heap.size]?=some (.cells res' e):=by
    show(w.heap.push (.cells res' e))[w.heap.size]?=_
    simp
   exact⟨w.heap.size,aE _ _ _,res',e,0,0,this,hl2.symm,Nat.le_refl _⟩
  have hrel3:Rel w0 (r.add s.next (w.heap.size,0)) s3.mem (w.alloc (.cells res' e)):=by
   rw[y1]
   exact q2.rel.markSz hsz2 λb' d q=>by
    rw[aE]at q
    cases q
    exact hr.below.size
  replace q2:=q2.trans (.of_rel y2 hrel3)
  replace q4:=y3.trans q4
  replace q5:=y4.trans q5
  refine⟨.slice (some ⟨w.heap.size,0,none⟩) n n,_,_, ?_,q2, ?_,q4,q5⟩
  ·have: ¬(n*ie.size>2^24):=J
   unfold madeCells at k1
   by_cases h0:n*ie.size=0
   ·have e0: ∀f:Nat->Value,Array.map f (Array.range 0)= #[]:=λf=>Array.eq_empty_of_size_eq_zero (by rw[Array.size_map,Array.size_range])
    rw[h0,e0]at k1
    have k3: ∀f:Nat->Value,Instr.fill (λk=>some (k*ie.size,ie.size)) (Array.map f (Array.range 0)) ps'.toList=some res':=λf=>by rw[e0 f];exact k1
    simp[Instr.buildSlice,hund,hie.run_size,h0,k3,JB]
   ·have h2: ¬(16777216<n*ie.size):=J
    simp[Instr.buildSlice,hund,hie.run_size,h0,h2,g1,k1,JB]
  ·have hn:n<capU:=Bg hb.2
   exact .slice q3 (.exact hn) (by rw[Nat.mod_eq_of_lt hn];exact Nat.le_refl _)
 |_=>cases h4
theorem Zd_ {s s':St}{l l' c c' v:Value}(he:EnvTy E)(h:Ez E t l c s= .some v s')(hr:Rel w0 r s.mem w)(hf:AK r s.next s'.next)(hl:VR r l l')(hc:VR r c c'):Yields E w0 r s s' v w (Instr.makeSlice t l' c'):=by
 obtain⟨i,s1,h3,h4⟩:=bind_some h
 obtain⟨hi,rfl⟩:=AE h3 he
 obtain⟨l,s1,h5,h6⟩:=bind_some h4
 obtain⟨⟨k1,rfl⟩,rfl⟩:=K5 h5
 obtain⟨c,s1,h7,h8⟩:=bind_some h6
 obtain⟨⟨k2,rfl⟩,rfl⟩:=K5 h7
 have e1:=hl.int_inv
 have e2:=hc.int_inv
 subst e1;subst e2
 generalize hu:i.u=u at h8
 have hund:=hi.run_und (w:=w)
 rw[hu]at hund
 unfold mkSl at h8
 cases u with
 |slice e=>
  obtain⟨ie,s1,h9,h10⟩:=bind_some h8
  obtain⟨hie,rfl⟩:=AE h9 he
  obtain⟨hb,h10⟩:=AV h10
  obtain⟨b,s2,h11,h12⟩:=bind_some h10
  obtain⟨rfl,rfl⟩:=Af h12
  rw[Bool.and_eq_true]at hb
  have hlc:=Nat.le_of_ble_eq_true hb.1
  have hby:=Nat.le_of_ble_eq_true hb.2
  obtain⟨n,i1,i2,i3,z,i4,i5⟩:=hie.info
  have hzs:z.cells.size=ie.size:=by rw[<-Array.length_toList,i5,hie.len]
  have hc1:c*ie.bytes<=16777216:=by rw[Nat.mul_add]at hby;omega
  have hc2:c<=16777216:=by rw[Nat.mul_add]at hby;omega
  have hz1:(madeCells z.cells (c*ie.size)).toList=rep c ie.zero:=by
   by_cases h0:c*ie.size=0
   ·rw[h0]
    have:(rep c ie.zero).length=0:=by rw[Gt,hie.len,h0]
    rw[List.eq_nil_of_length_eq_zero this];simp[madeCells]
   ·have hpos:0<z.cells.size:=by rw[hzs];exact Nat.pos_of_ne_zero λq=>h0 (by rw[q,Nat.mul_zero])
    rw[<-hzs,<-i5];exact LG _ _ hpos
  obtain⟨q1,q2,q3,q4,q5⟩:=HA h11 hr hf (Ej (Kn hie.pl c)) (c:=madeCells z.cells (c*ie.size)) e (λi v e=>by rw[<-hz1]at e;simpa using e)
  subst q1
  refine⟨.slice (some ⟨w.heap.size,0,none⟩) l c,_,_, ?_,q2, ?_,q4,q5⟩
  ·have n1:(n.bytes:Int)*c<=281474976710656:=by
    rw[i3]
    have:(ie.bytes:Int)*c=((c*ie.bytes:Nat):Int):=by rw[Int.natCast_mul,Int.mul_comm]
    omega
   have:=run_make (P:=E.P) (w:=w) t e n z (by rw[<-hu];exact hi.und) i1 i4 k1 k2 l c J J n1 J
   simpa [i2]using this
  ·have hn:c<capU:=by unfold capU;omega
   exact .slice q3 (.exact hn) (by rw[Nat.mod_eq_of_lt hn];exact hlc)
 |_=>cases h8
end
theorem I6 (n:Int):wrap64 n=IntKind.i64.wrap n:=by
 cases n with
 |ofNat m=>
  show GG .i64 (.ofNat m) m (.ofNat m)=_
  unfold GG
  cases e:Nat.ble m 9223372036854775807 with
  |false=>rfl
  |true=>
   have:=Nat.le_of_ble_eq_true e
   show(Int.ofNat m)=_
   rw[IntKind.wrap_i64]
   simp only[Int.ofNat_eq_natCast]
   omega
 |negSucc m=>
  show GG .i64 (.negSucc m) m (.negSucc m)=_
  unfold GG
  cases e:Nat.ble m 9223372036854775807 with
  |false=>rfl
  |true=>
   have:=Nat.le_of_ble_eq_true e
   show(Int.negSucc m)=_
   rw[IntKind.wrap_i64]
   omega
theorem Su (k:IntKind)(q:Nat)(hk: ∀n:Int,k.wrap n=n%(q:Int))(n:Int):JL k q n=k.wrap n:=by
 cases n with
 |ofNat m=>rw[hk];rfl
 |negSucc m=>rfl
theorem HZ_ (k:IntKind)(n:Int):KC k n=k.wrap n:=by
 unfold KC
 split
 ·exact I6 n
 ·exact Su _ _ (λn=>by rw[IntKind.wrap_u32];rfl) n
 ·exact Su _ _ (λn=>by rw[IntKind.wrap_u8];rfl) n
 ·exact Su _ _ (λn=>by rw[IntKind.wrap_u64];rfl) n
 ·rfl
theorem LB (a b:Int):addI a b=a+b:=by
 cases a<;>cases b<;>rfl
theorem XH (a b:Int):subI a b=a-b:=by
 cases a with
 |ofNat m=>
  cases b with
  |ofNat n=>
   show Bool.rec (motive:=λ_=>Int) (Int.ofNat m-Int.ofNat n) (Int.ofNat (m-n)) (Nat.ble n m)=_
   cases e:Nat.ble n m with
   |false=>rfl
   |true=>
    have:=Nat.le_of_ble_eq_true e
    show Int.ofNat (m-n)=_
    simp only[Int.ofNat_eq_natCast]
    omega
  |negSucc n=>rfl
 |negSucc m=>cases b<;>rfl
theorem Nc (a b:Nat):Nat.blt a b=decide (a<b):=by
 cases e:Nat.blt a b with
 |true=>exact(decide_eq_true (Bg e)).symm
 |false=>
  refine(decide_eq_false λh=> ?_).symm
  have:Nat.blt a b=true:=Nat.ble_eq_true_of_le h
  rw[e]at this;cases this
theorem Qr (a b:Nat):Nat.beq a b=decide (a=b):=by
 cases e:Nat.beq a b with
 |true=>exact(decide_eq_true (Nat.eq_of_beq_eq_true e)).symm
 |false=>exact(decide_eq_false (Nat.ne_of_beq_eq_false e)).symm
theorem HH (a b:Int):ltI a b=decide (a<b):=by
 cases a with
 |ofNat m=>
  cases b with
  |ofNat n=>show Nat.blt m n=_;rw[Nc];simp only[Int.ofNat_eq_natCast,decide_eq_decide];omega
  |negSucc n=>show false=_;simp only[Int.ofNat_eq_natCast];rw[decide_eq_false];omega
 |negSucc m=>
  cases b with
  |ofNat n=>show true=_;simp only[Int.ofNat_eq_natCast];rw[decide_eq_true];omega
  |negSucc n=>show Nat.blt n m=_;rw[Nc];simp only[decide_eq_decide];omega
theorem N9 (a b:Int):eqI a b=decide (a=b):=by
 cases a with
 |ofNat m=>
  cases b with
  |ofNat n=>show Nat.beq m n=_;rw[Qr];simp only[Int.ofNat_eq_natCast,decide_eq_decide];omega
  |negSucc n=>show false=_;simp only[Int.ofNat_eq_natCast];rw[decide_eq_false];omega
 |negSucc m=>
  cases b with
  |ofNat n=>show false=_;simp only[Int.ofNat_eq_natCast];rw[decide_eq_false];omega
  |negSucc n=>show Nat.beq m n=_;rw[Qr];simp only[decide_eq_decide];omega
theorem AiR_ {n:Int}{s s':St}{v:Value}(h:rI n s= .some v s'):v= .int .i64 (IntKind.i64.wrap n)/\s=s':=by
 unfold rI at h
 rw[Cd,I6]at h
 cases h
 exact⟨rfl,rfl⟩
theorem Dn_ {b:Bool}{s s':St}{v:Value}(h:rB b s= .some v s'):v= .bool b/\s=s':=by
 cases b<;>cases h<;>exact⟨rfl,rfl⟩
theorem Nh_ {k:IntKind}(h:DA k=true):k= .i64:=by cases k<;>first|rfl|cases h
theorem Xv {k k':IntKind}(h:Nat.beq (kNum k) (kNum k')=true):k=k':=by
 have:=Nat.eq_of_beq_eq_true h
 cases k<;>cases k'<;>first|rfl|(exfalso;revert this;decide)
section
variable {E:Env}{w0 w:World}{r:Inj}{t:Nat}
theorem BE_ {i:TI}{op:BinOp}{x x' y y':Value}{b:Bool}(hi:TyOK E.P t i)(h:refB i.u x y=some b)(hx:VR r x x')(hy:VR r y y')(xo yo:Operand)(hop:op= .eql\/op= .neq):
  (do eqGuard op t xo yo x' y';binOp op t x' y').run E.P w= .ok (.bool (if op= .eql then b else !b)) w:=by
 have hund:=hi.run_und (w:=w)
 generalize i.u=u at h hund
 have key: ∀d,(Op.equalIn (d+1) t x' y').run E.P w= .ok b w:=by
  intro d
  unfold refB at h
  split at h
  all_goals first|cases h|skip
  all_goals cases hx
  all_goals cases hy
  all_goals first
   |(simp[Op.equalIn,hund];done)
   |skip
  rename_i p _ q _ _ _ _ _
  cases e:Nat.beq p q with
  |true=>rw[e]at h;cases h
  |false=>
   rw[e]at h
   cases h
   have:=Nat.ne_of_beq_eq_false e
   simp[Op.equalIn,hund,this]
 have key2:(Op.equal t x' y').run E.P w= .ok b w:=key 9999
 unfold refB at h
 split at h
 all_goals first|cases h|skip
 all_goals cases hx
 all_goals cases hy
 all_goals rcases hop with rfl|rfl
 all_goals first
  |(simp[eqGuard,binOp,key2];done)
  |skip
theorem DF_ {x x':Value}{a:Nat}(h:kOf x=some a)(hx:VR r x x'): ∃k n,x'= .int k n/\kNum k=a:=by
 unfold kOf at h
 split at h
 ·cases h;cases hx;exact⟨_,_,rfl,rfl⟩
 ·cases h
  cases hx with
  |complex h=>exact h
 ·cases h
theorem Tj_ {op:BinOp}{x x' y y' v:Value}{xo yo:Operand}{s s':St}(h:Hw op x y s= .some v s')(hr:Rel w0 r s.mem w)(hx:VR r x x')(hy:VR r y y'):
  Yields E w0 r s s' v w (do eqGuard op t xo yo x' y';binOp op t x' y'):=by
 obtain⟨a,h1,h⟩:=Bw h
 obtain⟨b,h2,h⟩:=Bw h
 obtain⟨h3,h⟩:=AV h
 obtain⟨k,n,rfl,e1⟩:=DF_ h1 hx
 obtain⟨k',m,rfl,e2⟩:=DF_ h2 hy
 have hk:k=k':=Xv (by rw[e1,e2];exact h3)
 subst hk
 have hb: ∀b:Bool,VR r topB (.bool b):=λb=> .complex ⟨b,rfl⟩
 have hi: ∀n,VR r (.complex .f32 1 a) (.int k n):=λn=> .complex ⟨k,n,rfl,e1⟩
 have hg: ∀op,eqGuard op t xo yo (.int k n) (.int k m)=pure ():=λop=>by cases op<;>rfl
 have hrun: ∀u,(binOp op t (.int k n) (.int k m)).run E.P w= .ok u w->(do eqGuard op t xo yo (.int k n) (.int k m);binOp op t (.int k n) (.int k m)).run E.P w= .ok u w:=by
  intro u e
  rw[hg]
  simpa using e
 have cb: ∀op,(match op with| .eql| .neq| .lss| .leq| .gtr| .geq=>true|_=>false)=true-> ∃b,(binOp op t (.int k n) (.int k m)).run E.P w= .ok (.bool b) w:=by
  intro op ho
  cases op<;>first|(exact absurd ho al)|exact⟨_,by simp only[binOp,Op.intCmp,ne_eq,not_true_eq_false,if_false,Sem.run_pure];rfl⟩
 have ci: ∀op,(match op with| .add| .sub| .mul| .and| .or| .xor=>true|_=>false)=true-> ∃u,(binOp op t (.int k n) (.int k m)).run E.P w= .ok (.int k u) w:=by
  intro op ho
  cases op<;>first|(exact absurd ho al)|exact⟨_,by simp only[binOp,Op.intArith,Op.intBits,ne_eq,not_true_eq_false,if_false,Sem.run_pure];rfl⟩
 unfold GO at h
 cases op<;>simp only at h<;>first
  |(obtain⟨rfl,rfl⟩:=Af h;exact have⟨u,hu⟩:=cb _ rfl; .pure (hrun _ hu) hr (hb u))
  |(obtain⟨rfl,rfl⟩:=Af h;exact have⟨u,hu⟩:=ci _ rfl; .pure (hrun _ hu) hr (hi u))
  |cases h
theorem Ze_ {op:BinOp}{x x' y y' v:Value}{xo yo:Operand}{s s':St}(he:EnvTy E)(h:AJ E op t xo yo x y s= .some v s')(hr:Rel w0 r s.mem w)(hx:VR r x x')(hy:VR r y y'):
  Yields E w0 r s s' v w (do eqGuard op t xo yo x' y';binOp op t x' y'):=by
 unfold AJ at h
 rw[DO]at h
 by_cases hp:(plain x&&plain y)=true
 ·rw[if_pos hp]at h
  rw[Bool.and_eq_true]at hp
  obtain⟨rfl,h2,h3⟩:=GH (w:=w) h
  rw[hx.eq_of_plain hp.1,hy.eq_of_plain hp.2]
  exact .pure h2 hr (.of_plain h3)
 ·rw[if_neg hp]at h
  rw[DO]at h
  by_cases hu:(isU x||isU y)=true
  ·rw[if_pos hu]at h
   exact Tj_ h hr hx hy
  rw[if_neg hu]at h
  obtain⟨i,s1,h1,h2⟩:=bind_some h
  obtain⟨hi,rfl⟩:=AE h1 he
  obtain⟨b,h3,h4⟩:=Bw h2
  split at h4
  ·obtain⟨rfl,rfl⟩:=Af h4
   exact .pure (by simpa using BE_ (w:=w) hi h3 hx hy xo yo (.inl rfl)) hr (.bool _)
  ·obtain⟨rfl,rfl⟩:=Af h4
   exact .pure (by simpa using BE_ (w:=w) hi h3 hx hy xo yo (.inr rfl)) hr (.bool _)
  ·cases h4
theorem AoT_ {f:Int->Int->St->R Value}{slow:Value->Value->M Value}{x y v:Value}{s s':St}(h:int2 f slow x y s= .some v s'):(∃a b,x= .int .i64 a/\y= .int .i64 b/\f a b s= .some v s')\/slow x y s= .some v s':=by
 unfold int2 Ch at h
 cases x<;>simp only at h
 case int k a=>
  cases y<;>simp only at h
  case int k' b=>
   cases e1:DA k with
   |false=>rw[e1]at h;exact .inr h
   |true=>
    cases e2:DA k' with
    |false=>rw[e1,e2]at h;exact .inr h
    |true=>
     rw[e1,e2]at h
     rw[Nh_ e1,Nh_ e2]
     exact .inl ⟨a,b,rfl,rfl,h⟩
  all_goals exact .inr h
 all_goals exact .inr h
theorem AmB_ {f:Cc}{slow:Value->Value->M Value}{x y v:Value}{s s':St}(h:int3 f slow x y s= .some v s'):(∃(k k':IntKind) (m n:Nat),x= .int k m/\y= .int k' n/\f k k' m n=some v/\s=s')\/slow x y s= .some v s':=by
 unfold int3 Ch at h
 cases x<;>simp only at h
 case int k a=>
  cases y<;>simp only at h
  case int k' b=>
   cases a with
   |negSucc m=>exact .inr h
   |ofNat m=>
    cases b with
    |negSucc n=>exact .inr h
    |ofNat n=>
     simp only at h
     cases e:f k k' m n with
     |none=>rw[e]at h;exact .inr h
     |some u=>rw[e]at h;cases h;exact .inl ⟨k,k',m,n,rfl,rfl,e,rfl⟩
  all_goals exact .inr h
 all_goals exact .inr h
theorem BT {k k':IntKind}{x:Option Value}{v:Value}(h:B0 k k' x=some v):k=k'/\x=some v:=by
 unfold B0 at h
 cases e:Nat.beq (kNum k) (kNum k')with
 |false=>rw[e]at h;cases h
 |true=>rw[e]at h;exact⟨Xv e,h⟩
theorem Dp {b:Bool}{x:Option Value}{v:Value}(h:sOpt b x=some v):b=true/\x=some v:=by
 cases b with
 |false=>cases h
 |true=>exact⟨rfl,h⟩
theorem I4 {k:IntKind}{r:Nat}{v:Value}(h:mkI k r=some v):v= .int k r:=by
 unfold mkI at h
 rw[Ar]at h
 cases h
 rfl
theorem SU_ (k:IntKind){r:Nat}(h:r<=mxOf k):k.wrap (r:Int)=r:=by
 cases k<;>simp only[mxOf]at h<;>simp only[IntKind.wrap,IntKind.bits,IntKind.signed]<;>simp<;>omega
theorem Oj (k:IntKind)(hq:qOf k≠0)(n:Int):k.wrap n=n%(qOf k:Int):=by
 cases k<;>first|exact absurd rfl hq|(simp[IntKind.wrap,IntKind.bits,IntKind.signed,qOf])
theorem Dr {k:IntKind}{r:Nat}{v:Value}(h:fitI k r=some v):v= .int k (k.wrap (r:Int)):=by
 unfold fitI at h
 cases e:Nat.ble r (mxOf k)with
 |true=>
  rw[e]at h
  rw[SU_ k (Nat.le_of_ble_eq_true e)]
  exact I4 h
 |false=>
  rw[e]at h
  cases e2:Nat.beq (qOf k) (nat_lit 0)with
  |true=>rw[e2]at h;cases h
  |false=>
   rw[e2]at h
   have hq:qOf k≠0:=λe=>by rw[e]at e2;cases e2
   rw[Oj k hq]
   exact I4 h
theorem LW (k:IntKind)(n:Int):k.wrap (n%(2^k.bits:Int))=k.wrap n:=by
 unfold IntKind.wrap
 rw[Int.emod_emod_of_dvd _ (Int.dvd_refl _)]
theorem Ha (n m:Nat):(BitVec.ofInt n (m:Int)).toNat=m%2^n:=by
 rw[BitVec.toNat_ofInt]
 norm_cast
theorem Zs_ (k:IntKind)(m n:Nat):k.wrap ((BitVec.ofInt k.bits (m:Int)&&&BitVec.ofInt k.bits (n:Int)).toNat:Int)=k.wrap ((m&&&n:Nat):Int):=by
 rw[BitVec.toNat_and,Ha,Ha,<-Nat.and_mod_two_pow,<-LW k ((m&&&n:Nat):Int)]
 norm_cast
theorem Akd_ (k:IntKind)(m n:Nat):k.wrap ((BitVec.ofInt k.bits (m:Int)|||BitVec.ofInt k.bits (n:Int)).toNat:Int)=k.wrap ((m|||n:Nat):Int):=by
 rw[BitVec.toNat_or,Ha,Ha,<-Nat.or_mod_two_pow,<-LW k ((m|||n:Nat):Int)]
 norm_cast
theorem Xg (k:IntKind)(m n:Nat):k.wrap ((BitVec.ofInt k.bits (m:Int)^^^BitVec.ofInt k.bits (n:Int)).toNat:Int)=k.wrap ((m^^^n:Nat):Int):=by
 rw[BitVec.toNat_xor,Ha,Ha,<-Nat.xor_mod_two_pow,<-LW k ((m^^^n:Nat):Int)]
 norm_cast
theorem RH_ (k:IntKind):btOf k=k.bits:=by cases k<;>rfl
theorem Vv {b:Bool}{v:Value}(h:mkB b=some v):v= .bool b:=by cases b<;>cases h<;>rfl
theorem Ako_ {k k':IntKind}{m n:Nat}{v:Value}(h:addK k k' m n=some v):(binOp .add t (.int k m) (.int k' n)).run E.P w= .ok v w:=by
 have hq0:=BT h
 clear h
 obtain⟨rfl,h⟩:=hq0
 rw[Dr h]
 simp[binOp,Op.intArith]
theorem AaC_ {k k':IntKind}{m n:Nat}{v:Value}(h:mulK k k' m n=some v):(binOp .mul t (.int k m) (.int k' n)).run E.P w= .ok v w:=by
 have hq0:=BT h
 clear h
 obtain⟨rfl,h⟩:=hq0
 rw[Dr h]
 simp[binOp,Op.intArith]
theorem AfX_ {k k':IntKind}{m n:Nat}{v:Value}(h:andK k k' m n=some v):(binOp .and t (.int k m) (.int k' n)).run E.P w= .ok v w:=by
 have hq0:=BT h
 clear h
 obtain⟨rfl,h⟩:=hq0
 rw[Dr h]
 have:=Zs_ k m n
 simp only[binOp,Op.intBits,ne_eq,not_true_eq_false,if_false,this,Sem.run_pure]
 rfl
theorem AnL_ {k k':IntKind}{m n:Nat}{v:Value}(h:orK k k' m n=some v):(binOp .or t (.int k m) (.int k' n)).run E.P w= .ok v w:=by
 have hq0:=BT h
 clear h
 obtain⟨rfl,h⟩:=hq0
 rw[Dr h]
 have:=Akd_ k m n
 simp only[binOp,Op.intBits,ne_eq,not_true_eq_false,if_false,this,Sem.run_pure]
 rfl
theorem AhP_ {k k':IntKind}{m n:Nat}{v:Value}(h:xorK k k' m n=some v):(binOp .xor t (.int k m) (.int k' n)).run E.P w= .ok v w:=by
 have hq0:=BT h
 clear h
 obtain⟨rfl,h⟩:=hq0
 rw[Dr h]
 have:=Xg k m n
 simp only[binOp,Op.intBits,ne_eq,not_true_eq_false,if_false,this,Sem.run_pure]
 rfl
theorem AqU_ {k k':IntKind}{m n:Nat}{v:Value}(h:subK k k' m n=some v):(binOp .sub t (.int k m) (.int k' n)).run E.P w= .ok v w:=by
 have hq0:=BT h
 clear h
 obtain⟨rfl,h⟩:=hq0
 have e:v= .int k (k.wrap ((m:Int)-n)):=by
  cases hb:Nat.ble n m with
  |true=>
   rw[hb]at h
   rw[Dr h]
   have:=Nat.le_of_ble_eq_true hb
   have e1:((Nat.sub m n:Nat):Int)=(m:Int)-n:=by show((m-n:Nat):Int)=_;omega
   rw[e1]
  |false=>
   rw[hb]at h
   obtain⟨h1,h2⟩:=Dp h
   rw[Dr h2]
   have hq:qOf k≠0:=by have:1<=qOf k:=Nat.le_of_ble_eq_true h1;omega
   have hlt:m<n:=by
    rcases Nat.lt_or_ge m n with h|h
    ·exact h
    ·rw[Nat.ble_eq_true_of_le h]at hb;cases hb
   rw[Oj k hq,Oj k hq]
   congr 1
   show(((qOf k-(n-m)%qOf k:Nat)):Int)%(qOf k:Int)=_
   generalize hQ:qOf k=q at hq
   have h3:(n-m)%q<q:=Nat.mod_lt _ J
   have h4:((q-(n-m)%q:Nat):Int)=(q:Int)-(((n-m)%q:Nat):Int):=J
   have h5:(m:Int)-n= -((n-m:Nat):Int):=J
   have h6:(((n-m)%q:Nat):Int)=((n-m:Nat):Int)%(q:Int):=by norm_cast
   have h7:=Int.emod_add_mul_ediv ((n-m:Nat):Int) (q:Int)
   rw[h4,h5,h6]
   rw[show((q:Int)-((n-m:Nat):Int)%q)= -((n-m:Nat):Int)+q*(1+((n-m:Nat):Int)/q) by rw[Int.mul_add,Int.mul_one];omega]
   rw[Int.add_mul_emod_self_left]
 rw[e]
 simp[binOp,Op.intArith]
theorem Ahy_ {k k':IntKind}{m n:Nat}{v:Value}(h:quoK k k' m n=some v):(binOp .quo t (.int k m) (.int k' n)).run E.P w= .ok v w:=by
 have hq0:=BT h
 clear h
 obtain⟨rfl,h⟩:=hq0
 obtain⟨h1,h⟩:=Dp h
 rw[Dr h]
 have hn0:n≠0:=by have:1<=n:=Nat.le_of_ble_eq_true h1;omega
 simp[binOp,Op.intDiv,hn0]
 show k.wrap ((m:Int)/n)=k.wrap ((m/n:Nat):Int)
 rw[Int.natCast_ediv]
theorem AeU_ {k k':IntKind}{m n:Nat}{v:Value}(h:remK k k' m n=some v):(binOp .rem t (.int k m) (.int k' n)).run E.P w= .ok v w:=by
 have hq0:=BT h
 clear h
 obtain⟨rfl,h⟩:=hq0
 obtain⟨h1,h⟩:=Dp h
 rw[I4 h]
 have hn0:n≠0:=by have:1<=n:=Nat.le_of_ble_eq_true h1;omega
 simp[binOp,Op.intDiv,hn0]
 show(m:Int).tmod n=((m%n:Nat):Int)
 rw[Int.natCast_emod]
 exact Int.tmod_eq_emod_of_nonneg J
theorem ST_ {k k':IntKind}{m n:Nat}{v:Value}(h:shlK k k' m n=some v):(binOp .shl t (.int k m) (.int k' n)).run E.P w= .ok v w:=by
 obtain⟨h1,h⟩:=Dp h
 rw[Dr h]
 have hn:n<=k.bits:=by rw[<-RH_];exact Nat.le_of_ble_eq_true h1
 have e:((Nat.shiftLeft m n:Nat):Int)=(m:Int)*2^n:=by
  show((m<<<n:Nat):Int)=_
  rw[Nat.shiftLeft_eq]
  norm_cast
 rw[e]
 simp[binOp,Op.shift,Nat.min_eq_left hn]
 intro hneg
 omega
theorem VQ_ {k k':IntKind}{m n:Nat}{v:Value}(h:shrK k k' m n=some v):(binOp .shr t (.int k m) (.int k' n)).run E.P w= .ok v w:=by
 obtain⟨h1,h⟩:=Dp h
 rw[I4 h]
 have hn:n<=k.bits:=by rw[<-RH_];exact Nat.le_of_ble_eq_true h1
 have e:((Nat.shiftRight m n:Nat):Int)=(m:Int).fdiv (2^n):=by
  show((m>>>n:Nat):Int)=_
  rw[Nat.shiftRight_eq_div_pow]
  rw[Int.fdiv_eq_ediv_of_nonneg _ (Int.le_of_lt (Int.pow_pos J))]
  norm_cast
 rw[e]
 simp[binOp,Op.shift,Nat.min_eq_left hn]
 intro hneg
 omega
theorem UU_ {op:BinOp}{c:Nat->Nat->Bool}{k k':IntKind}{m n:Nat}{v:Value}(h:cmpK c k k' m n=some v)(hc:(Op.intCmp op (m:Int) (n:Int)).run E.P w= .ok (.bool (c m n)) w)
  (ho:op= .lss\/op= .gtr\/op= .leq\/op= .geq\/op= .eql\/op= .neq):(binOp op t (.int k m) (.int k' n)).run E.P w= .ok v w:=by
 have hq0:=BT h
 clear h
 obtain⟨rfl,h⟩:=hq0
 rw[Vv h,<-hc]
 rcases ho with rfl|rfl|rfl|rfl|rfl|rfl<;>simp[binOp]
theorem Ams_ {op:BinOp}{k k':IntKind}{m n:Int}{xo yo:Operand}:(eqGuard op t xo yo (.int k m) (.int k' n)).run E.P w= .ok () w:=by
 cases op<;>simp[eqGuard]
theorem De {op:BinOp}{f:Cc}{slow:Value->Value->M Value}{x x' y y' v:Value}{xo yo:Operand}{s s':St}(h:int3 f slow x y s= .some v s')(hf: ∀{k k':IntKind} {m n:Nat} {v:Value},f k k' m n=some v->(binOp op t (.int k m) (.int k' n)).run E.P w= .ok v w)
  (hp: ∀{k k':IntKind} {m n:Nat} {v:Value},f k k' m n=some v->plain v=true)
  (hs:slow x y s= .some v s'->Yields E w0 r s s' v w (do eqGuard op t xo yo x' y';binOp op t x' y')) (hr:Rel w0 r s.mem w) (hx:VR r x x') (hy:VR r y y'):Yields E w0 r s s' v w (do eqGuard op t xo yo x' y';binOp op t x' y'):=by
 rcases AmB_ h with⟨k,k',m,n,rfl,rfl,h1,rfl⟩|h1
 ·have e1:=hx.int_inv
  have e2:=hy.int_inv
  subst e1;subst e2
  refine .pure ?_ hr (.of_plain (hp h1))
  simp only[Sem.run_bind,Ams_,Result.andThen_ok,hf h1]
 ·exact hs h1
theorem Es {k:IntKind}{r:Nat}{v:Value}(h:fitI k r=some v):plain v=true:=by rw[Dr h];rfl
theorem Lq_ {k:IntKind}{r:Nat}{v:Value}(h:mkI k r=some v):plain v=true:=by rw[I4 h];rfl
theorem AkM_ {k k':IntKind}{m n:Nat}{v:Value}(h:subK k k' m n=some v):plain v=true:=by
 have hq0:=BT h
 clear h
 obtain⟨rfl,h⟩:=hq0
 cases hb:Nat.ble n m with
 |true=>rw[hb]at h;exact Es h
 |false=>rw[hb]at h;exact Es (Dp h).2
theorem YH_ {op:BinOp}{x x' y y' v:Value}{xo yo:Operand}{s s':St}{f:Value->Value->M Value}(hc:aBin E op t xo yo= .mk f)(he:EnvTy E)(h:f x y s= .some v s')(hr:Rel w0 r s.mem w)(hx:VR r x x')(hy:VR r y y'):
  Yields E w0 r s s' v w (do eqGuard op t xo yo x' y';binOp op t x' y'):=by
 have slow: ∀{op:BinOp},AJ E op t xo yo x y s= .some v s'->Yields E w0 r s s' v w (do eqGuard op t xo yo x' y';binOp op t x' y'):=λh=>Ze_ he h hr hx hy
 have cmp: ∀{op:BinOp} {c:Nat->Nat->Bool},int3 (cmpK c) (AJ E op t xo yo) x y s= .some v s'->(op= .lss\/op= .gtr\/op= .leq\/op= .geq\/op= .eql\/op= .neq)->(∀m n:Nat,(Op.intCmp op (m:Int) (n:Int)).run E.P w= .ok (.bool (c m n)) w)->
   Yields E w0 r s s' v w (do eqGuard op t xo yo x' y';binOp op t x' y'):=λh ho hc=>
  De h (λe=>UU_ e (hc _ _) ho) (λe=>by rw[Vv (BT e).2];rfl) slow hr hx hy
 cases op
 all_goals
  cases hc
  first
  |exact slow h
  |exact De h AaC_ (λe=>Es (BT e).2) slow hr hx hy
  |exact De h Ahy_ (λe=>Es (Dp (BT e).2).2) slow hr hx hy
  |exact De h AeU_ (λe=>Lq_ (Dp (BT e).2).2) slow hr hx hy
  |exact De h AfX_ (λe=>Es (BT e).2) slow hr hx hy
  |exact De h AnL_ (λe=>Es (BT e).2) slow hr hx hy
  |exact De h AhP_ (λe=>Es (BT e).2) slow hr hx hy
  |exact De h ST_ (λe=>Es (Dp e).2) slow hr hx hy
  |exact De h VQ_ (λe=>Lq_ (Dp e).2) slow hr hx hy
  |rcases AoT_ h with⟨a,b,rfl,rfl,h2⟩|h2
   ·have e1:=hx.int_inv
    have e2:=hy.int_inv
    subst e1;subst e2
    first
    |obtain⟨rfl,rfl⟩:=AiR_ h2
     refine .pure ?_ hr (.int _ _)
     simp[eqGuard,binOp,Op.intArith,LB,XH]
    |obtain⟨rfl,rfl⟩:=Dn_ h2
     refine .pure ?_ hr (.bool _)
     simp only[HH,N9,<-decide_not,Int.not_lt]
     first
     |simp[eqGuard,binOp,Op.intCmp];done
     |simp[eqGuard,binOp,Op.intCmp,bne];rw[Bool.eq_iff_iff];simp
   ·first
    |exact De h2 Ako_ (λe=>Es (BT e).2) slow hr hx hy
    |exact De h2 AqU_ (λe=>AkM_ e) slow hr hx hy
    |refine cmp h2 am λm n=> ?_
     simp only[Op.intCmp,Sem.run_pure,Nc,Qr]
     congr 2
     rw[Bool.eq_iff_iff]
     simp<;>omega
end
section
variable {E:Env}{w0 w:World}{r:Inj}{t:Nat}
theorem LO {op:UnOp}{x x' v:Value}{s s':St}(h:CX E.P op x s= .some v s')(hr:Rel w0 r s.mem w)(hx:VR r x x'):Yields E w0 r s s' v w (Op.unary op x'):=by
 obtain⟨hp,h⟩:=AV h
 obtain⟨rfl,h2,h3⟩:=GH (w:=w) h
 rw[hx.eq_of_plain hp]
 exact .pure h2 hr (.of_plain h3)
theorem Amy_ (k:IntKind)(hq:qOf k≠0):(if k.signed then -1 else k.max)=(mxOf k:Int):=by
 cases k<;>first|exact absurd rfl hq|rfl
theorem AaL_ {op:UnOp}{x x' v:Value}{s s':St}(h:kUn E.P op x s= .some v s')(hr:Rel w0 r s.mem w)(hx:VR r x x'):Yields E w0 r s s' v w (Op.unary op x'):=by
 unfold kUn at h
 split at h
 ·obtain⟨rfl,rfl⟩:=Dn_ h
  cases hx
  exact .pure (by simp[Op.unary]) hr (.bool _)
 ·obtain⟨rfl,rfl⟩:=Af h
  cases hx with
  |complex e=>
   obtain⟨b,rfl⟩:=e
   exact .pure (by simp[Op.unary]) hr (.complex ⟨!b,rfl⟩)
 ·cases x with
  |int k n=>
   cases n with
   |negSucc m=>refine LO (op:= .xor) ?_ hr hx;exact h
   |ofNat m=>
    replace h:Option.rec (motive:=λ_=>M Value) (CX E.P .xor (.int k (.ofNat m))) (λx=>M.pure x) (notK k m) s= .some v s':=h
    cases e:notK k m with
    |none=>rw[e]at h;refine LO (op:= .xor) ?_ hr hx;exact h
    |some u=>
     rw[e]at h
     obtain⟨rfl,rfl⟩:=Af h
     obtain⟨h1,h2⟩:=Dp e
     have hq:qOf k≠0:=by have:1<=qOf k:=Nat.le_of_ble_eq_true h1;omega
     have hx':=hx.int_inv
     subst hx'
     rw[Dr h2]
     refine .pure ?_ hr (.int _ _)
     have:=Xg k (mxOf k) m
     rw[<-Amy_ k hq]at this
     simp only[Op.unary,Op.intBits,Int.ofNat_eq_natCast,this,Sem.run_pure]
     rfl
  |_=>refine LO (op:= .xor) ?_ hr hx;exact h
 ·exact LO h hr hx
theorem Abc_ {v:Value}{b:UInt8}(h:KF v=some b): ∃n:Nat,v= .int .u8 n/\b=UInt8.ofNat n:=by
 unfold KF at h
 split at h
 ·cases h;exact⟨_,rfl,rfl⟩
 ·cases h
theorem D4 {α β:Type}{x:Option α}{K:α->Option β}{b:β}(h:onO x K=some b): ∃a,x=some a/\K a=some b:=by
 cases x with
 |none=>cases h
 |some a=>exact⟨a,rfl,h⟩
theorem Yn: ∀{l:List Value} {bs:List UInt8},G7 l=some bs-> ∃ns:List Nat,l=ns.map (λn:Nat=>Value.int .u8 (n:Int))/\bs=ns.map UInt8.ofNat
 |[],bs,h=>by cases h;exact⟨[],rfl,rfl⟩
 |v::l,bs,h=>by
  have h0:onO (KF v) (λb=>onO (G7 l) λl=>some (b::l))=some bs:=h
  obtain⟨b,h1,h2⟩:=D4 h0
  obtain⟨bs',h3,h4⟩:=D4 h2
  obtain⟨n,rfl,rfl⟩:=Abc_ h1
  obtain⟨ns,rfl,rfl⟩:=Yn h3
  cases h4
  exact⟨n::ns,rfl,rfl⟩
theorem NW_: ∀(ns:List Nat) (acc:ByteArray),(ns.map λn:Nat=>(n:Int)).foldl (λr n=>r.push (UInt8.ofNat n.toNat)) acc=⟨acc.data++(ns.map UInt8.ofNat).toArray⟩
 |[],acc=>am
 |n::ns,acc=>by
  simp only[List.map_cons,List.foldl_cons]
  rw[NW_ ns]
  simp[ByteArray.push]
theorem Xh_ {a a':Addr}{n c:Nat}{v:Value}{s s':St}(h:strOf a n s= .some v s')(hr:Rel w0 r s.mem w)(ha:AR r a a'):Yields E w0 r s s' v w (Conv.bytesToString (.slice (some a') n c)):=by
 obtain⟨l,s1,h1,h2⟩:=bind_some h
 obtain⟨bs,h3,h4⟩:=Bw h2
 obtain⟨rfl,rfl⟩:=Af h4
 obtain⟨ns,rfl,rfl⟩:=Yn h3
 obtain⟨l',g1,g2,g3,g4⟩:=DS _ h1 hr ha
 have hl:l'=ns.map (λn:Nat=>Value.int .u8 (n:Int)):=Re g3 (by
  rw[List.all_eq_true]
  intro v hv
  obtain⟨n,_,rfl⟩:=List.mem_map.1 hv
  rfl)
 subst hl
 have hrun:=run_loadCells_list (P:=E.P) w a' _ g2
 rw[g1]at hrun
 refine .same (v':= .string ⟨(ns.map UInt8.ofNat).toArray⟩) ?_ g4 hr (.string _)
 rw[run_bytesToString w a' n c (ns.map λn:Nat=>(n:Int)) (by rw[List.map_map];exact hrun),NW_]
 simp[ByteArray.empty,ByteArray.emptyWithCapacity]
 rfl
theorem Sl {d:Nat}{x x' v:Value}{s s':St}(he:EnvTy E)(h:DH E t d x s= .some v s')(hr:Rel w0 r s.mem w)(hx:VR r x x'):Yields E w0 r s s' v w (convert t d x'):=by
 unfold DH at h
 split at h
 ·rename_i a n c
  obtain⟨is,s1,h1,h2⟩:=bind_some h
  obtain⟨his,rfl⟩:=AE h1 he
  obtain⟨id,s1,h3,h4⟩:=bind_some h2
  obtain⟨hid,rfl⟩:=AE h3 he
  generalize hu:is.u=u at h4
  generalize hu2:id.u=u2 at h4
  split at h4
  ·rename_i e
   obtain⟨ie,s1,h5,h6⟩:=bind_some h4
   obtain⟨hie,rfl⟩:=AE h5 he
   generalize hu3:ie.u=u3 at h6
   split at h6
   ·have e1:=his.und
    have e2:=hid.und
    have e3:=hie.und
    rw[hu]at e1;rw[hu2]at e2;rw[hu3]at e3
    rcases hx.sl_inv with⟨a2,c2,rfl,ha2,hc,_⟩|⟨rfl,_,_,a2,c2,rfl⟩
    ·obtain⟨v',w',r',g1,g2⟩:=Xh_ (E:=E) (c:=c2) h6 hr ha2
     exact⟨v',w',r',by rw[run_convert_bytes_string w t d e _ _ _ e1 e3 e2];exact g1,g2⟩
    ·obtain⟨l,s1,h1,h2⟩:=bind_some h6
     obtain⟨rfl,rfl⟩:=Af h1
     obtain⟨bs,h3,h4⟩:=Bw h2
     obtain⟨rfl,rfl⟩:=Af h4
     cases h3
     refine .pure (v':= .string ⟨#[]⟩) ?_ hr (.string _)
     rw[run_convert_bytes_string w t d e _ _ _ e1 e3 e2]
     simp[Conv.bytesToString,loadCells,loadCellsFrom,ByteArray.empty,ByteArray.emptyWithCapacity]
     rfl
   ·cases h6
  ·cases h4
 ·rename_i k n
  obtain⟨is,s1,h1,h2⟩:=bind_some h
  obtain⟨his,rfl⟩:=AE h1 he
  obtain⟨id,s1,h3,h4⟩:=bind_some h2
  obtain⟨hid,rfl⟩:=AE h3 he
  have e1:=hx.int_inv
  subst e1
  generalize hu2:id.u=u2 at h4
  split at h4
  ·rename_i k'
   rw[Cd,HZ_]at h4
   obtain⟨rfl,rfl⟩:=Af h4
   refine .pure (v':= .int k' (k'.wrap n)) ?_ hr (.int _ _)
   have e2:=hid.run_und (w:=w)
   rw[hu2]at e2
   simp[convert,his.run_und,e2,Conv.intToInt]
  ·obtain⟨rfl,h2,h3⟩:=GH (w:=w) h4
   exact .pure h2 hr (.of_plain h3)
 ·obtain⟨hp,h⟩:=AV h
  obtain⟨rfl,h2,h3⟩:=GH (w:=w) h
  rw[hx.eq_of_plain hp]
  exact .pure h2 hr (.of_plain h3)
theorem Aag_ {x x' ix ix' v:Value}{s s':St}(he:EnvTy E)(h:kIdx E t x ix s= .some v s')(hr:Rel w0 r s.mem w)(hx:VR r x x')(hix:VR r ix ix'):Yields E w0 r s s' v w (Instr.index t x' ix'):=by
 obtain⟨i,s1,h1,h2⟩:=bind_some h
 obtain⟨hi,rfl⟩:=AE h1 he
 obtain⟨k,s1,h3,h4⟩:=bind_some h2
 obtain⟨⟨kd,rfl⟩,rfl⟩:=K5 h3
 have e1:=hix.int_inv
 subst e1
 have hund:=hi.run_und (w:=w)
 generalize i.u=u at h4 hund
 unfold idxV at h4
 split at h4
 ·rename_i n e cs
  obtain⟨ie,s3,h9,h10⟩:=bind_some h4
  obtain⟨hie,rfl⟩:=AE h9 he
  obtain⟨h7,h8⟩:=AV h10
  have hk:k<n:=Bg h7
  obtain⟨c',rfl,hc⟩:=hx.agg_inv
  obtain⟨rfl,v',g1,g2⟩:=UO (w:=w) he h8 hc
  refine .pure (v':=v') ?_ hr g2
  simp[Instr.index,asIntOf,hund,hie.run_size]
  rw[if_pos J]
  simp[g1]
 ·rename_i st
  obtain⟨b,h5,h6⟩:=Bw h4
  obtain⟨rfl,rfl⟩:=Af h6
  cases hx
  refine .pure (v':= .int .u8 b.toNat) ?_ hr (.int _ _)
  have e1:st[k]?=some b:=by
   obtain⟨h7,h8⟩:=List.getElem?_eq_some_iff.1 h5
   have h9:k<st.size:=by simpa using h7
   rw[getElem?_pos st k h9,<-h8]
   simp
   rfl
  simp[Instr.index,asIntOf,hund,e1]
 ·cases h4
theorem AeH_ {x x' v:Value}{s s':St}{ts:Array TypeId}{ty:TypeId}(hts:ts[0]?=some t)(he:EnvTy E)(h:aCap E t x s= .some v s')(hr:Rel w0 r s.mem w)(hx:VR r x x'):Yields E w0 r s s' v w (Builtin.cap_ ts ty #[x']):=by
 obtain⟨i,s1,h1,h2⟩:=bind_some h
 obtain⟨hi,rfl⟩:=AE h1 he
 have hund:=hi.run_und (w:=w)
 generalize i.u=u at h2 hund
 split at h2
 ·obtain⟨h3,h2⟩:=AV h2
  obtain⟨rfl,rfl⟩:=FS h2
  have hlt:=Bg h3
  cases hx with
  |slNil=>exact .pure (v':= .int .i64 _) (by simp[Builtin.cap_,hts,hund,goInt]) hr (.int _ _)
  |sl hb hc hl=>
   rcases hc with⟨_,rfl⟩|⟨h5,_⟩
   ·exact .pure (v':= .int .i64 _) (by simp[Builtin.cap_,hts,hund,goInt]) hr (.int _ _)
   ·exact absurd (Nat.div_eq_of_lt hlt) h5
  |slEnd h5 _=>exact absurd (Nat.div_eq_of_lt hlt) h5
 ·cases h2
theorem AbB_ {x x':Value}{m:Nat}{s s':St}(h:lenOf x s= .some m s')(hx:VR r x x'):s=s'/\(Builtin.lenOf x').run E.P w= .ok m w:=by
 unfold lenOf at h
 split at h
 ·obtain⟨rfl,rfl⟩:=Af h
  cases hx<;>exact⟨rfl,by simp[Builtin.lenOf]⟩
 ·obtain⟨rfl,rfl⟩:=Af h
  cases hx
  exact⟨rfl,by simp[Builtin.lenOf]⟩
 ·cases h
theorem Sy_ (l:List UInt8):VRs r (CG l) (CG l):=Ej λv hv=>by
 obtain⟨b,_,rfl⟩:=List.mem_map.1 hv
 rfl
theorem Zz_ {size k:Nat}{x x':Value}{l:List Value}{s s':St}(h:srcL size x k s= .some l s')(hr:Rel w0 r s.mem w)(hx:VR r x x')(hk: ∀b o c,x= .slice b o c->k<=o):
  ∃l':List Value,(Builtin.firstCells size k x').run E.P w= .ok l'.toArray w/\VRs r l l'/\Same s s':=by
 unfold srcL at h
 split at h
 ·rename_i a n c
  rcases hx.sl_inv with⟨a2,c2,rfl,ha2,hc,_⟩|⟨rfl,_,_,a2,c2,rfl⟩
  ·obtain⟨l',g1,g2,g3,g4⟩:=DS _ h hr ha2
   have hrun:=run_loadCells_list (P:=E.P) w a2 _ g2
   rw[g1]at hrun
   exact⟨l',by simpa [Builtin.firstCells]using hrun,g3,g4⟩
  ·have hk0:k=0:=Nat.le_zero.1 (hk _ _ _ rfl)
   subst hk0
   rw[Nat.zero_mul]at h
   obtain⟨rfl,rfl⟩:=Af h
   exact⟨[],by simp[Builtin.firstCells,loadCells,loadCellsFrom], .nil, .refl _⟩
 ·obtain⟨rfl,rfl⟩:=Af h
  cases hx
  exact⟨[],by simp[Builtin.firstCells], .nil, .refl _⟩
 ·rename_i st
  obtain⟨rfl,rfl⟩:=Af h
  cases hx
  refine⟨CG (st.data.toList.take k), ?_,Sy_ _, .refl _⟩
  simp only[Builtin.firstCells,Sem.run_pure]
  congr 1
  apply Array.ext'
  simp[CG,Array.toList_extract]
 ·cases h
theorem LM_ {size:Nat}{x:Value}{l:List Value}{s s':St}(h:srcL size x 0 s= .some l s'):l=[]/\s=s':=by
 unfold srcL at h
 split at h
 ·rw[Nat.zero_mul]at h
  obtain⟨rfl,rfl⟩:=Af h
  exact⟨rfl,rfl⟩
 ·obtain⟨rfl,rfl⟩:=Af h
  exact⟨rfl,rfl⟩
 ·obtain⟨rfl,rfl⟩:=Af h
  exact⟨rfl,rfl⟩
 ·cases h
theorem Afc_ {d:Option Addr}{n c:Nat}{y' x x' v:Value}{s s':St}{ts:Array TypeId}{ty:TypeId}(hts:ts[0]?=some t)(he:EnvTy E)(h:Fu E t d n x s= .some v s')(hr:Rel w0 r s.mem w)(hd:VR r (.slice d n c) y')(hx:VR r x x'):
  Yields E w0 r s s' v w (Builtin.copy_ ts ty #[y',x']):=by
 obtain⟨i,s1,h1,h2⟩:=bind_some h
 obtain⟨hi,rfl⟩:=AE h1 he
 have hund:=hi.run_und (w:=w)
 generalize i.u=u at h2 hund
 split at h2
 ·rename_i e
  obtain⟨ie,s1,h3,h4⟩:=bind_some h2
  obtain⟨hie,rfl⟩:=AE h3 he
  obtain⟨m,s1,h5,h6⟩:=bind_some h4
  obtain⟨rfl,g1⟩:=AbB_ (E:=E) (w:=w) h5 hx
  split at h6
  ·obtain⟨rfl,rfl⟩:=FS h6
   cases hd
   have g2:(Builtin.firstCells ie.size 0 x').run E.P w= .ok #[] w:=by
    unfold lenOf at h5
    split at h5
    ·cases hx<;>simp[Builtin.firstCells,loadCells,loadCellsFrom]
    ·cases hx
     simp[Builtin.firstCells]
    ·cases h5
   exact .pure (v':= .int .i64 ((0:Nat):Int)) (by simp[Builtin.copy_,hts,hund,hie.run_size,g1,g2,goInt]) hr (.int _ _)
  ·rename_i a
   rw[Ar]at h6
   obtain⟨l,s1,h7,h8⟩:=bind_some h6
   obtain⟨u1,s2,h9,h10⟩:=bind_some h8
   obtain⟨rfl,rfl⟩:=FS h10
   have hk: ∀b o c,x= .slice b o c->Nat.min n m<=o:=by
    intro b o c hxe
    subst hxe
    obtain⟨rfl,_⟩:=Af h5
    exact Nat.min_le_right _ _
   obtain⟨l',g2,g3,g4⟩:=Zz_ (E:=E) h7 hr hx hk
   have g2':(Builtin.firstCells ie.size (Nat.min m n) x').run E.P w= .ok l'.toArray w:=by
    rw[show Nat.min m n=Nat.min n m from Nat.min_comm m n];exact g2
   rcases hd.sl_inv with⟨a2,c2,rfl,ha2,hc,_⟩|⟨rfl,_,_,a2,c2,rfl⟩
   ·obtain⟨w',k1,k2,k3,k4,k5⟩:=Iy (P:=E.P) _ _ 0 h9 (by rw[g4.1];exact hr) (by simpa [Addr.add]using ha2) g3
    refine⟨.int .i64 (Nat.min n m:Nat),w',r, ?_, .of_rel (k3.trans g4.2.1) k2, .int _ _,k4.trans g4.2.2.1,k5.trans g4.2.2.2⟩
    simp[Builtin.copy_,hts,hund,hie.run_size,g1,goInt]
    simp only[g2']
    simp[k1]
    rw[show Nat.min m n=Nat.min n m from Nat.min_comm m n]
   ·have h0:Nat.min 0 m=0:=Nat.zero_min m
    have h0':Nat.min m 0=0:=Nat.min_zero m
    rw[h0]at h7 g2 ⊢
    rw[h0']at g2'
    obtain⟨rfl,rfl⟩:=LM_ h7
    have hl:l'=[]:=g3.inv_nil
    subst hl
    obtain⟨_,rfl⟩:=Af h9
    refine .pure (v':= .int .i64 ((0:Nat):Int)) ?_ hr (.int _ _)
    simp[Builtin.copy_,hts,hund,hie.run_size,g1,goInt]
    simp only[g2]
    simp[storeCells]
 ·cases h2
theorem Jz_ {i:TI}{z:Value}{s s':St}(hi:TyOK E.P t i)(h:zeroV i s= .some z s'):s=s'/\(zeroValue t).run E.P w= .ok z w/\VR r z z:=by
 obtain⟨n,q1,q2,q3,z',q4,q5⟩:=hi.info
 have hz:=hi.zagg n z' q1 q4
 have hrun:(zeroValue t).run E.P w= .ok z' w:=by simp[zeroValue,typeInfo,program,Sem.run,q1,q4]
 unfold zeroV at h
 rw[DO]at h
 by_cases hg:i.agg=true
 ·rw[if_pos hg]at h
  obtain⟨rfl,rfl⟩:=Af h
  rw[hg]at hz
  cases z' with
  |agg cs=>
   have e:cs.toList=i.zero:=q5
   have e2:Value.agg cs= .agg i.zero.toArray:=by rw[<-e]
   rw[e2]at hrun
   exact⟨rfl,hrun,(Ej (r:=r) hi.pl).agg⟩
  |_=>cases hz
 ·rw[if_neg hg]at h
  obtain⟨h1,rfl⟩:=DR h
  have hz':aggV z'=false:=by rw[hz];simpa using hg
  have e:i.zero=[z']:=by
   rw[<-q5]
   cases z'<;>first|rfl|cases hz'
  rw[e]at h1
  simp at h1
  subst h1
  exact⟨rfl,hrun, .of_plain (hi.pl _ (by rw[e];simp))⟩
theorem VR.pair {a a' b b':Value}(h:VR r a a')(k:VR r b b'):VR r (.tuple #[a,b]) (.tuple #[a',b']):= .tuple rfl λi v v' e e'=>by
 match i with
 |0=>simp at e e';subst e;subst e';exact h
 |1=>simp at e e';subst e;subst e';exact k
 |i+2=>simp at e
theorem Adq_ {l l':List Value}{ts:Array TypeId}{ty:TypeId}{v:Value}{s s':St}(h:M.chk (l.all plain) (M.on (semP E.P (Builtin.min_ #[] 3 l.toArray)) pV) s= .some v s')(hr:Rel w0 r s.mem w)(hl:VRs r l l'):Yields E w0 r s s' v w (Builtin.min_ ts ty l'.toArray):=by
 obtain⟨hp,h⟩:=AV h
 obtain⟨rfl,h2,h3⟩:=GH (w:=w) h
 rw[Re hl hp]
 exact .pure h2 hr (.of_plain h3)
theorem ApA_ {l l':List Value}{ts:Array TypeId}{ty:TypeId}{v:Value}{s s':St}(h:M.chk (l.all plain) (M.on (semP E.P (Builtin.max_ #[] 3 l.toArray)) pV) s= .some v s')(hr:Rel w0 r s.mem w)(hl:VRs r l l'):Yields E w0 r s s' v w (Builtin.max_ ts ty l'.toArray):=by
 obtain⟨hp,h⟩:=AV h
 obtain⟨rfl,h2,h3⟩:=GH (w:=w) h
 rw[Re hl hp]
 exact .pure h2 hr (.of_plain h3)
end
section
variable {w0 w:World}{r:Inj}{mem:T Cell}
theorem Rel.lessTok (h:Rel w0 r mem w){mem':T Cell}(hm: ∀loc c,T.get mem' loc=some c->T.get mem loc=some c\/ ∃sz,c= .O (.tok true sz)/\sz<1024):Rel w0 r mem' w:=by
 have cel: ∀loc b v,T.get mem' loc=some (.C b v)->T.get mem loc=some (.C b v):=by
  intro loc b v e
  rcases hm _ _ e with e|⟨sz,e,_⟩
  ·exact e
  ·cases e
 have obj: ∀loc o,o.isTok=false->T.get mem' loc=some (.O o)->T.get mem loc=some (.O o):=by
  intro loc o ht e
  rcases hm _ _ e with e|⟨sz,e,_⟩
  ·exact e
  ·cases e;cases ht
 have tok: ∀loc sz,T.get mem' loc=some (.O (.tok false sz))->T.get mem loc=some (.O (.tok false sz)):=by
  intro loc sz e
  rcases hm _ _ e with e|⟨sz,e,_⟩
  ·exact e
  ·cases e
 exact⟨h.below,h.dom,λl b v e=>h.cell l b v (cel _ _ _ e),λl1 l2 b1 v1 b2 v2 b' d1 d2 e1 e2=>h.sep l1 l2 b1 v1 b2 v2 b' d1 d2 (cel _ _ _ e1) (cel _ _ _ e2),λl o e t=>h.obj l o (obj _ _ t e) t,
  λl1 l2 o1 o2 b' d1 d2 e1 e2 t1 t2=>h.sepO l1 l2 o1 o2 b' d1 d2 (obj _ _ t1 e1) (obj _ _ t2 e2) t1 t2,
  λt sz e=>let ⟨k,g1,g2,g3,g4,g5,g6⟩:=h.tok t sz (tok _ _ e);⟨k,g1,g2,g3,g4,g5,λl b v d e1=>g6 l b v d (cel _ _ _ e1)⟩,
  λt1 t2 s1 s2 k1 k2 e1 e2=>h.sepT t1 t2 s1 s2 k1 k2 (tok _ _ e1) (tok _ _ e2),h.known,λl n e=>by
   rcases hm _ _ e with e|⟨sz,e,hz⟩
   ·exact h.szs l n e
   ·cases e;omega,
  h.oldsTo (Inj.le_refl r) λloc c e=>by
   rcases hm _ _ e with e|⟨sz,e,hz⟩
   ·exact .inl e
   ·exact .inr (.inr (.inl ⟨_,_,e,λn _ hn=>J⟩))⟩
theorem Goes.mark {s s' s2:St}{w':World}{r1:Inj}(g:Goes w0 r s s' r1 w'){m:Nat}{k:Tok}(hn:s2.next=s'.next)(h1:s.next<=m)(h2:m<s'.next)(hm:r1.ext m=none)(hr:Rel w0 (r1.mark m k) s2.mem w'):Goes w0 r s s2 (r1.mark m k) w':=by
 refine⟨Inj.le_trans g.le (Inj.mark_le k hm),by rw[hn];exact g.nxt,λb hb=>by rw[hn];exact g.domB b hb,λb hb=> ?_,hr⟩
 by_cases e:b=m
 ·rw[hn,e];exact .inr ⟨h1,h2⟩
 ·rw[hn]
  refine g.domE b ?_
  have:(r1.mark m k).ext b=r1.ext b:=if_neg e
  rw[<-this];exact hb
theorem Aqv_ {vs vs':List Value}{s s1 s2:St}{b m sz x q:Nat}{u:Unit}(hr:Rel w0 r s.mem w)(hn:newL vs s= .some b s1)(hw:wrC m (.O (.tok false q)) s1= .some u s2)(hq:sz=q%1024)(hm:m=s.next+vs.length)(hf:AK r s.next s2.next)
  (hv:VRs r vs vs') {c:Array Value} (e:TypeId) (hc: ∀(i:Nat) (v:Value),vs'[i]?=some v->c[i]?=some v) (hsz:c.size=vs'.length+x*sz) (hK:1024<=q-> ∀i v,vs'.length<=i->c[i]?=some v-> ∃m,v= .int .u8 m) (hB:1024<=q->c.size<=9223372036854775807):
  ∃r',Goes w0 r s s2 r' (w.alloc (.cells c e))/\r'.blk s.next=some (w.heap.size,0)/\r'.ext m=some ⟨x,w.heap.size,vs.length,sz⟩/\s2.lim=s.lim/\s2.cx=s.cx/\b=s.next:=by
 obtain⟨k1,k2,k3,k4⟩:=Gd hw
 obtain⟨n1,n2,n3,n4,n5⟩:=IC hn
 rw[k2]at hf
 obtain⟨g1,g2,g3,g4,g5⟩:=HA hn hr hf hv e hc
 have hm1:s.next<=m:=J
 have hm2:m<s1.next:=J
 have hE:(r.add s.next (w.heap.size,0)).ext m=none:=(hf m hm1 hm2).2
 refine⟨(r.add s.next (w.heap.size,0)).mark m ⟨x,w.heap.size,vs.length,sz⟩, ?_,aE _ _ _,aP _ _ _,k3.trans g4,k4.trans g5,n1⟩
 refine Goes.mark g2 k2 hm1 hm2 hE ?_
 rw[k1]
 refine g2.rel.newTok hE hq hr.below.size (by rw[World.size_alloc];exact Nat.lt_succ_self _) ?_ ?_ ?_
 ·intro j hj
  have hj':j<x*sz:=hj
  have h1:vs.length+j<c.size:=by rw[hsz,hv.1];omega
  exact⟨c[vs.length+j],by rw[ZA];exact Array.getElem?_eq_getElem h1,Nu_ _ _ _ _,λh=>⟨hK h _ _ (by rw[hv.1];omega) (Array.getElem?_eq_getElem h1),by
   have hb:=hB h
   rw[hsz,<-hv.1]at hb
   exact hb⟩⟩
 ·intro loc b1 v1 d e1 e2
  rw[n2]at e1
  rcases FA _ _ _ _ _ _ e1 with⟨i,y,q1,q2,q3⟩|q
  ·cases q3
   rw[aE]at e2
   cases e2
   have:=(List.getElem?_eq_some_iff.1 q2).1
   show loc-s.next+0<vs.length
   omega
  ·obtain⟨b2,d2,_,_,g7,_⟩:=hr.cell _ _ _ q
   by_cases hb:b1=s.next
   ·rw[hb,(hf s.next (Nat.le_refl _) J).1]at g7;cases g7
   ·rw[aF _ hb]at e2
    exact absurd (hr.dom _ _ _ e2).2 (Nat.lt_irrefl _)
 ·intro t2 s3 k2 e1 e2
  rw[n2]at e1
  rcases FA _ _ _ _ _ _ e1 with⟨i,y,q1,q2,q3⟩|q
  ·cases q3
  ·obtain⟨k,g7,_,_,g8,_⟩:=hr.tok _ _ q
   have e2':r.ext t2=some k2:=e2
   rw[g7]at e2'
   cases e2'
   exact Nat.ne_of_lt g8
theorem Rel.overlay (h:Rel w0 r mem w){b:Nat}(hb:r.blk b=none){vs vs':List Value}(hv:VRs r vs vs'){bb o:Nat}(hb1:w0.heap.size<=bb)(hb2:bb<w.heap.size)
  (hvs: ∀(i:Nat) (v:Value),vs'[i]?=some v->w.cell? ⟨bb,o+i,none⟩=some v) (hfr: ∀i,i<vs.length->w.frozen? ⟨bb,o+i,none⟩=false)
  (hno: ∀loc b v d,T.get mem loc=some (.C b v)->r.blk b=some (bb,d)->loc-b+d<o)
  (htk: ∀t2 s2 k2,T.get mem t2=some (.O (.tok false s2))->r.ext t2=some k2->k2.b≠bb) {mem':T Cell}
  (hm: ∀loc x,T.get mem' loc=some x->(∃i v,loc=b+i/\vs[i]?=some v/\x= .C b v)\/T.get mem loc=some x):Rel w0 (r.add b (bb,o)) mem' w:=by
 have hle:=bB (bb,o) hb
 have notb: ∀loc b1 v1,T.get mem loc=some (.C b1 v1)->b1≠b:=by
  intro loc b1 v1 e1 heq
  obtain⟨b2,d2,_,_,g2,_⟩:=h.cell _ _ _ e1
  rw[heq,hb]at g2;cases g2
 have notbO: ∀loc o,T.get mem loc=some (.O o)->o.isTok=false->loc≠b:=by
  intro loc o e1 ht heq
  obtain⟨b2,d2,_,g2,_⟩:=h.obj _ _ e1 ht
  rw[heq,hb]at g2;cases g2
 have oldO: ∀loc o,T.get mem' loc=some (.O o)->T.get mem loc=some (.O o):=by
  intro loc o e1
  rcases hm _ _ e1 with⟨i,v,_,_,h3⟩|h3
  ·cases h3
  ·exact h3
 refine⟨h.below, ?_, ?_, ?_, ?_, ?_, ?_, ?_,h.known,λl n e1=>let ⟨p,q⟩:=h.szs l n (oldO _ _ e1);⟨p,q.to hle λb' q1 q2=>q2⟩,
  h.oldsTo hle λloc c e=>by
   rcases hm _ _ e with⟨i,v,_,_,h3⟩|h3
   ·exact .inr (.inl ⟨_,_,_,_,h3,aE _ _ _,hb1⟩)
   ·exact .inl h3⟩
 ·intro x b' d e1
  by_cases hx:x=b
  ·rw[hx,aE]at e1
   cases e1
   exact⟨h.below.size,hb2⟩
  ·rw[aF _ hx]at e1
   exact h.dom _ _ _ e1
 ·intro loc b1 v1 e1
  rcases hm _ _ e1 with⟨i,v,h1,h2,h3⟩|h3
  ·cases h3
   obtain⟨v',h4,h5⟩:=hv.get h2
   have hi:=(List.getElem?_eq_some_iff.1 h2).1
   have e2:loc-b+o=o+i:=J
   exact⟨bb,o,v',J,aE _ _ _,by rw[e2];exact hvs _ _ h4,h5.mono hle,by rw[e2];exact hfr _ hi⟩
  ·obtain⟨b2,d2,v2,g1,g2,g3,g4,g5⟩:=h.cell _ _ _ h3
   exact⟨b2,d2,v2,g1,hle.1 _ _ g2,g3,g4.mono hle,g5⟩
 ·intro l1 l2 b1 v1 b2 v2 b' d1 d2 e1 e2 r1 r2 hh
  rcases hm _ _ e1 with⟨i,v,h1,h2,h3⟩|h3
  ·cases h3
   rw[aE]at r1
   cases r1
   rcases hm _ _ e2 with⟨i',v',h1',h2',h3'⟩|h3'
   ·cases h3'
    rw[aE]at r2
    cases r2
    omega
   ·rw[aF _ (notb _ _ _ h3')]at r2
    have:=hno _ _ _ _ h3' r2
    omega
  ·rw[aF _ (notb _ _ _ h3)]at r1
   rcases hm _ _ e2 with⟨i',v',h1',h2',h3'⟩|h3'
   ·cases h3'
    rw[aE]at r2
    cases r2
    have:=hno _ _ _ _ h3 r1
    omega
   ·rw[aF _ (notb _ _ _ h3')]at r2
    exact h.sep _ _ _ _ _ _ _ _ _ h3 h3' r1 r2 hh
 ·intro loc o e1 ht
  obtain⟨b2,d2,o',g1,g2,g3⟩:=h.obj _ _ (oldO _ _ e1) ht
  exact⟨b2,d2,o',hle.1 _ _ g1,g2,g3.mono hle⟩
 ·intro l1 l2 o1 o2 b' d1 d2 e1 e2 t1 t2 r1 r2
  rw[aF _ (notbO _ _ (oldO _ _ e1) t1)]at r1
  rw[aF _ (notbO _ _ (oldO _ _ e2) t2)]at r2
  exact h.sepO _ _ _ _ _ _ _ (oldO _ _ e1) (oldO _ _ e2) t1 t2 r1 r2
 ·intro t sz e1
  obtain⟨k,g1,g2,g3,g4,g5,g6⟩:=h.tok _ _ (oldO _ _ e1)
  refine⟨k,g1,g2,g3,g4,g5, ?_⟩
  intro loc b1 v1 d e2 r1
  rcases hm _ _ e2 with⟨i,v,h1,h2,h3⟩|h3
  ·cases h3
   rw[aE]at r1
   simp only[Option.some.injEq,Prod.mk.injEq]at r1
   exact absurd r1.1.symm (htk _ _ _ (oldO _ _ e1) g1)
  ·rw[aF _ (notb _ _ _ h3)]at r1
   exact g6 _ _ _ _ h3 r1
 ·intro t1 t2 s1 s2 k1 k2 e1 e2
  exact h.sepT _ _ _ _ _ _ (oldO _ _ e1) (oldO _ _ e2)
theorem Acw_ {vs vs':List Value}{s s1 s2:St}{b m sz x bb o q:Nat}{u:Unit}(hr:Rel w0 r s.mem w)(hn:newL vs s= .some b s1)(hw:wrC m (.O (.tok false q)) s1= .some u s2)(hq:sz=q%1024)(hm:m=s.next+vs.length)(hf:AK r s.next s2.next)
  (hv:VRs r vs vs') (hb1:w0.heap.size<=bb) (hb2:bb<w.heap.size) (hvs: ∀(i:Nat) (v:Value),vs'[i]?=some v->w.cell? ⟨bb,o+i,none⟩=some v)
  (hcell: ∀j,j<vs.length+x*sz-> ∃v',w.cell? ⟨bb,o+j,none⟩=some v'/\w.frozen? ⟨bb,o+j,none⟩=false)
  (hno: ∀loc b v d,T.get s.mem loc=some (.C b v)->r.blk b=some (bb,d)->loc-b+d<o)
  (htk: ∀t2 s2 k2,T.get s.mem t2=some (.O (.tok false s2))->r.ext t2=some k2->k2.b≠bb)
  (hK:1024<=q-> ∀j v,vs.length<=j->j<vs.length+x*sz->w.cell? ⟨bb,o+j,none⟩=some v-> ∃m,v= .int .u8 m) (hB:1024<=q->o+(vs.length+x*sz)<=9223372036854775807):
  ∃r',Goes w0 r s s2 r' w/\r'.blk s.next=some (bb,o)/\r'.ext m=some ⟨x,bb,o+vs.length,sz⟩/\s2.lim=s.lim/\s2.cx=s.cx/\b=s.next:=by
 obtain⟨k1,k2,k3,k4⟩:=Gd hw
 obtain⟨n1,n2,n3,n4,n5⟩:=IC hn
 rw[k2]at hf
 have hb:=(hf s.next (Nat.le_refl _) J).1
 have hm1:s.next<=m:=J
 have hm2:m<s1.next:=J
 have hE:(r.add s.next (bb,o)).ext m=none:=(hf m hm1 hm2).2
 have hrel:Rel w0 (r.add s.next (bb,o)) s1.mem w:=by
  rw[n2]
  exact hr.overlay hb hv hb1 hb2 hvs (λi hi=>(hcell i J).elim λ_ h=>h.2) hno htk (FA _ _ _ _)
 have g2:Goes w0 r s s1 (r.add s.next (bb,o)) w:= .add hb J hrel
 refine⟨(r.add s.next (bb,o)).mark m ⟨x,bb,o+vs.length,sz⟩, ?_,aE _ _ _,aP _ _ _,k3.trans n4,k4.trans n5,n1⟩
 refine Goes.mark g2 k2 hm1 hm2 hE ?_
 rw[k1]
 refine hrel.newTok hE hq hb1 hb2 ?_ ?_ ?_
 ·intro j hj
  have hj':j<x*sz:=hj
  obtain⟨v',q1,q2⟩:=hcell (vs.length+j) J
  have q3:=λh=>(⟨hK h _ _ (Nat.le_add_right vs.length j) J q1,by rw[Nat.add_assoc];exact hB h⟩:(∃m,v'=Value.int .u8 m)/\o+vs.length+x*sz<=9223372036854775807)
  rw[<-Nat.add_assoc]at q1 q2
  exact⟨v',q1,q2,q3⟩
 ·intro loc b1 v1 d e1 e2
  show loc-b1+d<o+vs.length
  rw[n2]at e1
  rcases FA _ _ _ _ _ _ e1 with⟨i,y,q1,q2,q3⟩|q
  ·cases q3
   rw[aE]at e2
   cases e2
   have:=(List.getElem?_eq_some_iff.1 q2).1
   omega
  ·obtain⟨b2,d2,_,_,g7,_⟩:=hr.cell _ _ _ q
   by_cases hb:b1=s.next
   ·rw[hb,(hf s.next (Nat.le_refl _) J).1]at g7;cases g7
   ·rw[aF _ hb]at e2
    have:=hno _ _ _ _ q e2
    omega
 ·intro t2 s3 k2 e1 e2
  rw[n2]at e1
  rcases FA _ _ _ _ _ _ e1 with⟨i,y,q1,q2,q3⟩|q
  ·cases q3
  ·exact htk _ _ _ q e2
end
section
variable {w0 w:World}{r:Inj}{mem:T Cell}
theorem Rel.setFree (h:Rel w0 r mem w){bb p:Nat}(hb1:w0.heap.size<=bb)(hc:(w.cell? ⟨bb,p,none⟩).isSome=true)
  (hno: ∀loc b v d,T.get mem loc=some (.C b v)->r.blk b=some (bb,d)->loc-b+d≠p)
  (htk: ∀t2 s2 k2,T.get mem t2=some (.O (.tok false s2))->r.ext t2=some k2->k2.b≠bb) (u:Value):Rel w0 r mem (w.setCell ⟨bb,p,none⟩ u):=by
 refine⟨h.below.setCell hb1 _,λx y z e=>by rw[World.size_setCell];exact h.dom x y z e, ?_,h.sep, ?_,h.sepO, ?_,h.sepT,h.known,λl n e=>let ⟨p,q⟩:=h.szs l n e;⟨p,q.to (Inj.le_refl r) λb' _ q2=>q2.setCell _ _⟩,h.olds⟩
 ·intro loc b1 v1 e
  obtain⟨b2,d2,v2,g1,g2,g3,g4,g5⟩:=h.cell _ _ _ e
  refine⟨b2,d2,v2,g1,g2, ?_,g4,by rw[World.frozen?_setCell];exact g5⟩
  rw[World.cell?_setCell_other w]
  ·exact g3
  ·intro heq
   simp only[Addr.mk.injEq,and_true]at heq
   obtain⟨q1,q2⟩:=heq
   subst q1
   exact hno _ _ _ _ e g2 q2.symm
 ·intro loc ob e ht
  obtain⟨b2,d2,o',g1,g2,g3⟩:=h.obj _ _ e ht
  refine⟨b2,d2,o',g1, ?_,g3⟩
  rw[My]
  ·exact g2
  ·intro heq
   have heq':b2=bb:=heq
   subst heq'
   cases o' with
   |cells c t f=>exact g3.cells
   |_=>simp[World.cell?,g2]at hc
 ·intro t sz e
  obtain⟨k,g1,g2,g3,g4,g5,g6⟩:=h.tok _ _ e
  refine⟨k,g1,g2,g3,by rw[World.size_setCell];exact g4, ?_,g6⟩
  intro j hj
  obtain⟨x,q1,q2⟩:=g5 j hj
  refine⟨x, ?_,by rw[World.frozen?_setCell];exact q2⟩
  rw[World.cell?_setCell_other w]
  ·exact q1
  ·intro heq
   simp only[Addr.mk.injEq,and_true]at heq
   exact htk _ _ _ e g1 heq.1.symm
theorem Rel.setFrees {bb:Nat}(hb1:w0.heap.size<=bb)(htk: ∀t2 s2 k2,T.get mem t2=some (.O (.tok false s2))->r.ext t2=some k2->k2.b≠bb): ∀(vs:List Value) (p:Nat) {w:World},Rel w0 r mem w->
  (∀j,j<vs.length->(w.cell? ⟨bb,p+j,none⟩).isSome=true)->(∀loc b v d,T.get mem loc=some (.C b v)->r.blk b=some (bb,d)->loc-b+d<p)->Rel w0 r mem (w.setCells bb p vs)
 |[],_,_,h,_,_=>h
 |v::vs,p,w,h,hc,hno=>by
  have h1:=h.setFree hb1 (hc 0 am) (λloc b v d e1 e2=>by have:=hno _ _ _ _ e1 e2;omega) htk v
  refine Rel.setFrees hb1 htk vs (p+1) h1 (λj hj=> ?_) (λloc b v d e1 e2=>by have:=hno _ _ _ _ e1 e2;omega)
  rw[World.cell?_setCell_other _ _ _ _ (by simp;omega)]
  have:=hc (j+1) (by simp;omega)
  rwa [show p+(j+1)=p+1+j by omega]at this
end
def Hh (P:Program)(w:World)(u2:TypeDesc)(x:Value)(n size bytes:Nat)(z:Value)(news:List Value):Prop:=
 (Ds u2=false/\(Builtin.lenOf x).run P w= .ok n w/\ ∀w1,(w1=w\/w1=w.drew)->(Builtin.firstCells size n x).run P w1= .ok news.toArray w1)\/
 (Ds u2=true/\x= .int .i64 n/\n<=16777216/\n*bytes<=16777216/\((n*size=0/\news=[])\/(n*size≠0/\news.toArray=Builtin.zeroCells z.cells n)))
section
variable {P:Program}{w w':World}{t t2 e:TypeId}{u2:TypeDesc}{i:TypeInfo}{z:Value}{ts:Array TypeId}{ty:TypeId}{len c n:Nat}{x:Value}{news:List Value}
theorem Jr_ {n:Nat}(h:n<=16777216):IntKind.i64.wrap (n:Int)=n:=by rw[IntKind.wrap_i64];omega
theorem QD {u:TypeDesc}(h:Ds u=false): ∀k,u= .int k->False:=by
 intro k e
 subst e
 cases h
theorem isInt {u:TypeDesc}(h:Ds u=true): ∃k,u= .int k:=by
 unfold Ds at h
 split at h
 ·exact⟨_,rfl⟩
 ·cases h
theorem Q8 (hts0:ts[0]?=some t)(hts1:ts[1]?=some t2)(ht:P.underlying t=some (.slice e))(ht2:P.underlying t2=some u2)(hi:P.info? e=some i)(hz:i.zero=some z)
  (hs:Hh P w u2 x n i.size i.bytes z news) {a:Addr} (hroom:len+n<=c) (hst:(storeCells (a.add (len*i.size)) news).run P w= .ok () w'):
  (Builtin.append_ ts ty #[.slice (some a) len c,x]).run P w= .ok (.slice (some a) (len+n) c) w':=by
 rcases hs with⟨h1,h2,h3⟩|⟨h1,rfl,h2,h3,h4⟩
 ·have h3:=h3 w (.inl rfl)
  have hne:=QD h1
  simp[Builtin.append_,hts0,hts1,run_underlying ht,run_underlying ht2,sizeOf,typeInfo,hi,h2,h3,hroom,hst]
 ·obtain⟨k,rfl⟩:=isInt h1
  have hw:=Jr_ h2
  have h7: ¬((n:Int)<0):=J
  have h6: ¬(281474976710656<(n:Int)*(i.bytes:Int)):=by
   have:(n:Int)*(i.bytes:Int)=((n*i.bytes:Nat):Int):=by rw[Int.natCast_mul]
   omega
  rcases h4 with⟨h4,rfl⟩|⟨h4,h5⟩
  ·simp[Builtin.append_,hts0,hts1,run_underlying ht,run_underlying ht2,sizeOf,typeInfo,hi,hroom,hst,asInt,asIntOf,hw,h6,h7,h4]
  ·simp[Builtin.append_,hts0,hts1,run_underlying ht,run_underlying ht2,sizeOf,typeInfo,zeroValue,hi,hz,hroom,hst,asInt,asIntOf,hw,h6,h7,h4,<-h5]
theorem AqP_ (hts0:ts[0]?=some t)(hts1:ts[1]?=some t2)(ht:P.underlying t=some (.slice e))(ht2:P.underlying t2=some u2)(hi:P.info? e=some i)
  (hs:Hh P w u2 x 0 i.size i.bytes z news):
  (Builtin.append_ ts ty #[.slice none 0 0,x]).run P w= .ok (.slice none 0 0) w:=by
 rcases hs with⟨h1,h2,h3⟩|⟨h1,rfl,h2,h3,h4⟩
 ·have h3:=h3 w (.inl rfl)
  have hne:=QD h1
  simp[Builtin.append_,hts0,hts1,run_underlying ht,run_underlying ht2,sizeOf,typeInfo,hi,h2,h3]
 ·obtain⟨k,rfl⟩:=isInt h1
  have hw0:IntKind.i64.wrap 0=0:=by rw[IntKind.wrap_i64];omega
  simp[Builtin.append_,hts0,hts1,run_underlying ht,run_underlying ht2,sizeOf,typeInfo,hi,asInt,asIntOf,hw0]
theorem Aae_ (hts0:ts[0]?=some t)(hts1:ts[1]?=some t2)(ht:P.underlying t=some (.slice e))(ht2:P.underlying t2=some u2)(hi:P.info? e=some i)(hz:i.zero=some z)
  (hs:Hh P w u2 x n i.size i.bytes z news) {base:Option Addr} {olds:List Value} (hold:(Builtin.firstCells i.size len (.slice base len c)).run P w.drew= .ok olds.toArray w.drew) (hg:c<len+n) (hb:(len+n)*(i.bytes+1)<=16777216):
  (Builtin.append_ ts ty #[.slice base len c,x]).run P w=
   .ok (.slice (some ⟨w.heap.size,0,none⟩) (len+n) (grownCap w (len+n) c e)) (w.drew.alloc (.cells (olds.toArray++news.toArray++(Builtin.zeroCells z.cells (grownCap w (len+n) c e-(len+n)))) e)):=by
 have hm:(len+n)*(i.bytes+1)=(len+n)*i.bytes+(len+n):=Nat.mul_succ _ _
 have hn: ¬(len+n<=c):=J
 have h63': ¬(9223372036854775807<((len:Int)+(n:Int))):=J
 have h48': ¬(281474976710656<Builtin.nextslicecap (len+n) c*i.bytes):=by
  have:=growslice_fits (bytes:=i.bytes) hg J
  omega
 generalize hA:olds.toArray=A at hold ⊢
 rcases hs with⟨h1,h2,h3⟩|⟨h1,rfl,h2,h3,h4⟩
 ·have h3:=h3 w.drew (.inr rfl)
  generalize news.toArray=B at h3 ⊢
  have hne:=QD h1
  simp[Builtin.append_,hts0,hts1,run_underlying ht,run_underlying ht2,sizeOf,typeInfo,zeroValue,hi,hz,h2,h3,hn,h63',h48',Question.forced,hold,newRow,grownCap]
 ·obtain⟨k,rfl⟩:=isInt h1
  have hw:=Jr_ h2
  have h7: ¬((n:Int)<0):=J
  have h6: ¬(281474976710656<(n:Int)*(i.bytes:Int)):=by
   have:(n:Int)*(i.bytes:Int)=((n*i.bytes:Nat):Int):=by rw[Int.natCast_mul]
   omega
  rcases h4 with⟨h4,rfl⟩|⟨h4,h5⟩
  ·simp[Builtin.append_,hts0,hts1,run_underlying ht,run_underlying ht2,sizeOf,typeInfo,zeroValue,hi,hz,hn,h63',h48',Question.forced,hold,newRow,grownCap,asInt,asIntOf,hw,h6,h7,h4]
  ·rw[h5]
   simp[Builtin.append_,hts0,hts1,run_underlying ht,run_underlying ht2,sizeOf,typeInfo,zeroValue,hi,hz,hn,h63',h48',Question.forced,hold,newRow,grownCap,asInt,asIntOf,hw,h6,h7,h4]
end
section
variable {E:Env}{w0 w:World}{r:Inj}{t:Nat}
theorem YS_ {size k:Nat}{x x':Value}{l:List Value}{s s':St}(h:srcL size x k s= .some l s')(hr:Rel w0 r s.mem w)(hx:VR r x x')(hk: ∀b o c,x= .slice b o c->k<=o):
  ∃l':List Value,(∀w1:World,(∀a,w1.cell? a=w.cell? a)->(Builtin.firstCells size k x').run E.P w1= .ok l'.toArray w1)/\VRs r l l'/\Same s s':=by
 unfold srcL at h
 split at h
 ·rename_i a n c
  rcases hx.sl_inv with⟨a2,c2,rfl,ha2,hc,_⟩|⟨rfl,_,_,a2,c2,rfl⟩
  ·obtain⟨l',g1,g2,g3,g4⟩:=DS _ h hr ha2
   refine⟨l',λw1 hw=> ?_,g3,g4⟩
   have hrun:=run_loadCells_list (P:=E.P) w1 a2 l' (λj v e=>by rw[hw];exact g2 j v e)
   rw[g1]at hrun
   simpa [Builtin.firstCells]using hrun
  ·have hk0:k=0:=Nat.le_zero.1 (hk _ _ _ rfl)
   subst hk0
   rw[Nat.zero_mul]at h
   obtain⟨rfl,rfl⟩:=Af h
   exact⟨[],λw1 _=>by simp[Builtin.firstCells,loadCells,loadCellsFrom], .nil, .refl _⟩
 ·obtain⟨rfl,rfl⟩:=Af h
  cases hx
  exact⟨[],λw1 _=>by simp[Builtin.firstCells], .nil, .refl _⟩
 ·rename_i st
  obtain⟨rfl,rfl⟩:=Af h
  cases hx
  refine⟨CG (st.data.toList.take k),λw1 _=> ?_,Sy_ _, .refl _⟩
  simp only[Builtin.firstCells,Sem.run_pure]
  congr 1
  apply Array.ext'
  simp[CG,Array.toList_extract]
 ·cases h
theorem AaW_ {zs:Bool}{by':Nat}{x:Value}{n:Nat}{s s1:St}(h:appN zs by' x s= .some n s1):
  s=s1/\((zs=false/\((∃b c,x= .slice b n c)\/ ∃st,x= .string st/\n=st.size))\/(zs=true/\x= .int .i64 n/\n*(by'+1)<=16777216)):=by
 unfold appN at h
 split at h
 ·obtain⟨rfl,rfl⟩:=Af h
  exact⟨rfl, .inl ⟨rfl, .inl ⟨_,_,rfl⟩⟩⟩
 ·obtain⟨rfl,rfl⟩:=Af h
  exact⟨rfl, .inl ⟨rfl, .inr ⟨_,rfl,rfl⟩⟩⟩
 ·obtain⟨h3,h4⟩:=AV h
  obtain⟨rfl,rfl⟩:=Af h4
  exact⟨rfl, .inr ⟨rfl,rfl,Nat.le_of_ble_eq_true h3⟩⟩
 ·cases h
theorem AeV_ {e:Nat}{ie:TI}{u2:TypeDesc}{x x':Value}{n:Nat}{news:List Value}{s s1 s2:St}(h1:appN (Ds u2) ie.bytes x s= .some n s1)(h2:appL (Ds u2) ie x n s1= .some news s2)(hr:Rel w0 r s.mem w)(hx:VR r x x')
  (hie:TyOK E.P e ie) {z:Value} (hz:z.cells.toList=ie.zero):Same s s2/\(n=0->news=[])/\ ∃news',VRs r news news'/\Hh E.P w u2 x' n ie.size ie.bytes z news':=by
 unfold appL at h2
 rw[DO]at h2
 obtain⟨rfl,⟨hq',hx1⟩|⟨hq,rfl,h5⟩⟩:=AaW_ h1
 ·rw[hq',if_neg am]at h2
  have hk: ∀b o c,x= .slice b o c->n<=o:=by
   intro b o c e1
   rcases hx1 with⟨b1,c1,e2⟩|⟨st,e2,_⟩
   ·rw[e2]at e1;cases e1;exact Nat.le_refl _
   ·rw[e2]at e1;cases e1
  obtain⟨l',g1,g2,g3⟩:=YS_ (E:=E) h2 hr hx hk
  refine⟨g3,λh=>by rw[h]at h2;exact(LM_ h2).1,l',g2, .inl ⟨hq', ?_, ?_⟩⟩
  ·rcases hx1 with⟨b1,c1,rfl⟩|⟨st,rfl,rfl⟩
   ·cases hx<;>simp[Builtin.lenOf]
   ·cases hx
    simp[Builtin.lenOf]
  ·intro w1 hw1
   refine g1 w1 λa=> ?_
   rcases hw1 with rfl|rfl
   ·rfl
   ·simp
 ·rw[hq,if_pos rfl]at h2
  obtain⟨rfl,rfl⟩:=Af h2
  have h6:n*(ie.bytes+1)=n*ie.bytes+n:=Nat.mul_succ _ _
  cases hx
  refine⟨.refl _,λh=>by rw[h];rfl,rep n ie.zero,Ej (Kn hie.pl n), .inr ⟨hq,rfl,J,J, ?_⟩⟩
  have hzs:z.cells.size=ie.size:=by rw[<-Array.length_toList,hz,hie.len]
  by_cases h0:n*ie.size=0
  ·exact .inl ⟨h0,List.eq_nil_of_length_eq_zero (by rw[Gt,hie.len,h0])⟩
  ·refine .inr ⟨h0, ?_⟩
   apply Array.ext'
   have hpos:0<z.cells.size:=by rw[hzs];exact Nat.pos_of_ne_zero λq=>h0 (by rw[q,Nat.mul_zero])
   rw[<-hz]
   exact(LG z.cells n hpos).symm
theorem Jv: ∀(n l:Nat) {s s':St} {u:Unit},Cg n l s= .some u s'->
  (∀loc c,T.get s'.mem loc=some c->T.get s.mem loc=some c/\ ¬(l<=loc/\loc<l+n))/\s'.next=s.next/\s'.lim=s.lim/\s'.cx=s.cx
 |0,l,s,s',u,h=>by
  obtain⟨_,rfl⟩:=Af h
  exact⟨λloc c e=>⟨e,J⟩,rfl,rfl,rfl⟩
 |n+1,l,s,s',u,h=>by
  have h0:Cg (n+1) l=M.bind (delC l) λ_=>Cg n (l+1):=rfl
  rw[h0]at h
  obtain⟨u1,s1,h1,h2⟩:=bind_some h
  obtain⟨g1,g2,g3,g4⟩:=AgB_ h1
  obtain⟨k1,k2,k3,k4⟩:=Jv n (l+1) h2
  refine⟨λloc c e=> ?_,k2.trans g2,k3.trans g3,k4.trans g4⟩
  obtain⟨q1,q2⟩:=k1 loc c e
  rw[g1,aW]at q1
  split at q1
  ·cases q1
  ·exact⟨q1,J⟩
variable {ts:Array TypeId}{ty:TypeId}{t2 e:Nat}{u2:TypeDesc}{ni:TypeInfo}{z x':Value}{n len c:Nat}{news news':List Value}{base:Option Addr}{y' v:Value}{s s':St}
theorem AiB_ (a:Addr):a.add 0=a:=by simp[Addr.add]
theorem AnV_ (hts0:ts[0]?=some t)(hts1:ts[1]?=some t2)(ht:E.P.underlying t=some (.slice e))(ht2:E.P.underlying t2=some u2)(hi:E.P.info? e=some ni)(hz:ni.zero=some z)
  (hs:Hh E.P w u2 x' n ni.size ni.bytes z news') (hn:VRs r news news') (hn0:n=0->news=[]) (hv:VR r (.slice base len c) y') (h:Fj ni.size base len c n news s= .some v s') (hle:len+n<=c%capU) (hr:Rel w0 r s.mem w):
  Yields E w0 r s s' v w (Builtin.append_ ts ty #[y',x']):=by
 unfold Fj at h
 split at h
 ·rename_i a
  obtain⟨u,s1,h1,h2⟩:=bind_some h
  obtain⟨rfl,rfl⟩:=Ip h2
  rcases hv.sl_inv with⟨a2,c2,rfl,ha2,hc,hlen⟩|⟨rfl,q1,q2,a2,c2,rfl⟩
  ·have hle2:c%capU<=c2:=by
    rcases hc with⟨e1,rfl⟩|⟨_,k,_,_,e2,_⟩
    ·exact Nat.mod_le _ _
    ·omega
   have ha3:AR r (addA a (len*ni.size)) ((a2.add (len*ni.size)).add 0):=by rw[AiB_];exact ha2.add _
   obtain⟨w',k1,k2,k3,k4,k5⟩:=Iy (P:=E.P) _ _ 0 h1 hr ha3 hn
   exact⟨_,w',r,Q8 hts0 hts1 ht ht2 hi hz hs J k1, .of_rel k3 k2, .slice ha2 hc hle,k4,k5⟩
  ·have hn1:n=0:=J
   have:=hn0 hn1
   subst this
   subst hn1
   have:=hn.inv_nil
   subst this
   obtain⟨_,rfl⟩:=Af h1
   exact .pure (Q8 (len:=0) hts0 hts1 ht ht2 hi hz hs (Nat.zero_le _) rfl) hr (.slEnd q1 q2)
 ·obtain⟨rfl,rfl⟩:=Af h
  cases hv
  have hn1:n=0:=by
   have:0%capU=0:=Nat.zero_mod _
   omega
  subst hn1
  exact .pure (AqP_ hts0 hts1 ht ht2 hi hs) hr .slNil
