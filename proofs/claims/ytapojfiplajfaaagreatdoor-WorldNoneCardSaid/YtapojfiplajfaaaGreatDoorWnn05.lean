/- The evaluator's append against the model's own. -/
import Derived.Test.YtapojfiplajfaaaGreatDoorWnn04
import Derived.Laws.AppendOwn
import Derived.Lib.ConvBytes
namespace Go.Proofs.YtapojfiplajfaaaGreatDoor.Am
open Go.RowKit
section
variable {w0 w:World}{r:Inj}{mem:T Cell}
/-- Less memory,or marks used up. -/
theorem Rel.lessTok (h:Rel w0 r mem w){mem':T Cell}(hm: ∀loc c,T.get mem' loc=some c→T.get mem loc=some c∨ ∃sz,c= .O (.tok true sz)∧sz<1024):Rel w0 r mem' w:=by
 have cel: ∀loc b v,T.get mem' loc=some (.C b v)→T.get mem loc=some (.C b v):=by
  intro loc b v e
  rcases hm _ _ e with e|⟨sz,e,_⟩
  ·exact e
  ·cases e
 have obj: ∀loc o,o.isTok=false→T.get mem' loc=some (.O o)→T.get mem loc=some (.O o):=by
  intro loc o ht e
  rcases hm _ _ e with e|⟨sz,e,_⟩
  ·exact e
  ·cases e;cases ht
 have tok: ∀loc sz,T.get mem' loc=some (.O (.tok false sz))→T.get mem loc=some (.O (.tok false sz)):=by
  intro loc sz e
  rcases hm _ _ e with e|⟨sz,e,_⟩
  ·exact e
  ·cases e
 exact⟨h.below,h.dom,fun l b v e=>h.cell l b v (cel _ _ _ e),fun l1 l2 b1 v1 b2 v2 b' d1 d2 e1 e2=>h.sep l1 l2 b1 v1 b2 v2 b' d1 d2 (cel _ _ _ e1) (cel _ _ _ e2),fun l o e t=>h.obj l o (obj _ _ t e) t,
  fun l1 l2 o1 o2 b' d1 d2 e1 e2 t1 t2=>h.sepO l1 l2 o1 o2 b' d1 d2 (obj _ _ t1 e1) (obj _ _ t2 e2) t1 t2,
  fun t sz e=>let ⟨k,g1,g2,g3,g4,g5,g6⟩:=h.tok t sz (tok _ _ e);⟨k,g1,g2,g3,g4,g5,fun l b v d e1=>g6 l b v d (cel _ _ _ e1)⟩,
  fun t1 t2 s1 s2 k1 k2 e1 e2=>h.sepT t1 t2 s1 s2 k1 k2 (tok _ _ e1) (tok _ _ e2),h.known,fun l n e=>by
   rcases hm _ _ e with e|⟨sz,e,hz⟩
   ·exact h.szs l n e
   ·cases e;omega,
  h.oldsTo (Inj.le_refl r) fun loc c e=>by
   rcases hm _ _ e with e|⟨sz,e,hz⟩
   ·exact .inl e
   ·exact .inr (.inr (.inl ⟨_,_,e,fun n _ hn=>by omega⟩))⟩
theorem Goes.mark {s s' s2:St}{w':World}{r1:Inj}(g:Goes w0 r s s' r1 w'){m:Nat}{k:Tok}(hn:s2.next=s'.next)(h1:s.next≤m)(h2:m<s'.next)(hm:r1.ext m=none)(hr:Rel w0 (r1.mark m k) s2.mem w'):Goes w0 r s s2 (r1.mark m k) w':=by
 refine⟨Inj.le_trans g.le (Inj.mark_le k hm),by rw[hn];exact g.nxt,fun b hb=>by rw[hn];exact g.domB b hb,fun b hb=> ?_,hr⟩
 by_cases e:b=m
 ·rw[hn,e];exact .inr ⟨h1,h2⟩
 ·rw[hn]
  refine g.domE b ?_
  have:(r1.mark m k).ext b=r1.ext b:=if_neg e
  rw[←this];exact hb
/-- A grown row,laid anew,with its mark. -/
theorem growNew_ok {vs vs':List Value}{s s1 s2:St}{b m sz x q:Nat}{u:Unit}(hr:Rel w0 r s.mem w)(hn:newL vs s= .some b s1)(hw:wrC m (.O (.tok false q)) s1= .some u s2)(hq:sz=q%1024)(hm:m=s.next+vs.length)(hf:Fresh r s.next s2.next)
  (hv:VRs r vs vs') {c:Array Value} (e:TypeId) (hc: ∀(i:Nat) (v:Value),vs'[i]?=some v→c[i]?=some v) (hsz:c.size=vs'.length+x*sz) (hK:1024≤q→ ∀i v,vs'.length≤i→c[i]?=some v→ ∃m,v= .int .u8 m) (hB:1024≤q→c.size≤9223372036854775807):
  ∃r',Goes w0 r s s2 r' (w.alloc (.cells c e))∧r'.blk s.next=some (w.heap.size,0)∧r'.ext m=some ⟨x,w.heap.size,vs.length,sz⟩∧s2.lim=s.lim∧s2.cx=s.cx∧b=s.next:=by
 obtain⟨k1,k2,k3,k4⟩:=wrC_some hw
 obtain⟨n1,n2,n3,n4,n5⟩:=newL_some hn
 rw[k2]at hf
 obtain⟨g1,g2,g3,g4,g5⟩:=newL_ok hn hr hf hv e hc
 have hm1:s.next≤m:=by omega
 have hm2:m<s1.next:=by omega
 have hE:(r.add s.next (w.heap.size,0)).ext m=none:=(hf m hm1 hm2).2
 refine⟨(r.add s.next (w.heap.size,0)).mark m ⟨x,w.heap.size,vs.length,sz⟩, ?_,Inj.add_self _ _ _,Inj.mark_self _ _ _,k3.trans g4,k4.trans g5,n1⟩
 refine Goes.mark g2 k2 hm1 hm2 hE ?_
 rw[k1]
 refine g2.rel.newTok hE hq hr.below.size (by rw[World.size_alloc];exact Nat.lt_succ_self _) ?_ ?_ ?_
 ·intro j hj
  have hj':j<x*sz:=hj
  have h1:vs.length+j<c.size:=by rw[hsz,hv.1];omega
  exact⟨c[vs.length+j],by rw[alloc_cells];exact Array.getElem?_eq_getElem h1,alloc_frozen _ _ _ _,fun h=>⟨hK h _ _ (by rw[hv.1];omega) (Array.getElem?_eq_getElem h1),by
   have hb:=hB h
   rw[hsz,←hv.1]at hb
   exact hb⟩⟩
 ·intro loc b1 v1 d e1 e2
  rw[n2]at e1
  rcases layL_get _ _ _ _ _ _ e1 with⟨i,y,q1,q2,q3⟩|q
  ·cases q3
   rw[Inj.add_self]at e2
   cases e2
   have:=(List.getElem?_eq_some_iff.1 q2).1
   show loc-s.next+0<vs.length
   omega
  ·obtain⟨b2,d2,_,_,g7,_⟩:=hr.cell _ _ _ q
   by_cases hb:b1=s.next
   ·rw[hb,(hf s.next (Nat.le_refl _) (by omega)).1]at g7;cases g7
   ·rw[Inj.add_other _ hb]at e2
    exact absurd (hr.dom _ _ _ e2).2 (Nat.lt_irrefl _)
 ·intro t2 s3 k2 e1 e2
  rw[n2]at e1
  rcases layL_get _ _ _ _ _ _ e1 with⟨i,y,q1,q2,q3⟩|q
  ·cases q3
  ·obtain⟨k,g7,_,_,g8,_⟩:=hr.tok _ _ q
   have e2':r.ext t2=some k2:=e2
   rw[g7]at e2'
   cases e2'
   exact Nat.ne_of_lt g8
theorem Rel.overlay (h:Rel w0 r mem w){b:Nat}(hb:r.blk b=none){vs vs':List Value}(hv:VRs r vs vs'){bb o:Nat}(hb1:w0.heap.size≤bb)(hb2:bb<w.heap.size)
  (hvs: ∀(i:Nat) (v:Value),vs'[i]?=some v→w.cell? ⟨bb,o+i,none⟩=some v) (hfr: ∀i,i<vs.length→w.frozen? ⟨bb,o+i,none⟩=false)
  (hno: ∀loc b v d,T.get mem loc=some (.C b v)→r.blk b=some (bb,d)→loc-b+d<o)
  (htk: ∀t2 s2 k2,T.get mem t2=some (.O (.tok false s2))→r.ext t2=some k2→k2.b≠bb) {mem':T Cell}
  (hm: ∀loc x,T.get mem' loc=some x→(∃i v,loc=b+i∧vs[i]?=some v∧x= .C b v)∨T.get mem loc=some x):Rel w0 (r.add b (bb,o)) mem' w:=by
 have hle:=Inj.add_le (bb,o) hb
 have notb: ∀loc b1 v1,T.get mem loc=some (.C b1 v1)→b1≠b:=by
  intro loc b1 v1 e1 heq
  obtain⟨b2,d2,_,_,g2,_⟩:=h.cell _ _ _ e1
  rw[heq,hb]at g2;cases g2
 have notbO: ∀loc o,T.get mem loc=some (.O o)→o.isTok=false→loc≠b:=by
  intro loc o e1 ht heq
  obtain⟨b2,d2,_,g2,_⟩:=h.obj _ _ e1 ht
  rw[heq,hb]at g2;cases g2
 have oldO: ∀loc o,T.get mem' loc=some (.O o)→T.get mem loc=some (.O o):=by
  intro loc o e1
  rcases hm _ _ e1 with⟨i,v,_,_,h3⟩|h3
  ·cases h3
  ·exact h3
 refine⟨h.below, ?_, ?_, ?_, ?_, ?_, ?_, ?_,h.known,fun l n e1=>let ⟨p,q⟩:=h.szs l n (oldO _ _ e1);⟨p,q.to hle fun b' q1 q2=>q2⟩,
  h.oldsTo hle fun loc c e=>by
   rcases hm _ _ e with⟨i,v,_,_,h3⟩|h3
   ·exact .inr (.inl ⟨_,_,_,_,h3,Inj.add_self _ _ _,hb1⟩)
   ·exact .inl h3⟩
 ·intro x b' d e1
  by_cases hx:x=b
  ·rw[hx,Inj.add_self]at e1
   cases e1
   exact⟨h.below.size,hb2⟩
  ·rw[Inj.add_other _ hx]at e1
   exact h.dom _ _ _ e1
 ·intro loc b1 v1 e1
  rcases hm _ _ e1 with⟨i,v,h1,h2,h3⟩|h3
  ·cases h3
   obtain⟨v',h4,h5⟩:=hv.get h2
   have hi:=(List.getElem?_eq_some_iff.1 h2).1
   have e2:loc-b+o=o+i:=by omega
   exact⟨bb,o,v',by omega,Inj.add_self _ _ _,by rw[e2];exact hvs _ _ h4,h5.mono hle,by rw[e2];exact hfr _ hi⟩
  ·obtain⟨b2,d2,v2,g1,g2,g3,g4,g5⟩:=h.cell _ _ _ h3
   exact⟨b2,d2,v2,g1,hle.1 _ _ g2,g3,g4.mono hle,g5⟩
 ·intro l1 l2 b1 v1 b2 v2 b' d1 d2 e1 e2 r1 r2 hh
  rcases hm _ _ e1 with⟨i,v,h1,h2,h3⟩|h3
  ·cases h3
   rw[Inj.add_self]at r1
   cases r1
   rcases hm _ _ e2 with⟨i',v',h1',h2',h3'⟩|h3'
   ·cases h3'
    rw[Inj.add_self]at r2
    cases r2
    omega
   ·rw[Inj.add_other _ (notb _ _ _ h3')]at r2
    have:=hno _ _ _ _ h3' r2
    omega
  ·rw[Inj.add_other _ (notb _ _ _ h3)]at r1
   rcases hm _ _ e2 with⟨i',v',h1',h2',h3'⟩|h3'
   ·cases h3'
    rw[Inj.add_self]at r2
    cases r2
    have:=hno _ _ _ _ h3 r1
    omega
   ·rw[Inj.add_other _ (notb _ _ _ h3')]at r2
    exact h.sep _ _ _ _ _ _ _ _ _ h3 h3' r1 r2 hh
 ·intro loc o e1 ht
  obtain⟨b2,d2,o',g1,g2,g3⟩:=h.obj _ _ (oldO _ _ e1) ht
  exact⟨b2,d2,o',hle.1 _ _ g1,g2,g3.mono hle⟩
 ·intro l1 l2 o1 o2 b' d1 d2 e1 e2 t1 t2 r1 r2
  rw[Inj.add_other _ (notbO _ _ (oldO _ _ e1) t1)]at r1
  rw[Inj.add_other _ (notbO _ _ (oldO _ _ e2) t2)]at r2
  exact h.sepO _ _ _ _ _ _ _ (oldO _ _ e1) (oldO _ _ e2) t1 t2 r1 r2
 ·intro t sz e1
  obtain⟨k,g1,g2,g3,g4,g5,g6⟩:=h.tok _ _ (oldO _ _ e1)
  refine⟨k,g1,g2,g3,g4,g5, ?_⟩
  intro loc b1 v1 d e2 r1
  rcases hm _ _ e2 with⟨i,v,h1,h2,h3⟩|h3
  ·cases h3
   rw[Inj.add_self]at r1
   simp only[Option.some.injEq,Prod.mk.injEq]at r1
   exact absurd r1.1.symm (htk _ _ _ (oldO _ _ e1) g1)
  ·rw[Inj.add_other _ (notb _ _ _ h3)]at r1
   exact g6 _ _ _ _ h3 r1
 ·intro t1 t2 s1 s2 k1 k2 e1 e2
  exact h.sepT _ _ _ _ _ _ (oldO _ _ e1) (oldO _ _ e2)
/-- A grown row in the room behind the old one:its cells,and those of the room,are there;nothing else that is known lies there. -/
theorem growIn_ok {vs vs':List Value}{s s1 s2:St}{b m sz x bb o q:Nat}{u:Unit}(hr:Rel w0 r s.mem w)(hn:newL vs s= .some b s1)(hw:wrC m (.O (.tok false q)) s1= .some u s2)(hq:sz=q%1024)(hm:m=s.next+vs.length)(hf:Fresh r s.next s2.next)
  (hv:VRs r vs vs') (hb1:w0.heap.size≤bb) (hb2:bb<w.heap.size) (hvs: ∀(i:Nat) (v:Value),vs'[i]?=some v→w.cell? ⟨bb,o+i,none⟩=some v)
  (hcell: ∀j,j<vs.length+x*sz→ ∃v',w.cell? ⟨bb,o+j,none⟩=some v'∧w.frozen? ⟨bb,o+j,none⟩=false)
  (hno: ∀loc b v d,T.get s.mem loc=some (.C b v)→r.blk b=some (bb,d)→loc-b+d<o)
  (htk: ∀t2 s2 k2,T.get s.mem t2=some (.O (.tok false s2))→r.ext t2=some k2→k2.b≠bb)
  (hK:1024≤q→ ∀j v,vs.length≤j→j<vs.length+x*sz→w.cell? ⟨bb,o+j,none⟩=some v→ ∃m,v= .int .u8 m) (hB:1024≤q→o+(vs.length+x*sz)≤9223372036854775807):
  ∃r',Goes w0 r s s2 r' w∧r'.blk s.next=some (bb,o)∧r'.ext m=some ⟨x,bb,o+vs.length,sz⟩∧s2.lim=s.lim∧s2.cx=s.cx∧b=s.next:=by
 obtain⟨k1,k2,k3,k4⟩:=wrC_some hw
 obtain⟨n1,n2,n3,n4,n5⟩:=newL_some hn
 rw[k2]at hf
 have hb:=(hf s.next (Nat.le_refl _) (by omega)).1
 have hm1:s.next≤m:=by omega
 have hm2:m<s1.next:=by omega
 have hE:(r.add s.next (bb,o)).ext m=none:=(hf m hm1 hm2).2
 have hrel:Rel w0 (r.add s.next (bb,o)) s1.mem w:=by
  rw[n2]
  exact hr.overlay hb hv hb1 hb2 hvs (fun i hi=>(hcell i (by omega)).elim fun _ h=>h.2) hno htk (layL_get _ _ _ _)
 have g2:Goes w0 r s s1 (r.add s.next (bb,o)) w:= .add hb (by omega) hrel
 refine⟨(r.add s.next (bb,o)).mark m ⟨x,bb,o+vs.length,sz⟩, ?_,Inj.add_self _ _ _,Inj.mark_self _ _ _,k3.trans n4,k4.trans n5,n1⟩
 refine Goes.mark g2 k2 hm1 hm2 hE ?_
 rw[k1]
 refine hrel.newTok hE hq hb1 hb2 ?_ ?_ ?_
 ·intro j hj
  have hj':j<x*sz:=hj
  obtain⟨v',q1,q2⟩:=hcell (vs.length+j) (by omega)
  have q3:=fun h=>(⟨hK h _ _ (Nat.le_add_right vs.length j) (by omega) q1,by rw[Nat.add_assoc];exact hB h⟩:(∃m,v'=Value.int .u8 m)∧o+vs.length+x*sz≤9223372036854775807)
  rw[←Nat.add_assoc]at q1 q2
  exact⟨v',q1,q2,q3⟩
 ·intro loc b1 v1 d e1 e2
  show loc-b1+d<o+vs.length
  rw[n2]at e1
  rcases layL_get _ _ _ _ _ _ e1 with⟨i,y,q1,q2,q3⟩|q
  ·cases q3
   rw[Inj.add_self]at e2
   cases e2
   have:=(List.getElem?_eq_some_iff.1 q2).1
   omega
  ·obtain⟨b2,d2,_,_,g7,_⟩:=hr.cell _ _ _ q
   by_cases hb:b1=s.next
   ·rw[hb,(hf s.next (Nat.le_refl _) (by omega)).1]at g7;cases g7
   ·rw[Inj.add_other _ hb]at e2
    have:=hno _ _ _ _ q e2
    omega
 ·intro t2 s3 k2 e1 e2
  rw[n2]at e1
  rcases layL_get _ _ _ _ _ _ e1 with⟨i,y,q1,q2,q3⟩|q
  ·cases q3
  ·exact htk _ _ _ q e2
end
end Go.Proofs.YtapojfiplajfaaaGreatDoor.Am
/- The model's append,run:what it asks,what it gives. -/
namespace Go.Proofs.YtapojfiplajfaaaGreatDoor.Am
open Go.RowKit
section
variable {w0 w:World}{r:Inj}{mem:T Cell}
theorem Rel.setFree (h:Rel w0 r mem w){bb p:Nat}(hb1:w0.heap.size≤bb)(hc:(w.cell? ⟨bb,p,none⟩).isSome=true)
  (hno: ∀loc b v d,T.get mem loc=some (.C b v)→r.blk b=some (bb,d)→loc-b+d≠p)
  (htk: ∀t2 s2 k2,T.get mem t2=some (.O (.tok false s2))→r.ext t2=some k2→k2.b≠bb) (u:Value):Rel w0 r mem (w.setCell ⟨bb,p,none⟩ u):=by
 refine⟨h.below.setCell hb1 _,fun x y z e=>by rw[World.size_setCell];exact h.dom x y z e, ?_,h.sep, ?_,h.sepO, ?_,h.sepT,h.known,fun l n e=>let ⟨p,q⟩:=h.szs l n e;⟨p,q.to (Inj.le_refl r) fun b' _ q2=>q2.setCell _ _⟩,h.olds⟩
 ·intro loc b1 v1 e
  obtain⟨b2,d2,v2,g1,g2,g3,g4,g5⟩:=h.cell _ _ _ e
  refine⟨b2,d2,v2,g1,g2, ?_,g4,by rw[World.frozen?_setCell];exact g5⟩
  rw[World.cell?_setCell_other w]
  ·exact g3
  ·intro heq
   simp only[Addr.mk.injEq,and_true]at heq
   obtain⟨q1,q2⟩:=heq
   subst q1
   exact hno _ _ _ _ e g2 q2.symm
 ·intro loc ob e ht
  obtain⟨b2,d2,o',g1,g2,g3⟩:=h.obj _ _ e ht
  refine⟨b2,d2,o',g1, ?_,g3⟩
  rw[setCell_block_other]
  ·exact g2
  ·intro heq
   have heq':b2=bb:=heq
   subst heq'
   cases o' with
   |cells c t f=>exact g3.cells
   |_=>simp[World.cell?,g2]at hc
 ·intro t sz e
  obtain⟨k,g1,g2,g3,g4,g5,g6⟩:=h.tok _ _ e
  refine⟨k,g1,g2,g3,by rw[World.size_setCell];exact g4, ?_,g6⟩
  intro j hj
  obtain⟨x,q1,q2⟩:=g5 j hj
  refine⟨x, ?_,by rw[World.frozen?_setCell];exact q2⟩
  rw[World.cell?_setCell_other w]
  ·exact q1
  ·intro heq
   simp only[Addr.mk.injEq,and_true]at heq
   exact htk _ _ _ e g1 heq.1.symm
theorem Rel.setFrees {bb:Nat}(hb1:w0.heap.size≤bb)(htk: ∀t2 s2 k2,T.get mem t2=some (.O (.tok false s2))→r.ext t2=some k2→k2.b≠bb): ∀(vs:List Value) (p:Nat) {w:World},Rel w0 r mem w→
  (∀j,j<vs.length→(w.cell? ⟨bb,p+j,none⟩).isSome=true)→(∀loc b v d,T.get mem loc=some (.C b v)→r.blk b=some (bb,d)→loc-b+d<p)→Rel w0 r mem (w.setCells bb p vs)
 |[],_,_,h,_,_=>h
 |v::vs,p,w,h,hc,hno=>by
  have h1:=h.setFree hb1 (hc 0 (by simp)) (fun loc b v d e1 e2=>by have:=hno _ _ _ _ e1 e2;omega) htk v
  refine Rel.setFrees hb1 htk vs (p+1) h1 (fun j hj=> ?_) (fun loc b v d e1 e2=>by have:=hno _ _ _ _ e1 e2;omega)
  rw[World.cell?_setCell_other _ _ _ _ (by simp;omega)]
  have:=hc (j+1) (by simp;omega)
  rwa [show p+(j+1)=p+1+j by omega]at this
end
/-- What an append is to append. -/
def SrcOK (P:Program)(w:World)(u2:TypeDesc)(x:Value)(n size bytes:Nat)(z:Value)(news:List Value):Prop:=
 (isIntD u2=false∧(Builtin.lenOf x).run P w= .ok n w∧ ∀w1,(w1=w∨w1=w.drew)→(Builtin.firstCells size n x).run P w1= .ok news.toArray w1)∨
 (isIntD u2=true∧x= .int .i64 n∧n≤16777216∧n*bytes≤16777216∧((n*size=0∧news=[])∨(n*size≠0∧news.toArray=Builtin.zeroCells z.cells n)))
section
variable {P:Program}{w w':World}{t t2 e:TypeId}{u2:TypeDesc}{i:TypeInfo}{z:Value}{ts:Array TypeId}{ty:TypeId}{len c n:Nat}{x:Value}{news:List Value}
theorem wrap_small {n:Nat}(h:n≤16777216):IntKind.i64.wrap (n:Int)=n:=by rw[IntKind.wrap_i64];omega
theorem notInt {u:TypeDesc}(h:isIntD u=false): ∀k,u= .int k→False:=by
 intro k e
 subst e
 cases h
theorem isInt {u:TypeDesc}(h:isIntD u=true): ∃k,u= .int k:=by
 unfold isIntD at h
 split at h
 ·exact⟨_,rfl⟩
 ·cases h
theorem run_app_room (hts0:ts[0]?=some t)(hts1:ts[1]?=some t2)(ht:P.underlying t=some (.slice e))(ht2:P.underlying t2=some u2)(hi:P.info? e=some i)(hz:i.zero=some z)
  (hs:SrcOK P w u2 x n i.size i.bytes z news) {a:Addr} (hroom:len+n≤c) (hst:(storeCells (a.add (len*i.size)) news).run P w= .ok () w'):
  (Builtin.append_ ts ty #[.slice (some a) len c,x]).run P w= .ok (.slice (some a) (len+n) c) w':=by
 rcases hs with⟨h1,h2,h3⟩|⟨h1,rfl,h2,h3,h4⟩
 ·have h3:=h3 w (.inl rfl)
  have hne:=notInt h1
  simp[Builtin.append_,hts0,hts1,run_underlying ht,run_underlying ht2,sizeOf,typeInfo,hi,h2,h3,hroom,hst]
 ·obtain⟨k,rfl⟩:=isInt h1
  have hw:=wrap_small h2
  have h7: ¬((n:Int)<0):=by omega
  have h6: ¬(281474976710656<(n:Int)*(i.bytes:Int)):=by
   have:(n:Int)*(i.bytes:Int)=((n*i.bytes:Nat):Int):=by rw[Int.natCast_mul]
   omega
  rcases h4 with⟨h4,rfl⟩|⟨h4,h5⟩
  ·simp[Builtin.append_,hts0,hts1,run_underlying ht,run_underlying ht2,sizeOf,typeInfo,hi,hroom,hst,asInt,asIntOf,hw,h6,h7,h4]
  ·simp[Builtin.append_,hts0,hts1,run_underlying ht,run_underlying ht2,sizeOf,typeInfo,zeroValue,hi,hz,hroom,hst,asInt,asIntOf,hw,h6,h7,h4,←h5]
theorem run_app_none (hts0:ts[0]?=some t)(hts1:ts[1]?=some t2)(ht:P.underlying t=some (.slice e))(ht2:P.underlying t2=some u2)(hi:P.info? e=some i)
  (hs:SrcOK P w u2 x 0 i.size i.bytes z news):
  (Builtin.append_ ts ty #[.slice none 0 0,x]).run P w= .ok (.slice none 0 0) w:=by
 rcases hs with⟨h1,h2,h3⟩|⟨h1,rfl,h2,h3,h4⟩
 ·have h3:=h3 w (.inl rfl)
  have hne:=notInt h1
  simp[Builtin.append_,hts0,hts1,run_underlying ht,run_underlying ht2,sizeOf,typeInfo,hi,h2,h3]
 ·obtain⟨k,rfl⟩:=isInt h1
  have hw0:IntKind.i64.wrap 0=0:=by rw[IntKind.wrap_i64];omega
  simp[Builtin.append_,hts0,hts1,run_underlying ht,run_underlying ht2,sizeOf,typeInfo,hi,asInt,asIntOf,hw0]
theorem run_app_grow (hts0:ts[0]?=some t)(hts1:ts[1]?=some t2)(ht:P.underlying t=some (.slice e))(ht2:P.underlying t2=some u2)(hi:P.info? e=some i)(hz:i.zero=some z)
  (hs:SrcOK P w u2 x n i.size i.bytes z news) {base:Option Addr} {olds:List Value} (hold:(Builtin.firstCells i.size len (.slice base len c)).run P w.drew= .ok olds.toArray w.drew) (hg:c<len+n) (hb:(len+n)*(i.bytes+1)≤16777216):
  (Builtin.append_ ts ty #[.slice base len c,x]).run P w=
   .ok (.slice (some ⟨w.heap.size,0,none⟩) (len+n) (grownCap w (len+n) c e)) (w.drew.alloc (.cells (olds.toArray++news.toArray++(Builtin.zeroCells z.cells (grownCap w (len+n) c e-(len+n)))) e)):=by
 have hm:(len+n)*(i.bytes+1)=(len+n)*i.bytes+(len+n):=Nat.mul_succ _ _
 have hn: ¬(len+n≤c):=by omega
 have h63': ¬(9223372036854775807<((len:Int)+(n:Int))):=by omega
 have h48': ¬(281474976710656<Builtin.nextslicecap (len+n) c*i.bytes):=by
  have:=growslice_fits (bytes:=i.bytes) hg (by omega)
  omega
 generalize hA:olds.toArray=A at hold ⊢
 rcases hs with⟨h1,h2,h3⟩|⟨h1,rfl,h2,h3,h4⟩
 ·have h3:=h3 w.drew (.inr rfl)
  generalize news.toArray=B at h3 ⊢
  have hne:=notInt h1
  simp[Builtin.append_,hts0,hts1,run_underlying ht,run_underlying ht2,sizeOf,typeInfo,zeroValue,hi,hz,h2,h3,hn,h63',h48',Question.forced,hold,newRow,grownCap]
 ·obtain⟨k,rfl⟩:=isInt h1
  have hw:=wrap_small h2
  have h7: ¬((n:Int)<0):=by omega
  have h6: ¬(281474976710656<(n:Int)*(i.bytes:Int)):=by
   have:(n:Int)*(i.bytes:Int)=((n*i.bytes:Nat):Int):=by rw[Int.natCast_mul]
   omega
  rcases h4 with⟨h4,rfl⟩|⟨h4,h5⟩
  ·simp[Builtin.append_,hts0,hts1,run_underlying ht,run_underlying ht2,sizeOf,typeInfo,zeroValue,hi,hz,hn,h63',h48',Question.forced,hold,newRow,grownCap,asInt,asIntOf,hw,h6,h7,h4]
  ·rw[h5]
   simp[Builtin.append_,hts0,hts1,run_underlying ht,run_underlying ht2,sizeOf,typeInfo,zeroValue,hi,hz,hn,h63',h48',Question.forced,hold,newRow,grownCap,asInt,asIntOf,hw,h6,h7,h4]
end
end Go.Proofs.YtapojfiplajfaaaGreatDoor.Am
/- The evaluator's append against the model's own:what is appended,into the room that is there. -/
namespace Go.Proofs.YtapojfiplajfaaaGreatDoor.Am
open Go.RowKit
section
variable {E:Env}{w0 w:World}{r:Inj}{t:Nat}
theorem srcL_ok2 {size k:Nat}{x x':Value}{l:List Value}{s s':St}(h:srcL size x k s= .some l s')(hr:Rel w0 r s.mem w)(hx:VR r x x')(hk: ∀b o c,x= .slice b o c→k≤o):
  ∃l':List Value,(∀w1:World,(∀a,w1.cell? a=w.cell? a)→(Builtin.firstCells size k x').run E.P w1= .ok l'.toArray w1)∧VRs r l l'∧Same s s':=by
 unfold srcL at h
 split at h
 ·rename_i a n c
  rcases hx.sl_inv with⟨a2,c2,rfl,ha2,hc,_⟩|⟨rfl,_,_,a2,c2,rfl⟩
  ·obtain⟨l',g1,g2,g3,g4⟩:=rdL_ok _ h hr ha2
   refine⟨l',fun w1 hw=> ?_,g3,g4⟩
   have hrun:=run_loadCells_list (P:=E.P) w1 a2 l' (fun j v e=>by rw[hw];exact g2 j v e)
   rw[g1]at hrun
   simpa [Builtin.firstCells]using hrun
  ·have hk0:k=0:=Nat.le_zero.1 (hk _ _ _ rfl)
   subst hk0
   rw[Nat.zero_mul]at h
   obtain⟨rfl,rfl⟩:=pure_some h
   exact⟨[],fun w1 _=>by simp[Builtin.firstCells,loadCells,loadCellsFrom], .nil, .refl _⟩
 ·obtain⟨rfl,rfl⟩:=pure_some h
  cases hx
  exact⟨[],fun w1 _=>by simp[Builtin.firstCells], .nil, .refl _⟩
 ·rename_i st
  obtain⟨rfl,rfl⟩:=pure_some h
  cases hx
  refine⟨bytesV (st.data.toList.take k),fun w1 _=> ?_,bytesV_VRs _, .refl _⟩
  simp only[Builtin.firstCells,Sem.run_pure]
  congr 1
  apply Array.ext'
  simp[bytesV,Array.toList_extract]
 ·cases h
theorem appN_some {zs:Bool}{by':Nat}{x:Value}{n:Nat}{s s1:St}(h:appN zs by' x s= .some n s1):
  s=s1∧((zs=false∧((∃b c,x= .slice b n c)∨ ∃st,x= .string st∧n=st.size))∨(zs=true∧x= .int .i64 n∧n*(by'+1)≤16777216)):=by
 unfold appN at h
 split at h
 ·obtain⟨rfl,rfl⟩:=pure_some h
  exact⟨rfl, .inl ⟨rfl, .inl ⟨_,_,rfl⟩⟩⟩
 ·obtain⟨rfl,rfl⟩:=pure_some h
  exact⟨rfl, .inl ⟨rfl, .inr ⟨_,rfl,rfl⟩⟩⟩
 ·obtain⟨h3,h4⟩:=chk_some h
  obtain⟨rfl,rfl⟩:=pure_some h4
  exact⟨rfl, .inr ⟨rfl,rfl,Nat.le_of_ble_eq_true h3⟩⟩
 ·cases h
theorem src_ok {e:Nat}{ie:TI}{u2:TypeDesc}{x x':Value}{n:Nat}{news:List Value}{s s1 s2:St}(h1:appN (isIntD u2) ie.bytes x s= .some n s1)(h2:appL (isIntD u2) ie x n s1= .some news s2)(hr:Rel w0 r s.mem w)(hx:VR r x x')
  (hie:TyOK E.P e ie) {z:Value} (hz:z.cells.toList=ie.zero):Same s s2∧(n=0→news=[])∧ ∃news',VRs r news news'∧SrcOK E.P w u2 x' n ie.size ie.bytes z news':=by
 unfold appL at h2
 rw[if_eq]at h2
 obtain⟨rfl,⟨hq',hx1⟩|⟨hq,rfl,h5⟩⟩:=appN_some h1
 ·rw[hq',if_neg (by simp)]at h2
  have hk: ∀b o c,x= .slice b o c→n≤o:=by
   intro b o c e1
   rcases hx1 with⟨b1,c1,e2⟩|⟨st,e2,_⟩
   ·rw[e2]at e1;cases e1;exact Nat.le_refl _
   ·rw[e2]at e1;cases e1
  obtain⟨l',g1,g2,g3⟩:=srcL_ok2 (E:=E) h2 hr hx hk
  refine⟨g3,fun h=>by rw[h]at h2;exact(srcL_zero h2).1,l',g2, .inl ⟨hq', ?_, ?_⟩⟩
  ·rcases hx1 with⟨b1,c1,rfl⟩|⟨st,rfl,rfl⟩
   ·cases hx<;>simp[Builtin.lenOf]
   ·cases hx
    simp[Builtin.lenOf]
  ·intro w1 hw1
   refine g1 w1 fun a=> ?_
   rcases hw1 with rfl|rfl
   ·rfl
   ·simp
 ·rw[hq,if_pos rfl]at h2
  obtain⟨rfl,rfl⟩:=pure_some h2
  have h6:n*(ie.bytes+1)=n*ie.bytes+n:=Nat.mul_succ _ _
  cases hx
  refine⟨.refl _,fun h=>by rw[h];rfl,rep n ie.zero,plain_VRs (rep_VRs hie.pl n), .inr ⟨hq,rfl,by omega,by omega, ?_⟩⟩
  have hzs:z.cells.size=ie.size:=by rw[←Array.length_toList,hz,hie.len]
  by_cases h0:n*ie.size=0
  ·exact .inl ⟨h0,List.eq_nil_of_length_eq_zero (by rw[rep_length,hie.len,h0])⟩
  ·refine .inr ⟨h0, ?_⟩
   apply Array.ext'
   have hpos:0<z.cells.size:=by rw[hzs];exact Nat.pos_of_ne_zero fun q=>h0 (by rw[q,Nat.mul_zero])
   rw[←hz]
   exact(rep_eq z.cells n hpos).symm
theorem letGo_some: ∀(n l:Nat) {s s':St} {u:Unit},letGo n l s= .some u s'→
  (∀loc c,T.get s'.mem loc=some c→T.get s.mem loc=some c∧ ¬(l≤loc∧loc<l+n))∧s'.next=s.next∧s'.lim=s.lim∧s'.cx=s.cx
 |0,l,s,s',u,h=>by
  obtain⟨_,rfl⟩:=pure_some h
  exact⟨fun loc c e=>⟨e,by omega⟩,rfl,rfl,rfl⟩
 |n+1,l,s,s',u,h=>by
  have h0:letGo (n+1) l=M.bind (delC l) fun _=>letGo n (l+1):=rfl
  rw[h0]at h
  obtain⟨u1,s1,h1,h2⟩:=bind_some h
  obtain⟨g1,g2,g3,g4⟩:=delC_some h1
  obtain⟨k1,k2,k3,k4⟩:=letGo_some n (l+1) h2
  refine⟨fun loc c e=> ?_,k2.trans g2,k3.trans g3,k4.trans g4⟩
  obtain⟨q1,q2⟩:=k1 loc c e
  rw[g1,T.get_del]at q1
  split at q1
  ·cases q1
  ·exact⟨q1,by omega⟩
variable {ts:Array TypeId}{ty:TypeId}{t2 e:Nat}{u2:TypeDesc}{ni:TypeInfo}{z x':Value}{n len c:Nat}{news news':List Value}{base:Option Addr}{y' v:Value}{s s':St}
theorem add_zero' (a:Addr):a.add 0=a:=by simp[Addr.add]
theorem inRoom_ok (hts0:ts[0]?=some t)(hts1:ts[1]?=some t2)(ht:E.P.underlying t=some (.slice e))(ht2:E.P.underlying t2=some u2)(hi:E.P.info? e=some ni)(hz:ni.zero=some z)
  (hs:SrcOK E.P w u2 x' n ni.size ni.bytes z news') (hn:VRs r news news') (hn0:n=0→news=[]) (hv:VR r (.slice base len c) y') (h:inRoom ni.size base len c n news s= .some v s') (hle:len+n≤c%capU) (hr:Rel w0 r s.mem w):
  Yields E w0 r s s' v w (Builtin.append_ ts ty #[y',x']):=by
 unfold inRoom at h
 split at h
 ·rename_i a
  obtain⟨u,s1,h1,h2⟩:=bind_some h
  obtain⟨rfl,rfl⟩:=pSl_some h2
  rcases hv.sl_inv with⟨a2,c2,rfl,ha2,hc,hlen⟩|⟨rfl,q1,q2,a2,c2,rfl⟩
  ·have hle2:c%capU≤c2:=by
    rcases hc with⟨e1,rfl⟩|⟨_,k,_,_,e2,_⟩
    ·exact Nat.mod_le _ _
    ·omega
   have ha3:AR r (addA a (len*ni.size)) ((a2.add (len*ni.size)).add 0):=by rw[add_zero'];exact ha2.add _
   obtain⟨w',k1,k2,k3,k4,k5⟩:=wrL_ok (P:=E.P) _ _ 0 h1 hr ha3 hn
   exact⟨_,w',r,run_app_room hts0 hts1 ht ht2 hi hz hs (by omega) k1, .of_rel k3 k2, .slice ha2 hc hle,k4,k5⟩
  ·have hn1:n=0:=by omega
   have:=hn0 hn1
   subst this
   subst hn1
   have:=hn.inv_nil
   subst this
   obtain⟨_,rfl⟩:=pure_some h1
   exact .pure (run_app_room (len:=0) hts0 hts1 ht ht2 hi hz hs (Nat.zero_le _) rfl) hr hv
 ·obtain⟨rfl,rfl⟩:=pure_some h
  cases hv
  have hn1:n=0:=by
   have:0%capU=0:=Nat.zero_mod _
   omega
  subst hn1
  exact .pure (run_app_none hts0 hts1 ht ht2 hi hs) hr .slNil
end
end Go.Proofs.YtapojfiplajfaaaGreatDoor.Am
/- The evaluator's append against the model's own:grown rows. -/
namespace Go.Proofs.YtapojfiplajfaaaGreatDoor.Am
open Go.RowKit
section
variable {E:Env}{w0 w:World}{r:Inj}{t:Nat}
theorem enc {q need:Nat}(h:need<capU):(capU*q+need)/capU=q∧(capU*q+need)%capU=need:=by
 have hp:=capU_pos
 constructor
 ·rw[Nat.mul_add_div hp,Nat.div_eq_of_lt h];rfl
 ·rw[Nat.mul_add_mod,Nat.mod_eq_of_lt h]
theorem enc2 {m sz:Nat}(h:sz<1024):(m*1024+sz)/1024=m∧(m*1024+sz)%1024=sz:=by omega
theorem finCap {r':Inj}{b bb o m need size x cap':Nat}(h1:r'.blk b=some (bb,o))(h2:r'.ext m=some ⟨x,bb,o+need*size,size⟩)(hs0:0<size)(hs1:size<1024)(hn:need<capU)(hc:cap'=need+x):
  VR r' (.slice (some ⟨b,0,none⟩) need (capU*(m*1024+size)+need)) (.slice (some ⟨bb,o,none⟩) need cap'):=by
 obtain⟨e1,e2⟩:=enc (q:=m*1024+size) hn
 obtain⟨e3,e4⟩:=enc2 (m:=m) hs1
 have:=VR.sl (r:=r') (b:=b) (o:=0) (b':=bb) (d:=o) (l:=need) (c:=capU*(m*1024+size)+need) (c':=cap') h1 (.inr ⟨by rw[e1];omega,_,by rw[e1,e3];exact h2,by rw[e1,e4],by rw[e2];exact hc,rfl,by rw[e2];show 0+o+need*size=o+need*size;omega⟩) (by rw[e2];exact Nat.le_refl _)
 rw[Nat.zero_add]at this
 exact this
theorem finNew {vs vs':List Value}{s2 s3 s4 s5:St}{b need size e cap' q:Nat}{u:Unit}{v:Value}{zs:Array Value}(hr:Rel w0 r s2.mem w)(hn:newL vs s2= .some b s3)(hw:wrC (b+need*size) (.O (.tok false q)) s3= .some u s4)(hq:size=q%1024)(hK:1024≤q→(∀v∈zs.toList,∃m,v= .int .u8 m)∧vs'.length+zs.size≤9223372036854775807)
  (hp:pSl ⟨b,0,none⟩ need (capU*((b+need*size)*1024+size)+need) s4= .some v s5) (hf:Fresh r s2.next s5.next) (hv:VRs r vs vs') (hlen:vs.length=need*size) (hs0:0<size) (hs1:size<1024) (hnu:need<capU) (hcap:need≤cap')
  (hzs:zs.size=(cap'-need)*size): ∃r',Goes w0 r s2 s5 r' (w.drew.alloc (.cells (vs'.toArray++zs) e))∧VR r' v (.slice (some ⟨w.heap.size,0,none⟩) need cap')∧s5.lim=s2.lim∧s5.cx=s2.cx:=by
 obtain⟨rfl,rfl⟩:=pSl_some hp
 have hbn:=(newL_some hn).1
 obtain⟨r',g1,g2,g3,g4,g5,rfl⟩:=growNew_ok (w:=w.drew) (m:=b+need*size) (x:=cap'-need) hr.drew hn hw hq (by rw[hbn,hlen]) hf hv (c:=vs'.toArray++zs) e
  (fun i v h=>by
   have hi:=(List.getElem?_eq_some_iff.1 h).1
   rw[Array.getElem?_append_left (by simpa using hi)]
   simpa using h)
  (by simp[hzs])
  (fun h i v hi hv'=>by
   rw[Array.getElem?_append_right (by simpa using hi)]at hv'
   exact(hK h).1 v (by simpa using Array.mem_of_getElem? hv'))
  (fun h=>by simpa using(hK h).2)
 refine⟨r',g1, ?_,g4,g5⟩
 refine finCap (x:=cap'-need) g2 ?_ hs0 hs1 hnu (by omega)
 rw[hlen]at g3
 rw[Nat.zero_add]
 exact g3
theorem finIn {vs vs':List Value}{s2 s3 s4 s5:St}{b need size cap' bb o q:Nat}{u:Unit}{v:Value}(hr:Rel w0 r s2.mem w)(hn:newL vs s2= .some b s3)(hw:wrC (b+need*size) (.O (.tok false q)) s3= .some u s4)(hq:size=q%1024)
  (hp:pSl ⟨b,0,none⟩ need (capU*((b+need*size)*1024+size)+need) s4= .some v s5) (hf:Fresh r s2.next s5.next) (hv:VRs r vs vs') (hlen:vs.length=need*size) (hs0:0<size) (hs1:size<1024) (hnu:need<capU) (hcap:need≤cap')
  (hb1:w0.heap.size≤bb) (hb2:bb<w.heap.size) (hvs: ∀(i:Nat) (v:Value),vs'[i]?=some v→w.cell? ⟨bb,o+i,none⟩=some v)
  (hcell: ∀j,j<cap'*size→ ∃v',w.cell? ⟨bb,o+j,none⟩=some v'∧w.frozen? ⟨bb,o+j,none⟩=false)
  (hno: ∀loc b v d,T.get s2.mem loc=some (.C b v)→r.blk b=some (bb,d)→loc-b+d<o)
  (htk: ∀t2 sz k2,T.get s2.mem t2=some (.O (.tok false sz))→r.ext t2=some k2→k2.b≠bb)
  (hK:1024≤q→(∀j v,need*size≤j→j<cap'*size→w.cell? ⟨bb,o+j,none⟩=some v→ ∃m,v= .int .u8 m)∧o+cap'*size≤9223372036854775807):
  ∃r',Goes w0 r s2 s5 r' w∧VR r' v (.slice (some ⟨bb,o,none⟩) need cap')∧s5.lim=s2.lim∧s5.cx=s2.cx:=by
 obtain⟨rfl,rfl⟩:=pSl_some hp
 have hbn:=(newL_some hn).1
 have hmul:need*size+(cap'-need)*size=cap'*size:=by rw[←Nat.add_mul];congr 1;omega
 obtain⟨r',g1,g2,g3,g4,g5,rfl⟩:=growIn_ok (m:=b+need*size) (x:=cap'-need) hr hn hw hq (by rw[hbn,hlen]) hf hv hb1 hb2 hvs (fun j hj=>hcell j (by omega)) hno htk (fun h j v h1 h2 h3=>(hK h).1 j v (by omega) (by omega) h3) (fun h=>by rw[hlen,hmul];exact(hK h).2)
 refine⟨r',g1, ?_,g4,g5⟩
 refine finCap (x:=cap'-need) g2 ?_ hs0 hs1 hnu (by omega)
 rw[hlen]at g3
 exact g3
theorem useUp_some {size lb tok f:Nat}{base:Option Addr}{s s':St}(h:useUp size base lb tok s= .some f s'):(tok=0∧s=s'∧f=1)∨(tok≠0∧ ∃sz,T.get s.mem (tok/1024)=some (.O (.tok false sz))∧sz%1024=size∧f=sz/1024∧tok%1024=size∧s'.next=s.next∧s'.lim=s.lim∧s'.cx=s.cx∧
  ∀loc c,T.get s'.mem loc=some c→((loc=tok/1024∧c= .O (.tok true size))∨(loc≠tok/1024∧T.get s.mem loc=some c))∧(∀a,base=some a→ ¬(a.block+a.off≤loc∧loc<a.block+a.off+lb*size))):=by
 unfold useUp at h
 rw[if_eq]at h
 by_cases h0:Nat.beq tok 0=true
 ·rw[if_pos h0]at h
  obtain⟨h1,rfl⟩:=pure_some h
  exact .inl ⟨Nat.eq_of_beq_eq_true h0,rfl,h1.symm⟩
 ·rw[if_neg h0]at h
  have hne:tok≠0:=fun e=>h0 (by rw[e];rfl)
  obtain⟨c,s1,h1,h2⟩:=bind_some h
  obtain⟨g1,g2⟩:=rdC_some h1
  split at h2
  ·rename_i sz
   obtain⟨h3,h4⟩:=chk_some h2
   rw[Bool.and_eq_true]at h3
   have e1:sz%1024=size:=Nat.eq_of_beq_eq_true h3.1
   have e2:tok%1024=size:=Nat.eq_of_beq_eq_true h3.2
   obtain⟨u1,s2,h5,h6⟩:=bind_some h4
   obtain⟨u2,s3,h8,h7⟩:=bind_some h6
   rw[fN_eq]at h7
   obtain⟨hf,rfl⟩:=pure_some h7
   obtain⟨k1,k2,k3,k4⟩:=wrC_some h5
   have set: ∀loc c,T.get s2.mem loc=some c→((loc=tok/1024∧c= .O (.tok true size))∨(loc≠tok/1024∧T.get s.mem loc=some c)):=by
    intro loc c e
    rw[k1,T.get_set,g2.1]at e
    split at e
    ·cases e;exact .inl ⟨by assumption,rfl⟩
    ·exact .inr ⟨by assumption,e⟩
   refine .inr ⟨hne,sz,g1,e1,hf.symm,e2, ?_⟩
   unfold goOld at h8
   split at h8
   ·rename_i a
    obtain⟨q1,q2,q3,q4⟩:=letGo_some _ _ h8
    refine⟨q2.trans (k2.trans g2.2.1),q3.trans (k3.trans g2.2.2.1),q4.trans (k4.trans g2.2.2.2),fun loc c e=> ?_⟩
    obtain⟨x1,x2⟩:=q1 loc c e
    exact⟨set _ _ x1,fun a' ea=>by cases ea;exact x2⟩
   ·obtain⟨_,rfl⟩:=pure_some h8
    exact⟨k2.trans g2.2.1,k3.trans g2.2.2.1,k4.trans g2.2.2.2,fun loc c e=>⟨set _ _ e,fun a' ea=>by cases ea⟩⟩
  ·cases h2
theorem flg_mod {size f:Nat}{g:Bool}(h:size<1024):flg size f g%1024=size:=by
 unfold flg
 cases Nat.beq f 1&&g
 ·exact Nat.mod_eq_of_lt h
 ·show(size+1024)%1024=size
  omega
theorem flg_ge {size f:Nat}{g:Bool}(h:size<1024)(hq:1024≤flg size f g):f=1∧g=true:=by
 unfold flg at hq
 cases hc:(Nat.beq f 1&&g)with
 |false=>
  rw[hc]at hq
  have:1024≤size:=hq
  omega
 |true=>
  rw[Bool.and_eq_true]at hc
  exact⟨Nat.eq_of_beq_eq_true hc.1,hc.2⟩
theorem zeroCells_mem {z:Array Value}{k:Nat}{v:Value}(h:v∈(Builtin.zeroCells z k).toList):v∈z.toList:=by
 unfold Builtin.zeroCells at h
 rw[Array.toList_map]at h
 obtain⟨i,hi,rfl⟩:=List.mem_map.1 h
 have hi':i<k*z.size:=by simpa using hi
 have hz:0<z.size:=by
  rcases Nat.eq_zero_or_pos z.size with e|e
  ·rw[e]at hi';omega
  ·exact e
 have hlt:=Nat.mod_lt i hz
 rw[getElem!_pos z _ hlt,←Array.getElem_toList hlt]
 exact List.getElem_mem _
variable {ts:Array TypeId}{ty:TypeId}{t2 e:Nat}{u2:TypeDesc}{ni:TypeInfo}{z x':Value}{n len c:Nat}{news news':List Value}{base:Option Addr}{y' v:Value}{s s':St}
theorem oneCell_eq (v:Value):v.oneCell'=oneCell v:=by cases v<;>rfl
theorem rdL_mem: ∀(n:Nat) {a:Addr} {s s':St} {l:List Value},rdL n a s= .some l s'→ ∀j,j<n→ ∃v,T.get s.mem (a.block+a.off+j)=some (.C a.block v)∨T.get s.mem (a.block+a.off+j)=some (.O (.old a.block v))
 |0,_,_,_,_,_,j,hj=>absurd hj (Nat.not_lt_zero _)
 |n+1,a,s,s',l,h,j,hj=>by
  have h0:rdL (n+1) a=fA a fun a=>M.bind (rdV a) fun v=>M.bind (rdL n ⟨a.block,Nat.succ a.off,a.spot⟩) fun l=>M.pure (v::l):=rfl
  rw[h0,fA_eq]at h
  obtain⟨v,s1,h1,h2⟩:=bind_some h
  obtain⟨l1,s2,h3,h4⟩:=bind_some h2
  obtain⟨_,g1,g2⟩:=rdV_some h1
  cases j with
  |zero=>exact⟨v,g1⟩
  |succ j=>
   obtain⟨v1,q⟩:=rdL_mem n h3 j (by omega)
   rw[g2.1]at q
   refine⟨v1, ?_⟩
   have e:a.block+a.off+(j+1)=a.block+Nat.succ a.off+j:=by omega
   rw[e]
   exact q
theorem grow_ok (hts0:ts[0]?=some t)(hts1:ts[1]?=some t2)(ht:E.P.underlying t=some (.slice e))(ht2:E.P.underlying t2=some u2)(hi:E.P.info? e=some ni)(hz:ni.zero=some z)(hzs:z.cells.size=ni.size)
  {g:Bool} (hgz:g=true→(∀v∈z.cells.toList,∃m,v= .int .u8 m)∧ni.size=1) (hs:SrcOK E.P w u2 x' n ni.size ni.bytes z news') (hn:VRs r news news') (hv:VR r (.slice base len c) y') (h:grow ni.size ni.bytes g base len c n news s= .some v s') (hle: ¬(len+n≤c%capU)) (hr:Rel w0 r s.mem w) (hf:Fresh r s.next s'.next):
  Yields E w0 r s s' v w (Builtin.append_ ts ty #[y',x']):=by
 unfold grow at h
 obtain⟨hc,h⟩:=chk_some h
 simp only[Bool.and_eq_true,Bool.or_eq_true]at hc
 obtain⟨⟨⟨⟨⟨c1,c2⟩,c3⟩,c4⟩,c5⟩,c6⟩:=hc
 have hb:=Nat.le_of_ble_eq_true c1
 have hs0:0<ni.size:=blt_lt c2
 have hs1:ni.size<1024:=blt_lt c3
 have hnl:news.length=n*ni.size:=Nat.eq_of_beq_eq_true c5
 have hmul:(len+n)*(ni.bytes+1)=(len+n)*ni.bytes+(len+n):=Nat.mul_succ _ _
 have hnu:len+n<capU:=by unfold capU;omega
 obtain⟨old,s1,h1,h⟩:=bind_some h
 obtain⟨f,s2,h2,h⟩:=bind_some h
 obtain⟨b,s3,h3,h⟩:=bind_some h
 rw[fN_eq,fN_eq]at h
 obtain⟨u4,s4,h4,h5⟩:=bind_some h
 change newL (old.take (len*ni.size)++news) s2=_ at h3
 change wrC (b+(len+n)*ni.size) _ s3=_ at h4
 change pSl ⟨b,0,none⟩ (len+n) (capU*((b+(len+n)*ni.size)*1024+ni.size)+(len+n)) s4=_ at h5
 have fin: ∀{olds:List Value} {base':Option Addr} {c':Nat} {r0:Inj},y'= .slice base' len c'→VRs r (old.take (len*ni.size)) olds→olds.length=len*ni.size→(Builtin.firstCells ni.size len (.slice base' len c')).run E.P w.drew= .ok olds.toArray w.drew→
   c'<len+n→Rel w0 r s2.mem w→s2.next=s.next→s2.lim=s.lim→s2.cx=s.cx→Yields E w0 r s s' v w (Builtin.append_ ts ty #[y',x']):=by
  intro olds base' c' _ hy ho hol hrun hg hr2 e1 e2 e3
  subst hy
  have hv':VRs r (old.take (len*ni.size)++news) (olds++news'):=ho.append hn
  have hge:=grownCap_ge w (len+n) c' e
  obtain⟨r',g1,g2,g3,g4⟩:=finNew (e:=e) (cap':=grownCap w (len+n) c' e) (zs:=Builtin.zeroCells z.cells (grownCap w (len+n) c' e-(len+n))) hr2 h3 h4 (flg_mod hs1).symm (fun h=>⟨fun v hv=>(hgz (flg_ge hs1 h).2).1 v (zeroCells_mem hv),by
    have hm:=grownCap_le_maxLen w (len+n) c' e (by unfold maxLen;omega)
    have h1:=(hgz (flg_ge hs1 h).2).2
    rw[size_zeroCells,hzs,List.length_append,←hn.1,hnl,hol,h1]
    unfold maxLen at hm
    omega⟩) h5 (by rw[e1];exact hf) hv'
   (by rw[List.length_append,ho.1,hol,hnl,←Nat.add_mul]) hs0 hs1 hnu hge (by rw[size_zeroCells,hzs])
  refine⟨_,_,r', ?_,⟨g1.le,by rw[←e1];exact g1.nxt,fun b h=>by rw[←e1];exact g1.domB b h,fun b h=>by rw[←e1];exact g1.domE b h,g1.rel⟩,g2,g3.trans e2,g4.trans e3⟩
  rw[run_app_grow hts0 hts1 ht ht2 hi hz hs hrun hg hb]
  congr 3
  simp
 by_cases hq:c/capU=0
 ·-- the room is known
  have hK:oldL ni.size base len s= .some old s1:=by
   have:Nat.beq (Nat.div c capU) 0=true:=by
    have e:Nat.div c capU=0:=hq
    rw[e];rfl
   rw[this]at h1
   exact h1
  have hcc:=cap_div0 hq
  rcases useUp_some h2 with⟨_,rfl,_⟩|⟨e1,_⟩
  ·unfold oldL at hK
   split at hK
   ·rename_i a
    rcases hv.sl_inv with⟨a2,c2,rfl,ha2,hc,hlen⟩|⟨_,q1,_⟩
    ·rcases hc with⟨_,rfl⟩|⟨q1,_⟩
     ·obtain⟨l',g1,g2,g3,g4⟩:=rdL_ok _ hK hr ha2
      have hol:old.length=len*ni.size:=by rw[g3.1,g1]
      have hrun:=run_loadCells_list (P:=E.P) w.drew a2 l' (fun j v e=>by have:=g2 j v e;simpa using this)
      rw[g1]at hrun
      exact fin (r0:=r) rfl (by rw[←hol,List.take_length];exact g3) g1 (by simpa [Builtin.firstCells]using hrun) (by omega) (by rw[g4.1];exact hr) g4.2.1 g4.2.2.1 g4.2.2.2
     ·exact absurd hq q1
    ·exact absurd hq q1
   ·obtain⟨rfl,rfl⟩:=pure_some hK
    cases hv
    exact fin (r0:=r) (olds:=[]) rfl (by simpa using VRs.nil) (by simp) (by simp[Builtin.firstCells]) (by omega) hr rfl rfl rfl
  ·exact absurd hq e1
 ·-- the room may be more than is known
  have h1':oldL ni.size base (c%capU) s= .some old s1:=by
   have:Nat.beq (Nat.div c capU) 0=false:=by
    cases e:Nat.beq (Nat.div c capU) 0 with
    |true=>exact absurd (Nat.eq_of_beq_eq_true e) hq
    |false=>rfl
   rw[this]at h1
   exact h1
  by_cases hz0:c%capU=0
  case pos=>
   rcases useUp_some h2 with⟨e1,_⟩|⟨_,qs,u1,uq,uf,uu2,u3,uu4,u5,u6⟩
   ·exact absurd e1 hq
   cases base with
   |none=>
    cases hv
    exact absurd (Nat.zero_div _) hq
   |some a=>
    have ht0:c/capU/1024≠0:=by
     rcases c4 with(c4|c4)|c4
     ·have:=blt_lt c4
      have h0:Nat.mod c capU=0:=hz0
      omega
     ·have:c=0:=Nat.eq_of_beq_eq_true c4
      rw[this,Nat.zero_div]at hq
      exact absurd rfl hq
     ·have:=blt_lt c4
      have h0:0<c/capU/1024:=this
      omega
    obtain⟨rfl,a2,k,rfl,k1,k2,k5⟩:=hv.end_inv hq hz0 ht0
    rw[hz0]at h1'
    obtain⟨rfl,rfl⟩:=pure_some (show M.pure [] s= .some old s1 from(by have h9:rdL (0*ni.size) a s= .some old s1:=h1';rw[Nat.zero_mul]at h9;exact h9))
    have hsz:k.sz=ni.size:=k2.trans uu2
    change T.get s.mem (c/capU/1024)=_ at u1
    obtain⟨k',t1,t2',t3,t4,t5,t6⟩:=hr.tok _ _ u1
    rw[k1]at t1
    cases t1
    have hr2:Rel w0 r s2.mem w:=hr.lessTok fun loc c e=>by
     rcases(u6 loc c e).1 with⟨_,h⟩|⟨_,h⟩
     ·exact .inr ⟨_,h,by omega⟩
     ·exact .inl h
    have e0:0*ni.size=0:=Nat.zero_mul _
    by_cases hroom:0+n≤k.e
    ·have hn0:0<n:=by omega
     obtain rfl:a2=⟨k.b,k.p,none⟩:=by
      rcases k5 with k5|k5
      ·omega
      ·exact k5
     have hnl':news'.length=n*ni.size:=by rw[←hn.1];exact hnl
     have hcm2:n*ni.size≤k.e*ni.size:=Nat.mul_le_mul_right _ (by omega)
     have hcell: ∀j,j<k.e*ni.size→ ∃v',w.cell? ⟨k.b,k.p+j,none⟩=some v'∧w.frozen? ⟨k.b,k.p+j,none⟩=false:=fun j hj=>by
      obtain⟨v',y1,y2,_⟩:=t5 j (by rw[hsz];exact hj)
      exact⟨v',y1,y2⟩
     have hst:(storeCells ((⟨k.b,k.p,none⟩:Addr).add (0*ni.size)) news').run E.P w= .ok () (w.setCells k.b k.p news'):=by
      rw[addr_add,e0,Nat.add_zero]
      refine run_storeCells_cells k.b _ news' 0 w (fun j hj=> ?_) (fun j hj=> ?_) (fun v hv=> ?_)
      ·obtain⟨v',q,_⟩:=hcell j (by omega);rw[Nat.add_zero,q];rfl
      ·obtain⟨v',_,q⟩:=hcell j (by omega);rw[Nat.add_zero];exact q
      ·rw[oneCell_eq]
       obtain⟨i,hi,rfl⟩:=List.getElem_of_mem hv
       have hi':i<news.length:=by rw[hn.1];exact hi
       have:=hn.2 i _ _ (List.getElem?_eq_getElem hi') (List.getElem?_eq_getElem hi)
       rw[this.oneCell]
       exact List.all_eq_true.1 c6 _ (List.getElem_mem hi')
     have hno: ∀loc b v d',T.get s2.mem loc=some (.C b v)→r.blk b=some (k.b,d')→loc-b+d'<k.p:=by
      intro loc b v d' e1 e2
      rcases(u6 loc _ e1).1 with⟨_,x1⟩|⟨_,x1⟩
      ·cases x1
      ·exact t6 _ _ _ _ x1 e2
     have htk: ∀t2 sz k2,T.get s2.mem t2=some (.O (.tok false sz))→r.ext t2=some k2→k2.b≠k.b:=by
      intro t2 sz k2' e1 e2 heq
      rcases(u6 t2 _ e1).1 with⟨_,x1⟩|⟨x0,x1⟩
      ·cases x1
      ·exact x0 (hr.sepT _ _ _ _ _ _ x1 u1 e2 k1 heq)
     have hr3:Rel w0 r s2.mem (w.setCells k.b k.p news'):=hr2.setFrees t3 htk news' _ (fun j hj=>by obtain⟨v',q,_⟩:=hcell j (by omega);rw[q];rfl) hno
     have hin:=World.cell?_setCells_in k.b news' k.p w (fun j hj=>by obtain⟨v',q,_⟩:=hcell j (by omega);rw[q];rfl)
     have hout: ∀p,p<k.p∨k.p+news'.length≤p→(w.setCells k.b k.p news').cell? ⟨k.b,p,none⟩=w.cell? ⟨k.b,p,none⟩:=fun p hp=>World.cell?_setCells_out k.b news' _ w ⟨k.b,p,none⟩ fun _ _=>hp
     have hsize: ∀(l:List Value) (p:Nat) (w:World),(w.setCells k.b p l).heap.size=w.heap.size:=by
      intro l
      induction l with
      |nil=>intro p w;rfl
      |cons v l ih=>
       intro p w
       show((w.setCell ⟨k.b,p,none⟩ v).setCells k.b (p+1) l).heap.size=_
       rw[ih,World.size_setCell]
     obtain⟨r',f1,f2,f3,f4⟩:=finIn (cap':=k.e) (bb:=k.b) (o:=k.p) (vs':=news') hr3 h3 h4 (flg_mod hs1).symm h5 (by rw[u3];exact hf) (by rw[List.take_nil,List.nil_append];exact hn) (by rw[List.take_nil,List.nil_append,hnl,Nat.zero_add]) hs0 hs1 hnu hroom t3
      (by rw[hsize];exact t4) (fun i v e=>by
       obtain⟨hi2,rfl⟩:=List.getElem?_eq_some_iff.1 e
       exact hin _ hi2) (fun j hj=>by
       obtain⟨v',q1,q2⟩:=hcell j hj
       by_cases hj2:news'.length≤j
       ·exact⟨v',by rw[hout _ (.inr (by omega))];exact q1,by rw[World.frozen?_setCells];exact q2⟩
       ·have:=hin j (by omega)
        exact⟨_,this,by rw[World.frozen?_setCells];exact q2⟩) hno htk
      (fun h=>⟨fun j v h1 h2 h3=>by
       have hf1:=(flg_ge hs1 h).1
       rw[Nat.zero_add]at h1
       rw[hout _ (.inr (by omega))]at h3
       obtain⟨v',y1,y2,y3⟩:=t5 j (by rw[hsz];exact h2)
       rw[h3]at y1
       cases y1
       exact(y3 (by omega)).1,by
       have hf1:=(flg_ge hs1 h).1
       have hpos:0<k.e*ni.size:=Nat.mul_pos (by omega) hs0
       obtain⟨v',_,_,y3⟩:=t5 0 (by rw[hsz];exact hpos)
       have y4:=(y3 (by omega)).2
       rw[hsz]at y4
       exact y4⟩)
     exact⟨_,_,r',run_app_room hts0 hts1 ht ht2 hi hz hs hroom hst,⟨f1.le,by rw[←u3];exact f1.nxt,fun b h=>by rw[←u3];exact f1.domB b h,fun b h=>by rw[←u3];exact f1.domE b h,f1.rel⟩,f2,f3.trans uu4,f4.trans u5⟩
    ·exact fin (r0:=r) (olds:=[]) rfl (by rw[List.take_nil];exact .nil) (by rw[e0];rfl) (by simp[Builtin.firstCells,loadCells,loadCellsFrom]) (by omega) hr2 u3 uu4 u5
  have hlb:0<c%capU:=Nat.pos_of_ne_zero hz0
  rcases useUp_some h2 with⟨e1,_⟩|⟨_,qs,u1,uq,uf,uu2,u3,uu4,u5,u6⟩
  ·exact absurd e1 hq
  ·cases base with
   |none=>
    cases hv
    exact absurd (Nat.zero_div _) hq
   |some a=>
    rcases hv.sl_inv with⟨a2,cc,rfl,ha2,hc,hlen⟩|⟨_,_,q2,_⟩
    ·rcases hc with⟨e1,_⟩|⟨_,k,k1,k2,k3,k4,k5⟩
     ·exact absurd e1 hq
     ·have hsz:k.sz=ni.size:=k2.trans uu2
      have h1'':rdL (c%capU*ni.size) a s= .some old s1:=h1'
      obtain⟨l',g1,g2,g3,g4⟩:=rdL_ok _ h1'' hr ha2
      have hmem0:=rdL_mem _ h1''
      change T.get s1.mem (c/capU/1024)=_ at u1
      rw[g4.1]at u1
      obtain⟨k',t1,t2',t3,t4,t5,t6⟩:=hr.tok _ _ u1
      rw[k1]at t1
      cases t1
      have hr2:Rel w0 r s2.mem w:=hr.lessTok fun loc c e=>by
       rcases(u6 loc c e).1 with⟨_,h⟩|⟨_,h⟩
       ·exact .inr ⟨_,h,by omega⟩
       ·rw[g4.1]at h;exact .inl h
      have hlm:len*ni.size≤c%capU*ni.size:=Nat.mul_le_mul_right _ hlen
      have hol:(l'.take (len*ni.size)).length=len*ni.size:=by rw[List.length_take,g1];omega
      have hrun:=run_loadCells_list (P:=E.P) w.drew a2 (l'.take (len*ni.size)) (fun j v e=>by
       rw[List.getElem?_take]at e
       split at e
       ·have:=g2 j v e;simpa using this
       ·cases e)
      rw[hol]at hrun
      by_cases hroom:len+n≤cc
      ·obtain⟨b0,o0,bb,d,rfl,rfl,hblk⟩:=ha2
       subst k4
       have hmem: ∀j,j<c%capU*ni.size→ ∃v,T.get s.mem (b0+o0+j)=some (.C b0 v):=fun j hj=>by
        obtain⟨v,q⟩:=hmem0 j hj
        rcases q with q|q
        ·exact⟨v,q⟩
        ·exact absurd (hr.oldLt q hblk) (Nat.not_lt_of_le t3)
       have hcell: ∀j,j<cc*ni.size→ ∃v',w.cell? ⟨k.b,o0+d+j,none⟩=some v'∧w.frozen? ⟨k.b,o0+d+j,none⟩=false:=by
        intro j hj
        by_cases hj1:j<c%capU*ni.size
        ·obtain⟨v1,q⟩:=hmem j hj1
         change T.get s.mem (b0+o0+j)=some (.C b0 v1)at q
         rw[Nat.add_assoc]at q
         obtain⟨v',q1,_,q3⟩:=hr.load q hblk
         rw[show o0+d+j=o0+j+d by omega]
         exact⟨v',q1,q3⟩
        ·have hcm:cc*ni.size=c%capU*ni.size+k.e*ni.size:=by rw[k3,Nat.add_mul]
         obtain⟨v',y1,y2,_⟩:=t5 (j-c%capU*ni.size) (by rw[hsz];omega)
         rw[hsz]at k5
         change o0+d+_=_ at k5
         rw[←k5,show o0+d+c%capU*ni.size+(j-c%capU*ni.size)=o0+d+j by omega]at y1 y2
         exact⟨v',y1,y2⟩
       have hnl':news'.length=n*ni.size:=by rw[←hn.1];exact hnl
       have hcm2:(len+n)*ni.size≤cc*ni.size:=Nat.mul_le_mul_right _ hroom
       rw[Nat.add_mul]at hcm2
       have hcell2: ∀j,j<news'.length→ ∃v',w.cell? ⟨k.b,o0+d+len*ni.size+j,none⟩=some v'∧w.frozen? ⟨k.b,o0+d+len*ni.size+j,none⟩=false:=by
        intro j hj
        have:=hcell (len*ni.size+j) (by omega)
        rw[←Nat.add_assoc]at this
        exact this
       have hst:(storeCells ((⟨k.b,o0+d,none⟩:Addr).add (len*ni.size)) news').run E.P w= .ok () (w.setCells k.b (o0+d+len*ni.size) news'):=by
        rw[addr_add]
        refine run_storeCells_cells k.b _ news' 0 w (fun j hj=> ?_) (fun j hj=> ?_) (fun v hv=> ?_)
        ·obtain⟨v',q,_⟩:=hcell2 j hj;rw[Nat.add_zero,q];rfl
        ·obtain⟨v',_,q⟩:=hcell2 j hj;rw[Nat.add_zero];exact q
        ·rw[oneCell_eq]
         obtain⟨i,hi,rfl⟩:=List.getElem_of_mem hv
         have hi':i<news.length:=by rw[hn.1];exact hi
         have:=hn.2 i _ _ (List.getElem?_eq_getElem hi') (List.getElem?_eq_getElem hi)
         rw[this.oneCell]
         exact List.all_eq_true.1 c6 _ (List.getElem_mem hi')
       have hno: ∀loc b v d',T.get s2.mem loc=some (.C b v)→r.blk b=some (k.b,d')→loc-b+d'<o0+d:=by
        intro loc b v d' e1 e2
        obtain⟨x1,x2⟩:=u6 loc _ e1
        have x3:=x2 _ rfl
        rcases x1 with⟨_,x1⟩|⟨_,x1⟩
        ·cases x1
        ·rw[g4.1]at x1
         have q:=t6 _ _ _ _ x1 e2
         rw[hsz]at k5
         change o0+d+_=_ at k5
         rcases Nat.lt_or_ge (loc-b+d') (o0+d)with q2|q2
         ·exact q2
         ·exfalso
          obtain⟨v1,q3⟩:=hmem (loc-b+d'-(o0+d)) (by omega)
          change T.get s.mem (b0+o0+_)=some (.C b0 v1)at q3
          have q4:=hr.sep _ _ _ _ _ _ _ _ _ x1 q3 e2 hblk (by omega)
          apply x3
          change b0+o0≤loc∧loc<b0+o0+c%capU*ni.size
          omega
       have htk: ∀t2 sz k2,T.get s2.mem t2=some (.O (.tok false sz))→r.ext t2=some k2→k2.b≠k.b:=by
        intro t2 sz k2' e1 e2 heq
        rcases(u6 t2 _ e1).1 with⟨_,x1⟩|⟨x0,x1⟩
        ·cases x1
        ·rw[g4.1]at x1
         exact x0 (hr.sepT _ _ _ _ _ _ x1 u1 e2 k1 heq)
       have hr3:Rel w0 r s2.mem (w.setCells k.b (o0+d+len*ni.size) news'):=hr2.setFrees t3 htk news' _ (fun j hj=>by obtain⟨v',q,_⟩:=hcell2 j hj;rw[q];rfl) (fun loc b v d' e1 e2=>by have:=hno _ _ _ _ e1 e2;omega)
       have hin:=World.cell?_setCells_in k.b news' (o0+d+len*ni.size) w (fun j hj=>by obtain⟨v',q,_⟩:=hcell2 j hj;rw[q];rfl)
       have hout: ∀p,p<o0+d+len*ni.size∨o0+d+len*ni.size+news'.length≤p→(w.setCells k.b (o0+d+len*ni.size) news').cell? ⟨k.b,p,none⟩=w.cell? ⟨k.b,p,none⟩:=fun p hp=>World.cell?_setCells_out k.b news' _ w ⟨k.b,p,none⟩ fun _ _=>hp
       obtain⟨r',f1,f2,f3,f4⟩:=finIn (cap':=cc) (bb:=k.b) (o:=o0+d) hr3 h3 h4 (flg_mod hs1).symm h5 (by rw[u3,g4.2.1];exact hf) ((g3.take (len*ni.size)).append hn) (by rw[List.length_append,(g3.take (len*ni.size)).1,hol,hnl,←Nat.add_mul]) hs0 hs1 hnu hroom t3
        (by have:=hr3.dom _ _ _ hblk;exact this.2) (fun i v e=>by
         rw[List.getElem?_append]at e
         split at e
         ·rename_i hi
          rw[hol]at hi
          rw[hout _ (.inl (by omega))]
          rw[List.getElem?_take,if_pos hi]at e
          have:=g2 i v e
          rw[addr_add]at this
          exact this
         ·rename_i hi
          rw[hol]at e hi
          obtain⟨hi2,rfl⟩:=List.getElem?_eq_some_iff.1 e
          have:=hin _ hi2
          rw[show o0+d+len*ni.size+(i-len*ni.size)=o0+d+i by omega]at this
          exact this) (fun j hj=>by
         obtain⟨v',q1,q2⟩:=hcell j hj
         by_cases hj2:o0+d+j<o0+d+len*ni.size∨o0+d+len*ni.size+news'.length≤o0+d+j
         ·exact⟨v',by rw[hout _ hj2];exact q1,by rw[World.frozen?_setCells];exact q2⟩
         ·have hj3:j-len*ni.size<news'.length:=by omega
          have:=hin _ hj3
          rw[show o0+d+len*ni.size+(j-len*ni.size)=o0+d+j by omega]at this
          exact⟨_,this,by rw[World.frozen?_setCells];exact q2⟩) hno htk
        (fun h=>⟨fun j v h1 h2 h3=>by
         have hf1:=(flg_ge hs1 h).1
         have hcm:cc*ni.size=c%capU*ni.size+k.e*ni.size:=by rw[k3,Nat.add_mul]
         have hlm2:c%capU*ni.size≤(len+n)*ni.size:=Nat.mul_le_mul_right _ (by omega)
         rw[hout _ (.inr (by rw[hnl'];rw[Nat.add_mul]at h1;omega))]at h3
         obtain⟨v',y1,y2,y3⟩:=t5 (j-c%capU*ni.size) (by rw[hsz];omega)
         rw[hsz]at k5
         change o0+d+_=_ at k5
         rw[←k5,show o0+d+c%capU*ni.size+(j-c%capU*ni.size)=o0+d+j by omega]at y1
         rw[h3]at y1
         cases y1
         exact(y3 (by omega)).1,by
         have hf1:=(flg_ge hs1 h).1
         have hcm:cc*ni.size=c%capU*ni.size+k.e*ni.size:=by rw[k3,Nat.add_mul]
         have hlt:(c%capU+1)*ni.size≤cc*ni.size:=Nat.mul_le_mul_right _ (by omega)
         rw[Nat.add_mul]at hlt
         obtain⟨v',_,_,y3⟩:=t5 0 (by rw[hsz];omega)
         have y4:=(y3 (by omega)).2
         rw[hsz]at y4 k5
         change o0+d+_=_ at k5
         omega⟩)
       have e1:s2.next=s.next:=u3.trans g4.2.1
       exact⟨_,_,r',run_app_room hts0 hts1 ht ht2 hi hz hs hroom hst,⟨f1.le,by rw[←e1];exact f1.nxt,fun b h=>by rw[←e1];exact f1.domB b h,fun b h=>by rw[←e1];exact f1.domE b h,f1.rel⟩,f2,f3.trans (uu4.trans g4.2.2.1),f4.trans (u5.trans g4.2.2.2)⟩
      ·exact fin (r0:=r) rfl (g3.take _) hol (by simpa [Builtin.firstCells]using hrun) (by omega) hr2 (u3.trans g4.2.1) (uu4.trans g4.2.2.1) (u5.trans g4.2.2.2)
    ·omega
end
end Go.Proofs.YtapojfiplajfaaaGreatDoor.Am
/- The evaluator's append against the model's own. -/
namespace Go.Proofs.YtapojfiplajfaaaGreatDoor.Am
open Go.RowKit
section
variable {E:Env}{w0 w:World}{r:Inj}{t t2:Nat}
theorem isU8z_mem {z:List Value}(h:isU8z z=true){v:Value}(hv:v∈z): ∃m,v= .int .u8 m:=by
 unfold isU8z at h
 split at h
 ·rw[List.mem_singleton]at hv
  exact⟨_,hv⟩
 ·cases h
theorem isU8z_len {z:List Value}(h:isU8z z=true):z.length=1:=by
 unfold isU8z at h
 split at h
 ·rfl
 ·cases h
theorem Yields.before {s s1 s':St}{v:Value}{m:Sem Value}(hs:Same s s1)(h:Yields E w0 r s1 s' v w m):Yields E w0 r s s' v w m:=by
 obtain⟨v',w',r',h1,h2,h3,h4,h5⟩:=h
 exact⟨v',w',r',h1,⟨h2.le,by rw[←hs.2.1];exact h2.nxt,fun b h=>by rw[←hs.2.1];exact h2.domB b h,fun b h=>by rw[←hs.2.1];exact h2.domE b h,h2.rel⟩,h3,h4.trans hs.2.2.1,h5.trans hs.2.2.2⟩
theorem aAppend_ok {ts:Array TypeId}{ty:TypeId}{x x' y y' v:Value}{s s':St}(hts0:ts[0]?=some t)(hts1:ts[1]?=some t2)(he:EnvTy E)(h:aAppend E t t2 y x s= .some v s')(hr:Rel w0 r s.mem w)(hf:Fresh r s.next s'.next)(hy:VR r y y')(hx:VR r x x'):
  Yields E w0 r s s' v w (Builtin.append_ ts ty #[y',x']):=by
 obtain⟨i,s1,h1,h2⟩:=bind_some h
 obtain⟨hi,rfl⟩:=ti_some h1 he
 obtain⟨i2,s1,h3,h4⟩:=bind_some h2
 obtain⟨hi2,rfl⟩:=ti_some h3 he
 have ht:=hi.und
 have ht2:=hi2.und
 generalize i.u=u at h4 ht
 split at h4
 ·rename_i e base len c
  obtain⟨ie,s1,h5,h6⟩:=bind_some h4
  obtain⟨hie,rfl⟩:=ti_some h5 he
  obtain⟨n,s1,h7,h8⟩:=bind_some h6
  obtain⟨news,s2,h9,h10⟩:=bind_some h8
  obtain⟨ni,q1,q2,q3,z,q4,q5⟩:=hie.info
  obtain⟨g1,g2,news',g3,g4⟩:=src_ok (E:=E) h7 h9 hr hx hie q5
  have hzs:z.cells.size=ni.size:=by rw[←Array.length_toList,q5,hie.len,q2]
  rw[←q2,←q3]at g4
  rw[if_eq]at h10
  have hr2:Rel w0 r s2.mem w:=by rw[g1.1];exact hr
  refine Yields.before g1 ?_
  by_cases hle:Nat.ble (Nat.add len n) (Nat.mod c capU)=true
  ·rw[if_pos hle,←q2]at h10
   exact inRoom_ok hts0 hts1 ht ht2 q1 q4 g4 g3 g2 hy h10 (Nat.le_of_ble_eq_true hle) hr2
  ·rw[if_neg hle,←q2,←q3]at h10
   exact grow_ok hts0 hts1 ht ht2 q1 q4 hzs (fun hg=>⟨fun v hv=>isU8z_mem hg (by rw[←q5];exact hv),by
    have:=isU8z_len hg
    rw[←hzs,←Array.length_toList,q5,this]⟩) g4 g3 hy h10 (fun hh=>hle (Nat.ble_eq_true_of_le hh)) hr2 (by rw[g1.2.1];exact hf)
 ·cases h4
end
end Go.Proofs.YtapojfiplajfaaaGreatDoor.Am
/- Objects that are no rows of cells:loops over functions,lists of deferred calls. -/
namespace Go.Proofs.YtapojfiplajfaaaGreatDoor.Am
open Go.RowKit
section
variable {w0 w:World}{r:Inj}{mem:T Cell}
def World.setO (w:World)(b:Nat)(o:Obj):World:={w with heap:=w.heap.setIfInBounds b o}
theorem setO_size (b:Nat)(o:Obj):(World.setO w b o).heap.size=w.heap.size:=by simp[World.setO]
theorem setO_self {b:Nat}(h:b<w.heap.size)(o:Obj):(World.setO w b o).heap[b]?=some o:=by simp[World.setO,h]
theorem setO_other {b c:Nat}(h:c≠b)(o:Obj):(World.setO w b o).heap[c]?=w.heap[c]?:=by
 simp only[World.setO]
 exact Array.getElem?_setIfInBounds_ne (fun e=>h e.symm)
theorem setO_cell {b:Nat}{o:Obj}(a:Addr)(h:a.block≠b):(World.setO w b o).cell? a=w.cell? a:=by
 unfold World.cell?
 rw[setO_other h]
theorem setO_frozen {b:Nat}{o:Obj}(a:Addr)(h:a.block≠b):(World.setO w b o).frozen? a=w.frozen? a:=by
 unfold World.frozen?
 rw[setO_other h]
/-- An object is laid anew. -/
theorem Rel.storeO (h:Rel w0 r mem w){l l' d:Nat}{o o2:AObj}{o2':Obj}(hc:T.get mem l=some (.O o))(ht:o.isTok=false)(hb:r.blk l=some (l',d))(ho:OR r o2 o2')(ht2:o2.isTok=false):
  Rel w0 r (T.set mem l (.O o2)) (World.setO w l' o2'):=by
 obtain⟨b1,d1,ow,g1,g2,g3⟩:=h.obj _ _ hc ht
 rw[hb]at g1
 cases g1
 have hlt:=(h.dom _ _ _ hb).2
 have old: ∀loc c,T.get (T.set mem l (.O o2)) loc=some c→(loc=l∧c= .O o2)∨(loc≠l∧T.get mem loc=some c):=by
  intro loc c e
  rw[T.get_set]at e
  split at e
  ·cases e;exact .inl ⟨by assumption,rfl⟩
  ·exact .inr ⟨by assumption,e⟩
 have oldC: ∀loc b v,T.get (T.set mem l (.O o2)) loc=some (.C b v)→T.get mem loc=some (.C b v):=by
  intro loc b v e
  rcases old _ _ e with⟨_,e⟩|⟨_,e⟩
  ·cases e
  ·exact e
 have oldT: ∀loc u sz,T.get (T.set mem l (.O o2)) loc=some (.O (.tok u sz))→T.get mem loc=some (.O (.tok u sz)):=by
  intro loc u sz e
  rcases old _ _ e with⟨_,e⟩|⟨_,e⟩
  ·cases e;cases ht2
  ·exact e
 have anyO: ∀loc o1,T.get (T.set mem l (.O o2)) loc=some (.O o1)→o1.isTok=false→ ∃o3,T.get mem loc=some (.O o3)∧o3.isTok=false:=by
  intro loc o1 e t1
  rcases old _ _ e with⟨e1,_⟩|⟨_,e⟩
  ·rw[e1];exact⟨o,hc,ht⟩
  ·exact⟨o1,e,t1⟩
 have cellNe: ∀b' off v,w.cell? ⟨b',off,none⟩=some v→b'≠l':=by
  intro b' off v e hx
  subst hx
  unfold World.cell? at e
  rw[g2]at e
  cases ow with
  |cells c t f=>exact g3.cells
  |_=>cases e
 have hnew:=h.olds.newO _ _ _ _ hc ht hb
 refine⟨?_,fun x y z e=>by rw[setO_size];exact h.dom x y z e, ?_, ?_, ?_, ?_, ?_, ?_,h.known,fun x n e=>by
  obtain⟨p,q⟩:=h.szs x n (oldT _ _ _ e)
  refine⟨p,q.to (Inj.le_refl r) fun b' q1 q2=> ?_⟩
  have hne:b'≠l':=by
   intro hx
   subst hx
   obtain⟨c,e,lo,hi,q3,_⟩:=q2
   rw[g2]at q3
   cases q3
   exact g3.cells
  exact q2.heap (setO_other hne _),
  h.oldsTo (Inj.le_refl r) fun loc c e=>by
   rcases old _ _ e with⟨e1,e⟩|⟨_,e⟩
   ·exact .inr (.inr (.inr ⟨_,_,_,e,ht2,by rw[e1];exact hb,hnew⟩))
   ·exact .inl e⟩
 ·have hlo:=hnew
  exact h.below.trans ⟨rfl,rfl,rfl,by rw[setO_size];exact Nat.le_refl _,fun k hk=>setO_other (by omega) _⟩
 ·intro loc b v e
  obtain⟨b2,d2,v2,k1,k2,k3,k4,k5⟩:=h.cell _ _ _ (oldC _ _ _ e)
  have hne:=cellNe _ _ _ k3
  exact⟨b2,d2,v2,k1,k2,by rw[setO_cell _ hne];exact k3,k4,by rw[setO_frozen _ hne];exact k5⟩
 ·intro l1 l2 b1 v1 b2 v2 bb d1 d2 e1 e2
  exact h.sep _ _ _ _ _ _ _ _ _ (oldC _ _ _ e1) (oldC _ _ _ e2)
 ·intro loc ob e t1
  rcases old _ _ e with⟨e1,e2⟩|⟨hne,e⟩
  ·cases e2
   subst e1
   exact⟨l',d,o2',hb,setO_self hlt _,ho⟩
  ·obtain⟨b2,d2,o',k1,k2,k3⟩:=h.obj _ _ e t1
   refine⟨b2,d2,o',k1, ?_,k3⟩
   rw[setO_other]
   ·exact k2
   ·intro hx
    subst hx
    exact hne (h.sepO _ _ _ _ _ _ _ e hc t1 ht k1 hb)
 ·intro l1 l2 o1 o3 bb d1 d2 e1 e2 t1 t2 r1 r2
  obtain⟨p1,q1,q2⟩:=anyO _ _ e1 t1
  obtain⟨p2,q3,q4⟩:=anyO _ _ e2 t2
  exact h.sepO _ _ _ _ _ _ _ q1 q3 q2 q4 r1 r2
 ·intro t sz e
  obtain⟨k,k1,k2,k3,k4,k5,k6⟩:=h.tok _ _ (oldT _ _ _ e)
  refine⟨k,k1,k2,k3,by rw[setO_size];exact k4,fun j hj=> ?_,fun loc b v d e1=>k6 _ _ _ _ (oldC _ _ _ e1)⟩
  obtain⟨v',p1,p2⟩:=k5 j hj
  have hne:=cellNe _ _ _ p1
  exact⟨v',by rw[setO_cell _ hne];exact p1,by rw[setO_frozen _ hne];exact p2⟩
 ·intro t1 t2 s1 s2 k1 k2 e1 e2
  exact h.sepT _ _ _ _ _ _ (oldT _ _ _ e1) (oldT _ _ _ e2)
theorem alloc_self (w:World)(o:Obj):(w.alloc o).heap[w.heap.size]?=some o:=by
 show(w.heap.push o)[w.heap.size]?=some o
 rw[Array.getElem?_push,if_pos rfl]
/-- A new object. -/
theorem Rel.newObj (h:Rel w0 r mem w){b:Nat}(hb:r.blk b=none){o:AObj}{o':Obj}(ht:o.isTok=false)(ho:OR r o o'):
  Rel w0 (r.add b (w.heap.size,0)) (T.set mem b (.O o)) (w.alloc o'):=by
 have hle:=Inj.add_le (w.heap.size,0) hb
 have old: ∀loc c,T.get (T.set mem b (.O o)) loc=some c→(loc=b∧c= .O o)∨(loc≠b∧T.get mem loc=some c):=by
  intro loc c e
  rw[T.get_set]at e
  split at e
  ·cases e;exact .inl ⟨by assumption,rfl⟩
  ·exact .inr ⟨by assumption,e⟩
 have oldC: ∀loc b1 v,T.get (T.set mem b (.O o)) loc=some (.C b1 v)→T.get mem loc=some (.C b1 v):=by
  intro loc b1 v e
  rcases old _ _ e with⟨_,e⟩|⟨_,e⟩
  ·cases e
  ·exact e
 have oldT: ∀loc u sz,T.get (T.set mem b (.O o)) loc=some (.O (.tok u sz))→T.get mem loc=some (.O (.tok u sz)):=by
  intro loc u sz e
  rcases old _ _ e with⟨_,e⟩|⟨_,e⟩
  ·cases e;cases ht
  ·exact e
 have notb: ∀loc b1 v1,T.get mem loc=some (.C b1 v1)→b1≠b:=by
  intro loc b1 v1 e1 heq
  obtain⟨b2,d2,_,_,g2,_⟩:=h.cell _ _ _ e1
  rw[heq,hb]at g2;cases g2
 have keepC: ∀b1 o1,b1<w.heap.size→(w.alloc o').cell? ⟨b1,o1,none⟩=w.cell? ⟨b1,o1,none⟩:=fun b1 o1 k=>World.cell?_alloc_past _ b1 o1 k
 have keepF: ∀b1 o1,b1<w.heap.size→(w.alloc o').frozen? ⟨b1,o1,none⟩=w.frozen? ⟨b1,o1,none⟩:=fun b1 o1 k=>World.frozen?_alloc_past _ b1 o1 k
 refine⟨h.below.alloc h.below.size _, ?_, ?_, ?_, ?_, ?_, ?_, ?_,h.known,fun l n e1=>let ⟨p,q⟩:=h.szs l n (oldT _ _ _ e1);⟨p,q.to hle fun b' q1 q2=>q2.heap (Below.heap_alloc w _ _ (h.dom _ _ _ q1).2)⟩,
  h.oldsTo hle fun loc c e=>by
   rcases old _ _ e with⟨e1,e⟩|⟨_,e⟩
   ·exact .inr (.inr (.inr ⟨_,_,_,e,ht,by rw[e1];exact Inj.add_self _ _ _,h.below.size⟩))
   ·exact .inl e⟩
 ·intro x b' d e1
  rw[World.size_alloc]
  by_cases hx:x=b
  ·rw[hx,Inj.add_self]at e1
   cases e1
   exact⟨Nat.le_succ_of_le h.below.size,Nat.lt_succ_self _⟩
  ·rw[Inj.add_other _ hx]at e1
   exact⟨Nat.le_succ_of_le (h.dom _ _ _ e1).1,Nat.lt_succ_of_lt (h.dom _ _ _ e1).2⟩
 ·intro loc b1 v1 e1
  obtain⟨b2,d2,v2,g1,g2,g3,g4,g5⟩:=h.cell _ _ _ (oldC _ _ _ e1)
  have hlt:=(h.dom _ _ _ g2).2
  exact⟨b2,d2,v2,g1,hle.1 _ _ g2,by rw[keepC _ _ hlt];exact g3,g4.mono hle,by rw[keepF _ _ hlt];exact g5⟩
 ·intro l1 l2 b1 v1 b2 v2 b' d1 d2 e1 e2 r1 r2 hh
  have e1:=oldC _ _ _ e1
  have e2:=oldC _ _ _ e2
  rw[Inj.add_other _ (notb _ _ _ e1)]at r1
  rw[Inj.add_other _ (notb _ _ _ e2)]at r2
  exact h.sep _ _ _ _ _ _ _ _ _ e1 e2 r1 r2 hh
 ·intro loc ob e1 t1
  rcases old _ _ e1 with⟨q1,q2⟩|⟨hne,e⟩
  ·cases q2
   subst q1
   exact⟨w.heap.size,0,o',Inj.add_self _ _ _,alloc_self w o',ho.mono hle⟩
  ·obtain⟨b2,d2,ow,g1,g2,g3⟩:=h.obj _ _ e t1
   exact⟨b2,d2,ow,hle.1 _ _ g1,by rw[Below.heap_alloc w _ _ (h.dom _ _ _ g1).2];exact g2,g3.mono hle⟩
 ·intro l1 l2 o1 o2 b' d1 d2 e1 e2 t1 t2 r1 r2
  rcases old _ _ e1 with⟨q1,q2⟩|⟨n1,q2⟩
  ·rw[q1,Inj.add_self]at r1
   cases r1
   rcases old _ _ e2 with⟨q3,q4⟩|⟨n3,q4⟩
   ·rw[q1,q3]
   ·rw[Inj.add_other _ n3]at r2
    exact absurd (h.dom _ _ _ r2).2 (Nat.lt_irrefl _)
  ·rw[Inj.add_other _ n1]at r1
   rcases old _ _ e2 with⟨q3,q4⟩|⟨n3,q4⟩
   ·rw[q3,Inj.add_self]at r2
    cases r2
    exact absurd (h.dom _ _ _ r1).2 (Nat.lt_irrefl _)
   ·rw[Inj.add_other _ n3]at r2
    exact h.sepO _ _ _ _ _ _ _ q2 q4 t1 t2 r1 r2
 ·intro t sz e1
  obtain⟨k,g1,g2,g3,g4,g5,g6⟩:=h.tok _ _ (oldT _ _ _ e1)
  refine⟨k,g1,g2,g3,by rw[World.size_alloc];exact Nat.lt_succ_of_lt g4,fun j hj=>by rw[keepC _ _ g4,keepF _ _ g4];exact g5 j hj, ?_⟩
  intro loc b1 v1 d e2 r1
  have e2:=oldC _ _ _ e2
  rw[Inj.add_other _ (notb _ _ _ e2)]at r1
  exact g6 _ _ _ _ e2 r1
 ·intro t1 t2 s1 s2 k1 k2 e1 e2
  exact h.sepT _ _ _ _ _ _ (oldT _ _ _ e1) (oldT _ _ _ e2)
end
theorem newO_ok {w0 w:World}{r:Inj}{o:AObj}{o':Obj}{s s':St}{b:Nat}(h:newO o s= .some b s')(hr:Rel w0 r s.mem w)(hf:Fresh r s.next s'.next)(ht:o.isTok=false)(ho:OR r o o'):
  b=s.next∧Goes w0 r s s' (r.add s.next (w.heap.size,0)) (w.alloc o')∧(r.add s.next (w.heap.size,0)).blk b=some (w.heap.size,0)∧s'.lim=s.lim∧s'.cx=s.cx:=by
 obtain⟨h1,h2,h3,h4,h5⟩:=newO_some h
 have hb:=(hf s.next (Nat.le_refl _) (by omega)).1
 refine⟨h1,Goes.add hb (by omega) ?_,by rw[h1];exact Inj.add_self _ _ _,h4,h5⟩
 rw[h2]
 exact hr.newObj hb ht ho
/-- What lies there as an object,and is laid anew. -/
theorem wrO_ok {w0 w:World}{r:Inj}{l l' d:Nat}{o o2:AObj}{o2':Obj}{s s':St}{u:Unit}(h:wrC l (.O o2) s= .some u s')(hr:Rel w0 r s.mem w)(hc:T.get s.mem l=some (.O o))(ht:o.isTok=false)(hb:r.blk l=some (l',d))(ho:OR r o2 o2')(ht2:o2.isTok=false):
  Goes w0 r s s' r (World.setO w l' o2')∧s'.lim=s.lim∧s'.cx=s.cx:=by
 obtain⟨h1,h2,h3,h4⟩:=wrC_some h
 exact⟨.of_rel h2 (by rw[h1];exact hr.storeO hc ht hb ho ht2),h3,h4⟩
end Go.Proofs.YtapojfiplajfaaaGreatDoor.Am
/- New rows:bytes of a string;clear. -/
namespace Go.Proofs.YtapojfiplajfaaaGreatDoor.Am
open Go.RowKit
theorem fBs_eq {β:Type}: ∀(l:List UInt8) (K:List Value→β),fBs l K=K (bytesV l)
 |[],K=>rfl
 |b::l,K=>by
  have h0:fBs (b::l) K=fN b.toNat fun n=>fBs l fun vs=>K (.int .u8 (.ofNat n)::vs):=rfl
  rw[h0,fN_eq,fBs_eq l]
  rfl
section
variable {E:Env}{w0 w:World}{r:Inj}{t:Nat}
theorem bytesV_plain (l:List UInt8): ∀v∈bytesV l,plain v=true:=fun v hv=>by
 obtain⟨b,_,rfl⟩:=List.mem_map.1 hv
 rfl
theorem strBs_ok {b:ByteArray}{v:Value}{s s':St}{e:TypeId}(h:strBs b.data.toList s= .some v s')(hr:Rel w0 r s.mem w)(hf:Fresh r s.next s'.next):
  ∃v' r',v'= .slice (some ⟨w.heap.size,0,none⟩) b.size (grownCap w b.size 0 e)∧Goes w0 r s s' r' (Lib.bytesWorld w e b)∧VR r' v v'∧s'.lim=s.lim∧s'.cx=s.cx:=by
 unfold strBs at h
 rw[fBs_eq,fN_eq]at h
 unfold rowN at h
 obtain⟨hlt,h⟩:=chk_some h
 obtain⟨bl,s1,e1,h⟩:=bind_some h
 obtain⟨u,s2,e2,h⟩:=bind_some h
 have hlen:(bytesV b.data.toList).length=b.size:=by
  show(List.map _ _).length=_
  rw[List.length_map]
  exact Array.length_toList
 have hge:b.size≤grownCap w b.size 0 e:=grownCap_ge _ _ _ _
 have hr':Rel w0 r s.mem (Lib.bytesWorld w e b):=hr.beyond ⟨rfl,rfl,rfl,by rw[Lib.bytesWorld_size];exact Nat.le_succ _,fun k hk=>Lib.bytesWorld_at_old w e b k hk⟩
 have hcs:(Lib.bytesCells w e b).size=grownCap w b.size 0 e:=by
  show(Array.map _ _++Array.replicate _ _).size=_
  rw[Array.size_append,Array.size_map,Array.size_replicate]
  show b.size+_=_
  omega
 have cellat: ∀j,(Lib.bytesWorld w e b).cell? ⟨w.heap.size,0+j,none⟩=(Lib.bytesCells w e b)[j]?:=fun j=>by
  rw[Nat.zero_add]
  simp[World.cell?,Lib.bytesWorld_at_new]
 obtain⟨r',k1,k2,k3,k4⟩:=finIn (need:=(bytesV b.data.toList).length) (size:=1) (cap':=grownCap w b.size 0 e) (bb:=w.heap.size) (o:=0) (vs':=bytesV b.data.toList) hr' e1 e2 rfl h hf (plain_VRs (bytesV_plain _)) (by rw[Nat.mul_one]) (by decide) (by decide) (blt_lt hlt)
  (by rw[hlen];exact hge) hr.below.size (by rw[Lib.bytesWorld_size];exact Nat.lt_succ_self _)
  (fun i x hx=>by
   have hi:i<(bytesV b.data.toList).length:=(List.getElem?_eq_some_iff.1 hx).1
   rw[cellat i]
   have h1:(Lib.bytesCells w e b)[i]?=(b.data.map fun b=>Value.int .u8 b.toNat)[i]?:=Array.getElem?_append_left (by rw[Array.size_map];rw[hlen]at hi;exact hi)
   rw[h1,←hx]
   show _=(List.map _ _)[i]?
   rw[List.getElem?_map,Array.getElem?_map]
   simp)
  (fun j hj=>by
   rw[Nat.mul_one]at hj
   have hj':j<(Lib.bytesCells w e b).size:=by rw[hcs];exact hj
   refine⟨(Lib.bytesCells w e b)[j],by rw[cellat j];exact Array.getElem?_eq_getElem hj', ?_⟩
   rw[Nat.zero_add]
   simp[World.frozen?,Lib.bytesWorld_at_new]
   omega)
  (fun loc b v d e1 e2=>absurd (hr.dom _ _ _ e2).2 (Nat.lt_irrefl _))
  (fun t2 sz k2 e1 e2 hk=>by
   obtain⟨k,g1,_,_,g2,_⟩:=hr.tok _ _ e1
   rw[g1]at e2
   cases e2
   rw[hk]at g2
   exact absurd g2 (Nat.lt_irrefl _))
  (fun h=>absurd h (by decide))
 rw[hlen]at k2
 exact⟨_,r',rfl,k1,k2,k3,k4⟩
/-- What a mark behind a block's last cell changes:nothing that is known. -/
theorem Rel.refreeze {mem:T Cell}(h:Rel w0 r mem w){b' n:Nat}(hlo:w0.heap.size≤b')(hsh:SzW w b' n)(hfr: ∀j,j<n→w.frozen? ⟨b',j,none⟩=false):Rel w0 r mem (w.freeze ⟨b',n,none⟩ 1):=by
 obtain⟨c,e,lo,hi,hb,hcn,hle⟩:=hsh
 have hw:w.freeze ⟨b',n,none⟩ 1={w with heap:=w.heap.modify b' fun
   | .cells c elem (lo,hi)=> .cells c elem (if lo==hi then(n,n+1)else(min lo n,max hi (n+1)))
   |o=>o}:=if_neg (by decide)
 have hsz:(w.freeze ⟨b',n,none⟩ 1).heap.size=w.heap.size:=by rw[hw];simp
 have hoth: ∀k,k≠b'→(w.freeze ⟨b',n,none⟩ 1).heap[k]?=w.heap[k]?:=fun k hk=>by rw[hw];simp only[Array.getElem?_modify];rw[if_neg (fun e=>hk e.symm)]
 have hself:(w.freeze ⟨b',n,none⟩ 1).heap[b']?=some (.cells c e (if lo==hi then(n,n+1)else(min lo n,max hi (n+1)))):=by
  rw[hw]
  simp only[Array.getElem?_modify,if_true,hb]
  rfl
 have hcell: ∀k o,(w.freeze ⟨b',n,none⟩ 1).cell? ⟨k,o,none⟩=w.cell? ⟨k,o,none⟩:=fun k o=>by
  by_cases hk:k=b'
  ·subst hk
   simp only[World.cell?,hself,hb]
  ·simp only[World.cell?,hoth k hk]
 have hin: ∀o v,w.cell? ⟨b',o,none⟩=some v→o<n:=fun o v hv=>by
  simp only[World.cell?,hb]at hv
  have:=(Array.getElem?_eq_some_iff.1 (by simpa using hv)).1
  omega
 have hfrz: ∀o,o<n→(w.freeze ⟨b',n,none⟩ 1).frozen? ⟨b',o,none⟩=false:=fun o ho=>by
  have hlo:lo=hi∨n≤lo:=by
   by_cases h1:lo=hi
   ·exact .inl h1
   ·by_cases h2:n≤lo
    ·exact .inr h2
    ·have:=hfr lo (by omega)
     simp[World.frozen?,hb]at this
     exact .inl (by omega)
  have h3:=hfr o ho
  simp only[World.frozen?,hb]at h3
  simp only[World.frozen?,hself]
  split
  ·simp;omega
  ·rename_i hne
   have hne':lo≠hi:=by simpa using hne
   simp at h3 ⊢
   omega
 have hfz: ∀k o v,w.cell? ⟨k,o,none⟩=some v→w.frozen? ⟨k,o,none⟩=false→(w.freeze ⟨b',n,none⟩ 1).frozen? ⟨k,o,none⟩=false:=fun k o v hv hf=>by
  by_cases hk:k=b'
  ·subst hk
   exact hfrz o (hin o v hv)
  ·simp only[World.frozen?,hoth k hk]at hf ⊢
   exact hf
 have hshp: ∀k m,SzW w k m→SzW (w.freeze ⟨b',n,none⟩ 1) k m:=fun k m q=>by
  by_cases hk:k=b'
  ·subst hk
   obtain⟨c2,e2,lo2,hi2,q1,q2,q3⟩:=q
   rw[hb]at q1
   cases q1
   by_cases hl:(lo==hi)=true
   ·exact⟨c,e,n,n+1,by rw[hself,if_pos hl],q2,by omega⟩
   ·exact⟨c,e,min lo n,max hi (n+1),by rw[hself,if_neg hl],q2,by omega⟩
  ·exact q.heap (hoth k hk)
 refine⟨h.below.trans ⟨by rw[hw],by rw[hw],by rw[hw],by rw[hsz];exact Nat.le_refl _,fun k hk=>hoth k (by omega)⟩,fun x y z e=>by rw[hsz];exact h.dom x y z e, ?_,h.sep, ?_,h.sepO, ?_,h.sepT,h.known, ?_,h.olds⟩
 ·intro loc b v e
  obtain⟨b2,d2,v2,g1,g2,g3,g4,g5⟩:=h.cell _ _ _ e
  exact⟨b2,d2,v2,g1,g2,by rw[hcell];exact g3,g4,hfz _ _ _ g3 g5⟩
 ·intro loc o e ht
  obtain⟨b2,d2,o',g1,g2,g3⟩:=h.obj _ _ e ht
  refine⟨b2,d2,o',g1, ?_,g3⟩
  rw[hoth]
  ·exact g2
  ·intro hk
   subst hk
   rw[hb]at g2
   cases g2
   exact g3.cells
 ·intro t sz e
  obtain⟨k,g1,g2,g3,g4,g5,g6⟩:=h.tok _ _ e
  refine⟨k,g1,g2,g3,by rw[hsz];exact g4,fun j hj=> ?_,g6⟩
  obtain⟨x,q1,q2⟩:=g5 j hj
  exact⟨x,by rw[hcell];exact q1,hfz _ _ _ q1 q2.1,q2.2⟩
 ·intro l m e
  obtain⟨p,q⟩:=h.szs l m e
  exact⟨p,q.to (Inj.le_refl r) fun k _ q2=>hshp _ _ q2⟩
theorem convSS_ok {d n c:Nat}{a:Addr}{x' v:Value}{s s':St}(he:EnvTy E)(h:convSS E t d a n c s= .some v s')(hr:Rel w0 r s.mem w)(hx:VR r (.slice (some a) n c) x'):Yields E w0 r s s' v w (convert t d x'):=by
 unfold convSS at h
 obtain⟨is,s1,h1,h2⟩:=bind_some h
 obtain⟨his,rfl⟩:=ti_some h1 he
 obtain⟨id,s1,h3,h4⟩:=bind_some h2
 obtain⟨hid,rfl⟩:=ti_some h3 he
 generalize hu:is.u=u at h4
 generalize hu2:id.u=u2 at h4
 split at h4
 ·rename_i e0 e
  obtain⟨ie,s1,h5,h6⟩:=bind_some h4
  obtain⟨hie,rfl⟩:=ti_some h5 he
  generalize hu3:ie.u=u3 at h6
  split at h6
  ·obtain⟨hck,h7⟩:=chk_some h6
   rw[Bool.and_eq_true,Bool.and_eq_true]at hck
   obtain⟨k1,k2,k3⟩:=hck
   have k1:=Nat.eq_of_beq_eq_true k1
   have k2:=Nat.eq_of_beq_eq_true k2
   have k3:=blt_lt k3
   subst k1
   obtain⟨q,s1,h8,h9⟩:=bind_some h7
   obtain⟨z1,z2⟩:=rdC_some h8
   cases q with
   |C b v=>cases h9
   |O o=>
    cases o with
    |tok used m=>
     cases used with
     |false=>cases h9
     |true=>
      obtain⟨hm,h10⟩:=chk_some h9
      have hm:=Nat.eq_of_beq_eq_true hm
      obtain⟨l,s2,h11,h12⟩:=bind_some h10
      obtain⟨rfl,rfl⟩:=pure_some h12
      have hr1:Rel w0 r s1.mem w:=by rw[z2.1];exact hr
      rcases hx.sl_inv with⟨a2,c2,rfl,ha2,hc,_⟩|⟨rfl,_⟩
      ·obtain⟨l',g1,g2,g3,g4⟩:=rdL_ok _ h11 hr1 ha2
       obtain⟨b,o,b',dd,rfl,rfl,hblk⟩:=ha2
       simp only at k2
       subst k2
       have z1':T.get s.mem (b+n)=some (.O (.tok true (1024+n))):=(show T.get s.mem (b+n)=some (.O (.tok true m))from z1).trans (congrArg (fun m=>some (Cell.O (.tok true m))) hm)
       obtain⟨_,b2,s3,s4⟩:=hr.szs _ _ z1'
       rw[Nat.add_sub_cancel,hblk]at s3
       cases s3
       have hnew:w0.heap.size≤b':=hr.olds.newS _ _ _ _ z1' (by rw[Nat.add_sub_cancel];exact hblk)
       have hfr: ∀j,j<n→w.frozen? ⟨b',j,none⟩=false:=fun j hj=>by
        obtain⟨v,m1⟩:=rdL_mem _ h11 j hj
        replace m1:=m1.resolve_right fun q=>absurd (hr1.oldLt q hblk) (Nat.not_lt_of_le hnew)
        obtain⟨b3,d3,v3,_,m2,_,_,m3⟩:=hr1.cell _ _ _ m1
        simp only at m2 m3
        rw[hblk]at m2
        cases m2
        have ej:b+0+j-b+0=j:=by omega
        rw[ej]at m3
        exact m3
       have hrun:(convert t t (.slice (some ⟨b',0+0,none⟩) n c2)).run E.P w= .ok (.slice (some ⟨b',0+0,none⟩) n c2) (w.freeze ⟨b',n,none⟩ 1):=by
        have hee:e0=e:=by
         have q:=his.und.symm.trans hid.und
         rw[hu,hu2]at q
         cases q
         rfl
        subst hee
        have e1:=his.run_und (w:=w)
        have e3:=hie.run_und (w:=w)
        rw[hu]at e1;rw[hu3]at e3
        have e2:=hid.run_und (w:=w)
        rw[hu2]at e2
        obtain⟨c3,et,lo3,hi3,m1,m2,_⟩:=s4
        have hshape:w.shape? b'=some (et,n):=by unfold World.shape?;rw[m1];exact congrArg (fun z=>some (et,z)) m2
        simp[convert,e1,e3,markStringish,hshape]
       exact⟨_,_,r,hrun, .of_rel (by rw[g4.2.1,z2.2.1]) (by rw[g4.1,z2.1];exact hr.refreeze hnew s4 hfr),hx,by rw[g4.2.2.1,z2.2.2.1],by rw[g4.2.2.2,z2.2.2.2]⟩
      ·exact absurd k3 (Nat.lt_irrefl 0)
    |_=>cases h9
  ·cases h6
 ·exact kConv_ok he h4 hr hx
theorem kConvB_ok {d:Nat}{x x' v:Value}{s s':St}(he:EnvTy E)(h:kConvB E t d x s= .some v s')(hr:Rel w0 r s.mem w)(hf:Fresh r s.next s'.next)(hx:VR r x x'):Yields E w0 r s s' v w (convert t d x'):=by
 unfold kConvB at h
 split at h
 ·rename_i b
  unfold convStr at h
  obtain⟨is,s1,h1,h2⟩:=bind_some h
  obtain⟨his,rfl⟩:=ti_some h1 he
  obtain⟨id,s1,h3,h4⟩:=bind_some h2
  obtain⟨hid,rfl⟩:=ti_some h3 he
  generalize hu2:id.u=u2 at h4
  split at h4
  ·rename_i e
   obtain⟨ie,s1,h5,h6⟩:=bind_some h4
   obtain⟨hie,rfl⟩:=ti_some h5 he
   generalize hu3:ie.u=u3 at h6
   split at h6
   ·have e1:=his.und
    have e2:=hid.und
    have e3:=hie.und
    rw[hu2]at e2;rw[hu3]at e3
    obtain⟨v',r',rfl,g1,g2,g3,g4⟩:=strBs_ok (e:=e) h6 hr hf
    cases hx
    exact⟨_,_,r',Lib.run_convert_string_bytes w t d e b e1 e2 e3,g1,g2,g3,g4⟩
   ·cases h6
  ·exact kConv_ok he h4 hr hx
 ·exact convSS_ok he h hr hx
 ·exact kConv_ok he h hr hx
theorem kClear_ok {x x' v:Value}{s s':St}{ts:Array TypeId}{ty:TypeId}(hts:ts[0]?=some t)(he:EnvTy E)(h:kClear E t x s= .some v s')(hr:Rel w0 r s.mem w)(hx:VR r x x'):
  Yields E w0 r s s' v w (Builtin.clear_ ts ty #[x']):=by
 obtain⟨i,s1,h1,h2⟩:=bind_some h
 obtain⟨hi,rfl⟩:=ti_some h1 he
 have hund:=hi.run_und (w:=w)
 generalize i.u=u at h2 hund
 split at h2
 ·rename_i e a n c
  obtain⟨ie,s1,h3,h4⟩:=bind_some h2
  obtain⟨hie,rfl⟩:=ti_some h3 he
  obtain⟨hck,h5⟩:=chk_some h4
  rw[Bool.and_eq_true]at hck
  obtain⟨u1,s2,h6,h7⟩:=bind_some h5
  obtain⟨rfl,rfl⟩:=pure_some h7
  obtain⟨z,hzz,q5⟩:=hie.run_zero (w:=w)
  have hzs:z.cells.size=ie.size:=by rw[←Array.length_toList,q5,hie.len]
  have hzr:(Builtin.zeroCells z.cells n).toList=rep n ie.zero:=by
   rw[←q5]
   exact rep_eq z.cells n (by rw[hzs];exact blt_lt hck.1)
  rcases hx.sl_inv with⟨a2,c2,rfl,ha2,hc,_⟩|⟨rfl,_,_,a2,c2,rfl⟩
  ·obtain⟨w',k1,k2,k3,k4,k5⟩:=wrL_ok (P:=E.P) (rep n ie.zero) (rep n ie.zero) 0 h6 hr (by simpa [Addr.add]using ha2) (plain_VRs (rep_VRs hie.pl n))
   by_cases h0:n=0
   ·subst h0
    obtain⟨_,rfl⟩:=pure_some (show M.pure () s= .some u1 s2 from h6)
    exact .pure (v':=undef) (by simp[Builtin.clear_,hts,hund,undef]) hr .undef
   ·refine⟨undef,w',r, ?_, .of_rel k3 k2, .undef,k4,k5⟩
    obtain⟨m,rfl⟩:=Nat.exists_eq_succ_of_ne_zero h0
    rw[←hzr]at k1
    simp[Builtin.clear_,hts,hund,hzz,undef]
    simp[k1]
  ·obtain⟨_,rfl⟩:=pure_some (show M.pure () s= .some u1 s2 from h6)
   exact .pure (v':=undef) (by simp[Builtin.clear_,hts,hund,undef]) hr .undef
 ·obtain⟨rfl,rfl⟩:=pure_some h2
  cases hx
  exact .pure (v':=undef) (by simp[Builtin.clear_,hts,hund,undef]) hr .undef
 ·cases h2
end
end Go.Proofs.YtapojfiplajfaaaGreatDoor.Am
/- Maps against the model's. -/
namespace Go.Proofs.YtapojfiplajfaaaGreatDoor.Am
open Go.RowKit
theorem semP_bind {α β:Type}{P:Program}(x:Sem α)(f:α→Sem β):semP P (x >>= f)=(semP P x).bind fun a=>semP P (f a):=by
 show semP P (Sem.bind x f)=_
 induction x with
 |pure a=>rfl
 |program k ih=>exact ih P
 |_=>rfl
theorem obind_some {α β:Type}{x:Option α}{f:α→Option β}{b:β}(h:x.bind f=some b): ∃a,x=some a∧f a=some b:=by
 cases x with
 |none=>cases h
 |some a=>exact⟨a,rfl,h⟩
/-- The same keys. -/
def KeyR (es es':List MapEntry):Prop:=es.length=es'.length∧ ∀(i:Nat) (e e':MapEntry),es[i]?=some e→es'[i]?=some e'→e'.key=e.key
theorem KeyR.inv {e:MapEntry}{es es':List MapEntry}(h:KeyR (e::es) es'): ∃e' l,es'=e'::l∧e'.key=e.key∧KeyR es l:=by
 cases es' with
 |nil=>have:=h.1;simp at this
 |cons e' l=>exact⟨e',l,rfl,h.2 0 e e' rfl rfl,by simpa using h.1,fun i a b x y=>h.2 (i+1) a b (by simpa using x) (by simpa using y)⟩
theorem KeyR.inv_nil {es':List MapEntry}(h:KeyR [] es'):es'=[]:=List.eq_nil_of_length_eq_zero h.1.symm
/-- What is found under a key:nothing on both sides,or the same place. -/
def FoundR (es es':List MapEntry)(i:Nat)(a b:Option (Nat×Value)):Prop:=(a=none∧b=none)∨ ∃j e e',a=some (i+j,e.val)∧b=some (i+j,e'.val)∧es[j]?=some e∧es'[j]?=some e'
theorem FoundR.skip {e e':MapEntry}{es es':List MapEntry}{i:Nat}{a b:Option (Nat×Value)}(h:FoundR es es' (i+1) a b):FoundR (e::es) (e'::es') i a b:=by
 rcases h with h|⟨j,x,x',h1,h2,h3,h4⟩
 ·exact .inl h
 ·exact .inr ⟨j+1,x,x',by rw[h1];congr 2;omega,by rw[h2];congr 2;omega,by simpa using h3,by simpa using h4⟩
theorem findNow_keys (kind:TypeDesc)(k:Value): ∀(es es':List MapEntry) (i:Nat),KeyR es es'→(Instr.findNow kind k es i=none∧Instr.findNow kind k es' i=none)∨ ∃a b,Instr.findNow kind k es i=some a∧Instr.findNow kind k es' i=some b∧FoundR es es' i a b
 |[],es',i,h=>by rw[h.inv_nil];exact .inr ⟨none,none,rfl,rfl, .inl ⟨rfl,rfl⟩⟩
 |e::es,es',i,h=>by
  obtain⟨e',l,rfl,hk,hr⟩:=h.inv
  unfold Instr.findNow
  rw[hk]
  cases Instr.sameNow kind k e.key with
  |none=>exact .inl ⟨rfl,rfl⟩
  |some t=>
   cases t with
   |true=>exact .inr ⟨_,_,rfl,rfl, .inr ⟨0,e,e',rfl,rfl,rfl,rfl⟩⟩
   |false=>
    rcases findNow_keys kind k es l (i+1) hr with h1|⟨a,b,h1,h2,h3⟩
    ·exact .inl h1
    ·exact .inr ⟨a,b,h1,h2,h3.skip⟩
theorem findAsking_keys {P:Program}(kt:TypeId)(k:Value): ∀(es es':List MapEntry) (i:Nat) (a:Option (Nat×Value)),KeyR es es'→semP P (Instr.findAsking kt k es i)=some a→ ∃b,semP P (Instr.findAsking kt k es' i)=some b∧FoundR es es' i a b
 |[],es',i,a,h,e=>by
  rw[h.inv_nil]
  have:a=none:=by have e':some none=some a:=e;cases e';rfl
  subst this
  exact⟨none,rfl, .inl ⟨rfl,rfl⟩⟩
 |x::es,es',i,a,h,e=>by
  obtain⟨x',l,rfl,hk,hr⟩:=h.inv
  unfold Instr.findAsking at e ⊢
  rw[semP_bind]at e ⊢
  obtain⟨t,e1,e2⟩:=obind_some e
  rw[hk,e1]
  cases t with
  |true=>
   have:a=some (i,x.val):=by
    have e':some (some (i,x.val))=some a:=e2
    exact(Option.some.inj e').symm
   subst this
   exact⟨some (i,x'.val),rfl, .inr ⟨0,x,x',rfl,rfl,rfl,rfl⟩⟩
  |false=>
   obtain⟨b,h1,h2⟩:=findAsking_keys kt k es l (i+1) a hr e2
   exact⟨b,h1,h2.skip⟩
theorem findKey_keys {P:Program}(kt:TypeId)(k:Value)(es es':List MapEntry)(a:Option (Nat×Value))(h:KeyR es es')(e:semP P (Instr.findKey kt k es)=some a): ∃b,semP P (Instr.findKey kt k es')=some b∧FoundR es es' 0 a b:=by
 unfold Instr.findKey at e ⊢
 rw[semP_bind]at e ⊢
 obtain⟨kind,e1,e2⟩:=obind_some e
 rw[e1]
 simp only[Option.bind_some]at e2 ⊢
 rcases findNow_keys kind k es es' 0 h with⟨h1,h2⟩|⟨x,y,h1,h2,h3⟩
 ·rw[h1]at e2
  rw[h2]
  exact findAsking_keys kt k es es' 0 a h e2
 ·rw[h1]at e2
  rw[h2]
  have:a=x:=by
   have e':some x=some a:=e2
   exact(Option.some.inj e').symm
  subst this
  exact⟨y,rfl,h3⟩
theorem keyEs_get (es:List MapEntry)(i:Nat):(keyEs es)[i]?=(es[i]?).map fun e=>{e with val:=undef}:=by unfold keyEs;rw[List.getElem?_map]
section
variable {E:Env}{w0 w:World}{r:Inj}{t:Nat}
theorem findM_ok {emp:Bool}{kt:Nat}{k:Value}{es es':List MapEntry}{a:Option Nat}{s s':St}(h:findM E emp kt k es s= .some a s')(hes:EsR r es es'):
  s=s'∧plain k=true∧(∀w,(Instr.checkKey emp 10000 kt k).run E.P w= .ok () w)∧
   ((a=none∧ ∀w,(Instr.findKey kt k es').run E.P w= .ok none w)∨ ∃j e e',a=some j∧es[j]?=some e∧es'[j]?=some e'∧ ∀w,(Instr.findKey kt k es').run E.P w= .ok (some (j,e'.val)) w):=by
 obtain⟨hp,h⟩:=chk_some h
 obtain⟨a0,h1,h2⟩:=on_some h
 obtain⟨rfl,rfl⟩:=pure_some h2
 rw[semP_bind]at h1
 obtain⟨u,h3,h4⟩:=obind_some h1
 have hk:KeyR (keyEs es) es':=by
  refine⟨by unfold keyEs;simp[hes.1],fun i e e' x y=> ?_⟩
  rw[keyEs_get]at x
  cases e0:es[i]? with
  |none=>rw[e0]at x;cases x
  |some e1=>
   rw[e0]at x
   cases x
   exact(hes.2 i e1 e' e0 y).2.1
 obtain⟨b,h5,h6⟩:=findKey_keys kt k (keyEs es) es' a0 hk h4
 refine⟨rfl,hp,fun w=>semP_run h3, ?_⟩
 rcases h6 with⟨rfl,rfl⟩|⟨j,e,e',rfl,rfl,q1,q2⟩
 ·exact .inl ⟨rfl,fun w=>semP_run h5⟩
 ·rw[keyEs_get]at q1
  cases e0:es[j]? with
  |none=>rw[e0]at q1;cases q1
  |some e1=>exact .inr ⟨j,e1,e',by simp,e0,q2,fun w=>by have:=semP_run (w:=w) h5;rw[Nat.zero_add]at this;exact this⟩
theorem mapAt_some {l:Nat}{s s':St}{p:List MapEntry×Nat}(h:mapAt l s= .some p s'):T.get s.mem l=some (.O (.map p.1 p.2))∧Same s s':=by
 obtain⟨c,s1,h1,h2⟩:=bind_some h
 obtain⟨h3,h4⟩:=rdC_some h1
 cases c with
 |C a b=>cases h2
 |O o=>
  cases o with
  |map es n=>
   obtain⟨rfl,rfl⟩:=pure_some h2
   exact⟨h3,h4⟩
  |_=>cases h2
theorem mapT_some {s s':St}{ke:Nat×Nat}(he:EnvTy E)(h:mapT E t s= .some ke s'):s=s'∧ ∀w,(underlying t).run E.P w= .ok (.map ke.1 ke.2) w:=by
 obtain⟨i,s1,h1,h2⟩:=bind_some h
 obtain⟨h3,rfl⟩:=ti_some h1 he
 cases hu:i.u with
 |map kt et=>
  rw[hu]at h2
  obtain⟨rfl,rfl⟩:=pure_some h2
  exact⟨rfl,fun w=>by rw[h3.run_und,hu]⟩
 |_=>rw[hu]at h2;cases h2
/-- The map behind a number. -/
theorem Rel.mapObj {mem:T Cell}(h:Rel w0 r mem w){l l' d n:Nat}{es:List MapEntry}(hc:T.get mem l=some (.O (.map es n)))(hb:r.blk l=some (l',d)): ∃es',w.heap[l']?=some (.map es' n)∧EsR r es es'.toList:=by
 obtain⟨b',d',o',g1,g2,g3⟩:=h.obj _ _ hc rfl
 rw[hb]at g1
 cases g1
 unfold OR at g3
 cases o' with
 |map es' c'=>exact⟨es',by rw[g2,g3.1],g3.2⟩
 |_=>exact g3.elim
theorem VR.map_inv {m:Option Nat}{v':Value}(h:VR r (.map m) v'):(m=none∧v'= .map none)∨ ∃l l' d,m=some l∧v'= .map (some l')∧r.blk l=some (l',d):=by
 cases h with
 |mapNil=>exact .inl ⟨rfl,rfl⟩
 |map e=>exact .inr ⟨_,_,_,rfl,rfl,e⟩
theorem run_getMap {P:Program}{l:Nat}{es:Array MapEntry}{n:Nat}(h:w.heap[l]?=some (.map es n)):(getObj l).run P w= .ok (.map es n) w:=by simp[getObj,Sem.run,h]
theorem run_setMap {P:Program}{l:Nat}{es:Array MapEntry}{n:Nat}(h:w.heap[l]?=some (.map es n))(o:Obj):(setObj l o).run P w= .ok () (World.setO w l o):=by simp[setObj,Sem.run,h,World.setO]
theorem zeroOf_ok {et:Nat}{z:Value}{s s':St}(he:EnvTy E)(h:zeroOf E et s= .some z s'):s=s'∧(∀w,(zeroValue et).run E.P w= .ok z w)∧VR r z z:=by
 obtain⟨i,s1,h1,h2⟩:=bind_some h
 obtain⟨h3,rfl⟩:=ti_some h1 he
 obtain⟨rfl,_,h5⟩:=zeroV_ok (w:=default) (r:=r) h3 h2
 exact⟨rfl,fun w=>(zeroV_ok (w:=w) (r:=r) h3 h2).2.1,h5⟩
theorem pickOk_ok {c ok:Bool}{v v' u:Value}{s s':St}(h:pickOk c v ok s= .some u s')(hv:VR r v v'):s=s'∧VR r u (if c then .tuple #[v', .bool ok]else v'):=by
 cases c with
 |true=>obtain⟨rfl,rfl⟩:=pure_some (show M.pure (.tuple #[v, .bool ok]) s= .some u s' from h);exact⟨rfl,hv.pair (.bool _)⟩
 |false=>obtain⟨rfl,rfl⟩:=pure_some (show M.pure v s= .some u s' from h);exact⟨rfl,hv⟩
theorem empty_eq {es:List MapEntry}{es':Array MapEntry}(h:EsR r es es'.toList):es'.isEmpty=es.isEmpty:=by
 have:=h.1
 rw[Array.length_toList]at this
 cases es with
 |nil=>simp at this;simp[Array.isEmpty,←this]
 |cons a l=>simp at this;simp[Array.isEmpty,←this]
theorem kLook_ok {c:Bool}{x x' k k' v:Value}{s s':St}(he:EnvTy E)(h:kLook E t c x k s= .some v s')(hr:Rel w0 r s.mem w)(hx:VR r x x')(hk:VR r k k'):Yields E w0 r s s' v w (Instr.lookup t x' k' c):=by
 obtain⟨ke,s1,h1,h⟩:=bind_some h
 obtain⟨rfl,hu⟩:=mapT_some he h1
 cases x with
 |map m=>
  rcases hx.map_inv with⟨rfl,rfl⟩|⟨l,l',d,rfl,rfl,hb⟩
  ·obtain⟨a,s2,h2,h⟩:=bind_some (show M.bind (findM E true ke.1 k []) (fun r=>match r with|none=>M.bind (zeroOf E ke.2) fun z=>pickOk c z false|some _=>M.fail) s= .some v s' from h)
   obtain⟨rfl,hp,q1,q2⟩:=findM_ok (r:=r) (es':=[]) h2 ⟨rfl,fun i e e' x=>by simp at x⟩
   have hk':=hk.eq_of_plain hp
   subst hk'
   rcases q2 with⟨rfl,q2⟩|⟨j,e,e',_,q3,_⟩
   ·obtain⟨z,s3,h3,h⟩:=bind_some h
    obtain⟨rfl,z1,z2⟩:=zeroOf_ok (r:=r) he h3
    obtain⟨rfl,z3⟩:=pickOk_ok h z2
    refine .pure ?_ hr z3
    simp only[Instr.lookup,Sem.run_bind,hu,Result.andThen_ok,Sem.run_pure,Array.isEmpty_empty,q1,q2,z1]
    try (cases c<;>rfl)
   ·simp at q3
  ·obtain⟨p,s2,h2,h⟩:=bind_some (show M.bind (mapAt l) (fun p=>kLookL E ke.1 ke.2 k c p.1) s= .some v s' from h)
   obtain⟨g1,g2⟩:=mapAt_some h2
   obtain⟨es',g3,g4⟩:=hr.mapObj g1 hb
   obtain⟨a,s3,h3,h⟩:=bind_some h
   obtain⟨rfl,hp,q1,q2⟩:=findM_ok h3 g4
   have hk':=hk.eq_of_plain hp
   subst hk'
   rcases q2 with⟨rfl,q2⟩|⟨j,e,e',rfl,q3,q4,q2⟩
   ·obtain⟨z,s4,h4,h⟩:=bind_some h
    obtain⟨rfl,z1,z2⟩:=zeroOf_ok (r:=r) he h4
    obtain⟨rfl,z3⟩:=pickOk_ok h z2
    refine .same ?_ g2 hr z3
    simp only[Instr.lookup,Sem.run_bind,hu,Result.andThen_ok,run_getMap g3,Sem.run_pure,empty_eq g4,q1,q2,z1]
    try (cases c<;>rfl)
   ·obtain⟨e1,h4,h⟩:=on_some h
    rw[q3]at h4
    cases h4
    obtain⟨rfl,z3⟩:=pickOk_ok h (g4.2 j e e' q3 q4).2.2.2
    refine .same ?_ g2 hr z3
    simp only[Instr.lookup,Sem.run_bind,hu,Result.andThen_ok,run_getMap g3,Sem.run_pure,empty_eq g4,q1,q2]
    try (cases c<;>rfl)
 |_=>cases h
theorem kMkMap_ok {s s':St}{v:Value}(h:kMkMap s= .some v s')(hr:Rel w0 r s.mem w)(hf:Fresh r s.next s'.next):Yields E w0 r s s' v w (Instr.makeMap t none):=by
 obtain⟨b,s1,h1,h2⟩:=bind_some h
 obtain⟨rfl,rfl⟩:=pure_some h2
 obtain⟨q1,q2,q3,q4,q5⟩:=newO_ok (o':= .map #[] 0) h1 hr hf rfl ⟨rfl,rfl,fun i e e' x=>by simp at x⟩
 exact⟨_,_,_,by simp[Instr.makeMap,newObj,Sem.run],q2, .map q3,q4,q5⟩
theorem kMkMapR_ok {s s':St}{x x' v:Value}(he:EnvTy E)(h:kMkMapR E t x s= .some v s')(hr:Rel w0 r s.mem w)(hf:Fresh r s.next s'.next)(hx:VR r x x'):Yields E w0 r s s' v w (Instr.makeMap t (some x')):=by
 obtain⟨ke,s1,h1,h⟩:=bind_some h
 obtain⟨rfl,hu⟩:=mapT_some he h1
 cases x with
 |int k n=>
  have hx':=hx.int_inv
  subst hx'
  obtain⟨v',w',r',k1,k2⟩:=kMkMap_ok (E:=E) (t:=t) (show kMkMap s= .some v s' from h) hr hf
  refine⟨v',w',r', ?_,k2⟩
  rw[←k1]
  simp[Instr.makeMap,hu,asInt,asIntOf]
 |_=>cases h
/-! ### Maps turned -/
theorem EsR.set {es es':List MapEntry}(h:EsR r es es'){j:Nat}{a a':MapEntry}(hp:plain a.key=true)(hk:a'.key=a.key)(hb:a'.born=a.born)(hv:VR r a.val a'.val):EsR r (es.set j a) (es'.set j a'):=by
 refine⟨by simp[h.1],fun i e e' x y=> ?_⟩
 rw[List.getElem?_set]at x y
 by_cases hij:j=i
 ·rw[if_pos hij]at x y
  by_cases hl:j<es.length
  ·rw[if_pos hl]at x
   rw[if_pos (by rw[←h.1];exact hl)]at y
   cases x
   cases y
   exact⟨hp,hk,hb,hv⟩
  ·rw[if_neg hl]at x
   cases x
 ·rw[if_neg hij]at x y
  exact h.2 i e e' x y
theorem EsR.snoc {es es':List MapEntry}(h:EsR r es es'){a a':MapEntry}(hp:plain a.key=true)(hk:a'.key=a.key)(hb:a'.born=a.born)(hv:VR r a.val a'.val):EsR r (es++[a]) (es'++[a']):=by
 refine⟨by simp[h.1],fun i e e' x y=> ?_⟩
 by_cases hi:i<es.length
 ·rw[List.getElem?_append_left hi]at x
  rw[List.getElem?_append_left (by rw[←h.1];exact hi)]at y
  exact h.2 i e e' x y
 ·rw[List.getElem?_append_right (by omega)]at x
  rw[List.getElem?_append_right (by rw[←h.1];omega),←h.1]at y
  cases hz:i-es.length with
  |zero=>
   rw[hz]at x y
   simp at x y
   subst x
   subst y
   exact⟨hp,hk,hb,hv⟩
  |succ n=>rw[hz]at x;simp at x
theorem EsR.erase {es es':List MapEntry}(h:EsR r es es')(j:Nat):EsR r (es.eraseIdx j) (es'.eraseIdx j):=by
 refine⟨by rw[List.length_eraseIdx,List.length_eraseIdx,h.1],fun i e e' x y=> ?_⟩
 rw[List.getElem?_eraseIdx]at x y
 split at x
 ·rename_i hi;rw[if_pos hi]at y;exact h.2 i e e' x y
 ·rename_i hi;rw[if_neg hi]at y;exact h.2 (i+1) e e' x y
theorem modify_list (es:Array MapEntry)(j:Nat)(f:MapEntry→MapEntry){e:MapEntry}(he:es[j]?=some e):(es.modify j f).toList=es.toList.set j (f e):=by
 apply List.ext_getElem?
 intro i
 rw[Array.getElem?_toList,Array.getElem?_modify,List.getElem?_set]
 by_cases h:j=i
 ·subst h
  have hl:j<es.toList.length:=by rw[Array.length_toList];exact(Array.getElem?_eq_some_iff.1 he).1
  rw[if_pos rfl,if_pos rfl,if_pos hl,he]
  rfl
 ·rw[if_neg h,if_neg h,Array.getElem?_toList]
theorem stays {old new:Value}(h:Instr.sameBits 10000 old new=true)(w:World):(Instr.keyThatStays old new).run E.P w= .ok new w:=by
 unfold Instr.keyThatStays
 rw[if_pos h]
 rfl
/-- A map laid anew,in the evaluator's memory and in the world. -/
theorem mapPut_ok {l l' d n:Nat}{es es2:List MapEntry}{es2':Array MapEntry}{m:Nat}{s s1 s':St}{u:Unit}(hs:Same s s1)(h:wrC l (.O (.map es2 m)) s1= .some u s')(hr:Rel w0 r s.mem w)(hc:T.get s.mem l=some (.O (.map es n)))(hb:r.blk l=some (l',d))(hes:EsR r es2 es2'.toList):
  Goes w0 r s s' r (World.setO w l' (.map es2' m))∧s'.lim=s.lim∧s'.cx=s.cx:=by
 obtain⟨h1,h2,h3⟩:=wrO_ok (o2':= .map es2' m) h (by rw[hs.1];exact hr) (by rw[hs.1];exact hc) rfl hb ⟨rfl,hes⟩ rfl
 exact⟨(Goes.same hs hr).trans h1,h2.trans hs.2.2.1,h3.trans hs.2.2.2⟩
theorem putE_ok {kt l l' d : Nat} {k x x' : Value} {p : List MapEntry × Nat} {es' : Array MapEntry} {s s1 s' : St} {u : Unit} (hs : Same s s1) (h : putE E kt k x l p s1 = .some u s') (hr : Rel w0 r s.mem w) (hc : T.get s.mem l = some (.O (.map p.1 p.2))) (hb : r.blk l = some (l', d)) (hw : w.heap[l']? = some (.map es' p.2)) (hes : EsR r p.1 es'.toList) (hx : VR r x x') :
    plain k = true ∧ ∃ w', (do Instr.checkKey false 10000 kt k
                               match ← Instr.findKey kt k es'.toList with
                               | some (i, _) => do
                                 let key ← Instr.keyThatStays (((es'[i]?).map (·.key)).getD k) k
                                 setObj l' (.map (es'.modify i fun e => { e with key, val := x' }) p.2)
                               | none => setObj l' (.map (es'.push { key := k, val := x', born := p.2 }) (p.2 + 1)) : Sem Unit).run E.P w = .ok () w' ∧ Goes w0 r s s' r w' ∧ s'.lim = s.lim ∧ s'.cx = s.cx := by
  obtain ⟨a, s2, h1, h⟩ := bind_some h
  obtain ⟨rfl, hp, q1, q2⟩ := findM_ok h1 hes
  refine ⟨hp, ?_⟩
  rcases q2 with ⟨rfl, q2⟩ | ⟨j, e, e', rfl, q3, q4, q2⟩
  · obtain ⟨g1, g2, g3⟩ := mapPut_ok (es2' := es'.push { key := k, val := x', born := p.2 }) hs h hr hc hb (by rw [Array.toList_push]; exact hes.snoc hp rfl rfl hx)
    refine ⟨_, ?_, g1, g2, g3⟩
    simp only [Sem.run_bind, q1, Result.andThen_ok, q2, run_setMap hw]
  · obtain ⟨e1, h2, h⟩ := on_some h
    rw [q3] at h2
    cases h2
    obtain ⟨h3, h⟩ := chk_some h
    have hkey := (hes.2 j e e' q3 q4).2.1
    have q4' : es'[j]? = some e' := by rw [← Array.getElem?_toList]; exact q4
    obtain ⟨g1, g2, g3⟩ := mapPut_ok (es2' := es'.modify j fun e => { e with key := k, val := x' }) hs h hr hc hb (by
      rw [modify_list _ _ _ q4']
      exact hes.set hp rfl (hes.2 j e e' q3 q4).2.2.1 hx)
    refine ⟨_, ?_, g1, g2, g3⟩
    have hst := stays (E := E) (old := e'.key) (new := k) (by rw [hkey]; exact h3) w
    simp only [Sem.run_bind, q1, Result.andThen_ok, q2, q4', Option.map_some, Option.getD_some, hst, run_setMap hw]
theorem kMapUp_ok {m m' k k' x x' v:Value}{s s':St}(he:EnvTy E)(h:kMapUp E t m k x s= .some v s')(hr:Rel w0 r s.mem w)(hm:VR r m m')(hk:VR r k k')(hx:VR r x x'):
  v=undef∧ ∃w',(Instr.mapUpdate t m' k' x').run E.P w= .ok () w'∧Goes w0 r s s' r w'∧s'.lim=s.lim∧s'.cx=s.cx:=by
 obtain⟨ke,s1,h1,h⟩:=bind_some h
 obtain⟨rfl,hu⟩:=mapT_some he h1
 cases m with
 |map mo=>
  rcases hm.map_inv with⟨rfl,rfl⟩|⟨l,l',d,rfl,rfl,hb⟩
  ·cases h
  ·obtain⟨p,s2,h2,h⟩:=bind_some (show M.bind (mapAt l) (fun p=>M.bind (putE E ke.1 k x l p) fun _=>M.pure undef) s= .some v s' from h)
   obtain⟨g1,g2⟩:=mapAt_some h2
   obtain⟨es',g3,g4⟩:=hr.mapObj g1 hb
   obtain⟨u,s3,h3,h⟩:=bind_some h
   obtain⟨rfl,rfl⟩:=pure_some h
   obtain⟨hp,w',q1,q2,q3,q4⟩:=putE_ok g2 h3 hr g1 hb g3 g4 hx
   have hk':=hk.eq_of_plain hp
   subst hk'
   refine⟨rfl,w', ?_,q2,q3,q4⟩
   rw[←q1]
   simp only[Instr.mapUpdate,Sem.run_bind,hu,Result.andThen_ok,run_getMap g3]
   rfl
 |_=>cases h
theorem kMapEnt_ok {m m' k k' v:Value}{s s':St}(he:EnvTy E)(h:kMapEnt E t m k s= .some v s')(hr:Rel w0 r s.mem w)(hm:VR r m m')(hk:VR r k k'):Yields E w0 r s s' v w (Instr.mapEntry t m' k'):=by
 obtain⟨ke,s1,h1,h⟩:=bind_some h
 obtain⟨rfl,hu⟩:=mapT_some he h1
 cases m with
 |map mo=>
  rcases hm.map_inv with⟨rfl,rfl⟩|⟨l,l',d,rfl,rfl,hb⟩
  ·cases h
  ·obtain⟨p,s2,h2,h⟩:=bind_some (show M.bind (mapAt l) (fun p=>entE E ke.1 ke.2 k l p) s= .some v s' from h)
   obtain⟨g1,g2⟩:=mapAt_some h2
   obtain⟨es',g3,g4⟩:=hr.mapObj g1 hb
   obtain⟨a,s3,h3,h⟩:=bind_some h
   obtain⟨rfl,hp,q1,q2⟩:=findM_ok h3 g4
   have hk':=hk.eq_of_plain hp
   subst hk'
   rcases q2 with⟨rfl,q2⟩|⟨j,e,e',rfl,q3,q4,q2⟩
   ·obtain⟨z,s4,h4,h⟩:=bind_some h
    obtain⟨rfl,z1,z2⟩:=zeroOf_ok (r:=r) he h4
    obtain⟨u,s5,h5,h⟩:=bind_some h
    obtain⟨rfl,rfl⟩:=pure_some h
    obtain⟨x1,x2,x3⟩:=mapPut_ok (es2':=es'.push {key:=k',val:=z,born:=p.2}) g2 h5 hr g1 hb (by rw[Array.toList_push];exact g4.snoc hp rfl rfl z2)
    refine⟨_,_,r, ?_,x1,z2.pair (.int _ _),x2,x3⟩
    simp only[Instr.mapEntry,Sem.run_bind,hu,Result.andThen_ok,run_getMap g3,q1,q2,z1,run_setMap g3,Sem.run_pure]
    rfl
   ·obtain⟨e1,h4,h⟩:=on_some h
    rw[q3]at h4
    cases h4
    obtain⟨h5,h⟩:=chk_some h
    obtain⟨u,s5,h6,h⟩:=bind_some h
    obtain⟨rfl,rfl⟩:=pure_some h
    have hrel:=g4.2 j e e' q3 q4
    have q4':es'[j]?=some e':=by rw[←Array.getElem?_toList];exact q4
    obtain⟨x1,x2,x3⟩:=mapPut_ok (es2':=es'.modify j fun e=>{e with key:=k'}) g2 h6 hr g1 hb (by
     rw[modify_list _ _ _ q4']
     exact g4.set hp rfl hrel.2.2.1 hrel.2.2.2)
    have hst:=stays (E:=E) (old:=e'.key) (new:=k') (by rw[hrel.2.1];exact h5) w
    refine⟨_,_,r, ?_,x1,hrel.2.2.2.pair (.int _ _),x2,x3⟩
    simp only[Instr.mapEntry,Sem.run_bind,hu,Result.andThen_ok,run_getMap g3,q1,q2,q4',Option.map_some,Option.getD_some,hst,run_setMap g3,Sem.run_pure,hrel.2.2.1]
    rfl
 |_=>cases h
theorem findIdx_eq {es es':List MapEntry}(h:EsR r es es')(b:Int):es'.findIdx? (fun e=>(e.born:Int)==b)=es.findIdx? (fun e=>(e.born:Int)==b):=by
 induction es generalizing es' with
 |nil=>rw[show es'=[]from List.eq_nil_of_length_eq_zero h.1.symm]
 |cons e es ih=>
  cases es' with
  |nil=>have:=h.1;simp at this
  |cons e' l=>
   have h0:=h.2 0 e e' rfl rfl
   rw[List.findIdx?_cons,List.findIdx?_cons,h0.2.2.1,ih ⟨by simpa using h.1,fun i a b x y=>h.2 (i+1) a b (by simpa using x) (by simpa using y)⟩]
theorem kEntSt_ok {m m' st st' x x' v:Value}{s s':St}(h:kEntSt m st x s= .some v s')(hr:Rel w0 r s.mem w)(hm:VR r m m')(hst:VR r st st')(hx:VR r x x'):
  v=undef∧ ∃w',(Instr.entryStore t m' st' x').run E.P w= .ok () w'∧Goes w0 r s s' r w'∧s'.lim=s.lim∧s'.cx=s.cx:=by
 unfold kEntSt at h
 split at h
 ·rename_i l kd b
  rcases hm.map_inv with⟨e,_⟩|⟨l0,l',d,e,rfl,hb⟩
  ·cases e
  ·cases e
   have hst':=hst.int_inv
   subst hst'
   obtain⟨p,s2,h2,h⟩:=bind_some h
   obtain⟨g1,g2⟩:=mapAt_some h2
   obtain⟨es',g3,g4⟩:=hr.mapObj g1 hb
   obtain⟨j,h3,h⟩:=on_some h
   obtain⟨e,h4,h⟩:=on_some h
   obtain⟨u,s5,h6,h⟩:=bind_some h
   obtain⟨rfl,rfl⟩:=pure_some h
   have hj:j<es'.toList.length:=by rw[←g4.1];exact(List.getElem?_eq_some_iff.1 h4).1
   have q4:es'.toList[j]?=some (es'.toList[j]):=List.getElem?_eq_getElem hj
   have hrel:=g4.2 j e _ h4 q4
   have q4':es'[j]?=some (es'.toList[j]):=by rw[←Array.getElem?_toList];exact q4
   obtain⟨x1,x2,x3⟩:=mapPut_ok (es2':=es'.modify j fun e=>{e with val:=x'}) g2 h6 hr g1 hb (by
    rw[modify_list _ _ _ q4']
    exact g4.set hrel.1 hrel.2.1 hrel.2.2.1 hx)
   refine⟨rfl,_, ?_,x1,x2,x3⟩
   have hf:es'.findIdx? (fun e=>(e.born:Int)==b)=some j:=by
    have e0:es'.findIdx? (fun e=>(e.born:Int)==b)=es'.toList.findIdx? (fun e=>(e.born:Int)==b):=by rw[←List.findIdx?_toArray]
    rw[e0,findIdx_eq g4]
    exact h3
   simp only[Instr.entryStore,Sem.run_bind,run_getMap g3,Result.andThen_ok,asInt,asIntOf,Sem.run_pure,hf,run_setMap g3]
 ·cases h
theorem kLenM_ok {x x' v:Value}{s s':St}{ts:Array TypeId}{ty:TypeId}{kt et:TypeId}(hts:ts[0]?=some t)(hu: ∀w,(underlying t).run E.P w= .ok (.map kt et) w)(h:kLenM x s= .some v s')(hr:Rel w0 r s.mem w)(hx:VR r x x'):Yields E w0 r s s' v w (Builtin.len_ ts ty #[x']):=by
 cases x with
 |map m=>
  rcases hx.map_inv with⟨rfl,rfl⟩|⟨l,l',d,rfl,rfl,hb⟩
  ·obtain⟨rfl,rfl⟩:=pN_some (show pN 0 s= .some v s' from h)
   refine .pure ?_ hr (.int _ _)
   simp[Builtin.len_,hts,hu,goInt]
  ·obtain⟨p,s2,h2,h⟩:=bind_some (show M.bind (mapAt l) (fun p=>pN p.1.length) s= .some v s' from h)
   obtain⟨g1,g2⟩:=mapAt_some h2
   obtain⟨es',g3,g4⟩:=hr.mapObj g1 hb
   obtain⟨rfl,rfl⟩:=pN_some h
   refine .same ?_ g2 hr (.int _ _)
   have:=g4.1
   rw[Array.length_toList]at this
   simp[Builtin.len_,hts,hu,goInt,run_getMap g3,this]
 |_=>cases h
theorem kDel_ok {m m' k k' v:Value}{s s':St}{ts:Array TypeId}{ty:TypeId}(hts:ts[0]?=some t)(he:EnvTy E)(h:kDel E t m k s= .some v s')(hr:Rel w0 r s.mem w)(hm:VR r m m')(hk:VR r k k'):Yields E w0 r s s' v w (Builtin.delete_ ts ty #[m',k']):=by
 obtain⟨ke,s1,h1,h⟩:=bind_some h
 obtain⟨rfl,hu⟩:=mapT_some he h1
 cases m with
 |map mo=>
  rcases hm.map_inv with⟨rfl,rfl⟩|⟨l,l',d,rfl,rfl,hb⟩
  ·obtain⟨a,s2,h2,h⟩:=bind_some (show M.bind (findM E true ke.1 k []) (fun _=>M.pure undef) s= .some v s' from h)
   obtain⟨rfl,hp,q1,q2⟩:=findM_ok (r:=r) (es':=[]) h2 ⟨rfl,fun i e e' x=>by simp at x⟩
   obtain⟨rfl,rfl⟩:=pure_some h
   have hk':=hk.eq_of_plain hp
   subst hk'
   refine .pure ?_ hr .undef
   simp[Builtin.delete_,hts,hu,q1]
   rfl
  ·obtain⟨p,s2,h2,h⟩:=bind_some (show M.bind (mapAt l) (fun p=>M.bind (findM E p.1.isEmpty ke.1 k p.1) fun r=>(match r with|some j=>M.bind (wrC l (.O (.map (p.1.eraseIdx j) p.2))) fun _=>M.pure undef|none=>M.bind (wrC l (.O (.map p.1 p.2))) fun _=>M.pure undef)) s= .some v s' from h)
   obtain⟨g1,g2⟩:=mapAt_some h2
   obtain⟨es',g3,g4⟩:=hr.mapObj g1 hb
   obtain⟨a,s3,h3,h⟩:=bind_some h
   obtain⟨rfl,hp,q1,q2⟩:=findM_ok h3 g4
   have hk':=hk.eq_of_plain hp
   subst hk'
   rcases q2 with⟨rfl,q2⟩|⟨j,e,e',rfl,q3,q4,q2⟩
   ·obtain⟨u,s5,h6,h⟩:=bind_some h
    obtain⟨rfl,rfl⟩:=pure_some h
    obtain⟨x1,x2,x3⟩:=mapPut_ok (es2':=es') g2 h6 hr g1 hb g4
    refine⟨_,_,r, ?_,x1, .undef,x2,x3⟩
    simp[Builtin.delete_,hts,hu,run_getMap g3,empty_eq g4,q1,q2,run_setMap g3]
    rfl
   ·obtain⟨u,s5,h6,h⟩:=bind_some h
    obtain⟨rfl,rfl⟩:=pure_some h
    obtain⟨x1,x2,x3⟩:=mapPut_ok (es2':=es'.eraseIdxIfInBounds j) g2 h6 hr g1 hb (by rw[Array.toList_eraseIdxIfInBounds];exact g4.erase j)
    refine⟨_,_,r, ?_,x1, .undef,x2,x3⟩
    simp[Builtin.delete_,hts,hu,run_getMap g3,empty_eq g4,q1,q2,run_setMap g3]
    rfl
 |_=>cases h
theorem aLen_ok {x x' v:Value}{s s':St}{ts:Array TypeId}{ty:TypeId}(hts:ts[0]?=some t)(he:EnvTy E)(h:aLen E t x s= .some v s')(hr:Rel w0 r s.mem w)(hx:VR r x x'):Yields E w0 r s s' v w (Builtin.len_ ts ty #[x']):=by
 obtain⟨i,s1,h1,h2⟩:=bind_some h
 obtain⟨hi,rfl⟩:=ti_some h1 he
 have hund:=hi.run_und (w:=w)
 have hall: ∀w,(underlying t).run E.P w= .ok i.u w:=fun w=>hi.run_und
 generalize i.u=u at h2 hund hall
 split at h2
 ·obtain⟨rfl,rfl⟩:=pN_some h2
  cases hx<;>exact .pure (v':= .int .i64 _) (by simp[Builtin.len_,hts,hund,goInt]) hr (.int _ _)
 ·obtain⟨rfl,rfl⟩:=pN_some h2
  cases hx
  exact .pure (v':= .int .i64 _) (by simp[Builtin.len_,hts,hund,goInt]) hr (.int _ _)
 ·exact kLenM_ok hts hall h2 hr hx
 ·obtain⟨rfl,rfl⟩:=pure_some h2
  cases hx with
  |complex e=>
   obtain⟨p,n,c,rfl⟩:=e
   exact .pure (v':= .int .i64 n) (by simp[Builtin.len_,hts,hund,goInt]) hr (.complex ⟨.i64,_,rfl,rfl⟩)
 ·obtain⟨rfl,rfl⟩:=pure_some h2
  cases hx with
  |complex e=>
   obtain⟨_,p,n,c,rfl⟩:=e
   exact .pure (v':= .int .i64 n) (by simp[Builtin.len_,hts,hund,goInt]) hr (.complex ⟨.i64,_,rfl,rfl⟩)
 ·obtain⟨rfl,rfl⟩:=pure_some h2
  cases hx with
  |complex e=>
   obtain⟨p,rfl⟩:=e
   exact .pure (v':= .int .i64 p.size) (by simp[Builtin.len_,hts,hund,goInt]) hr (.complex ⟨.i64,_,rfl,rfl⟩)
 ·cases h2
/-! ### Strings,rune by rune -/
theorem kRange_ok {x x' v:Value}{s s':St}(he:EnvTy E)(h:kRange E t x s= .some v s')(hr:Rel w0 r s.mem w)(hf:Fresh r s.next s'.next)(hx:VR r x x'):Yields E w0 r s s' v w (Instr.range t x'):=by
 obtain⟨i,s1,h1,h2⟩:=bind_some h
 obtain⟨hi,rfl⟩:=ti_some h1 he
 have hund:=hi.run_und (w:=w)
 generalize i.u=u at h2 hund
 split at h2
 ·rename_i b
  obtain⟨l,s2,h3,h4⟩:=bind_some h2
  obtain⟨rfl,rfl⟩:=pure_some h4
  cases hx
  obtain⟨q1,q2,q3,q4,q5⟩:=newO_ok (o':= .stringIter b 0) h3 hr hf rfl ⟨rfl,rfl⟩
  exact⟨_,_,_,by simp[Instr.range,hund,newObj,Sem.run],q2, .iter q3,q4,q5⟩
 ·rename_i l
  obtain⟨p,s2,h3,h4⟩:=bind_some h2
  obtain⟨g1,g2⟩:=mapAt_some h3
  obtain⟨b,s3,h5,h6⟩:=bind_some h4
  obtain⟨rfl,rfl⟩:=pure_some h6
  rcases hx.map_inv with⟨e1,_⟩|⟨l0,l',d,e1,rfl,hb⟩
  ·cases e1
  ·cases e1
   obtain⟨es',g3,g4⟩:=hr.mapObj g1 hb
   obtain⟨q1,q2,q3,q4,q5⟩:=newO_ok (o':= .mapIter (some l') p.2 #[] p.2) h5 (by rw[g2.1];exact hr) (by rw[g2.2.1];exact hf) rfl ⟨rfl,rfl,rfl,d,hb⟩
   refine⟨_,_,_, ?_,(Goes.same g2 hr).trans q2, .iter q3,q4.trans g2.2.2.1,q5.trans g2.2.2.2⟩
   have hg:(getObj l').run E.P w= .ok (.map es' p.2) w:=by simp[getObj,Sem.run,g3]
   simp[Instr.range,hund,newObj,Sem.run,hg]
 ·cases h2
theorem kNext_ok {x x' v:Value}{ty:TypeId}{s s':St}(h:kNext x s= .some v s')(hr:Rel w0 r s.mem w)(hx:VR r x x'):Yields E w0 r s s' v w (Instr.next x' true ty):=by
 unfold kNext at h
 split at h
 ·rename_i l
  cases hx with
  | @iter _ l' hb=>
   obtain⟨c,s1,h1,h2⟩:=bind_some h
   obtain⟨h3,h4⟩:=rdC_some h1
   have fin: ∃b pos,c= .O (.sit b pos)∧sitN l b pos s1= .some v s':=by
    cases c with
    |C a b=>cases h2
    |O o=>
     cases o with
     |sit b pos=>
      replace h2:fN pos (fun pos=>sitN l b pos) s1= .some v s':=h2
      rw[fN_eq]at h2
      exact⟨b,pos,rfl,h2⟩
     |_=>cases h2
   obtain⟨b,pos,hc,hs2⟩:=fin
   clear h2
   subst hc
   have h2:=hs2
   clear hs2
   obtain⟨b',d',o',g1,g2,g3⟩:=hr.obj _ _ h3 rfl
   rw[hb]at g1
   cases g1
   cases o' with
   |stringIter b2 p2=>
    obtain⟨rfl,rfl⟩:=g3
    unfold sitN at h2
    rw[if_eq]at h2
    have hget:(getObj l').run E.P w= .ok (.stringIter b2 p2) w:=by simp[getObj,Sem.run,g2]
    cases hlt:Nat.blt p2 b2.size with
    |true=>
     rw[hlt]at h2
     obtain⟨u,s2,h5,h6⟩:=bind_some h2
     rw[fN_eq,fN_eq]at h6
     obtain⟨rfl,rfl⟩:=pure_some h6
     obtain⟨x1,x2,x3⟩:=wrO_ok (o2':= .stringIter b2 (p2+(Utf8.decode b2 p2).2)) h5 (by rw[h4.1];exact hr) (by rw[h4.1];exact h3) rfl hb ⟨rfl,rfl⟩ rfl
     refine⟨.tuple #[.bool true, .int .i64 (.ofNat p2), .int .i32 (.ofNat (Utf8.decode b2 p2).1)],_,r, ?_,(Goes.same h4 hr).trans x1, ?_,x2.trans h4.2.2.1,x3.trans h4.2.2.2⟩
     ·have hl:p2<b2.size:=blt_lt hlt
      simp[Instr.next,hget,hl,setObj,Sem.run,g2,goInt,World.setO]
     ·exact VRs.tuple (l:=[_,_,_]) (l':=[_,_,_]) (.cons (.bool _) (.cons (.int _ _) (.cons (.int _ _) .nil)))
    |false=>
     rw[hlt]at h2
     obtain⟨rfl,rfl⟩:=pure_some h2
     refine .same (v':= .tuple #[.bool false]) ?_ h4 hr (VRs.tuple (l:=[_]) (l':=[_]) (.cons (.bool _) .nil))
     have hl: ¬p2<b2.size:=by
      intro hl
      rw[show Nat.blt p2 b2.size=true from Nat.ble_eq_true_of_le hl]at hlt
      cases hlt
     simp[Instr.next,hget,hl]
   |_=>exact g3.elim
 ·cases h
/-! ### Maps,entry by entry,where there is but one left -/
theorem memN_eq (n:Nat): ∀l:List Nat,memN n l=l.contains n
 |[]=>rfl
 |a::l=>by
  have h:memN n (a::l)=Bool.rec (motive:=fun _=>Bool) (memN n l) true (Nat.beq n a):=rfl
  have h2:(n==a)=Nat.beq n a:=by
   cases hq:Nat.beq n a with
   |true=>rw[Nat.eq_of_beq_eq_true hq];simp
   |false=>exact beq_eq_false_iff_ne.2 (Nat.ne_of_beq_eq_false hq)
  rw[h,memN_eq n l,List.contains_cons,h2]
  cases Nat.beq n a<;>rfl
theorem leftE_eq (seen:List Nat): ∀es:List MapEntry,leftE seen es=es.filter fun e=> !seen.contains e.born
 |[]=>rfl
 |e::es=>by
  have h:leftE seen (e::es)=Bool.rec (motive:=fun _=>List MapEntry) (e::leftE seen es) (leftE seen es) (memN e.born seen):=rfl
  rw[h,leftE_eq seen es,memN_eq,List.filter_cons]
  cases seen.contains e.born<;>rfl
theorem oldE_lt {since:Nat}: ∀{es:List MapEntry},oldE since es=true→ ∀e∈es,e.born<since
 |[],_=>fun e he=>by cases he
 |a::es,h=>by
  have h0:oldE since (a::es)=Bool.rec (motive:=fun _=>Bool) false (oldE since es) (Nat.blt a.born since):=rfl
  rw[h0]at h
  cases hb:Nat.blt a.born since with
  |false=>rw[hb]at h;cases h
  |true=>
   rw[hb]at h
   intro e he
   rcases List.mem_cons.1 he with rfl|he
   ·exact blt_lt hb
   ·exact oldE_lt h e he
theorem EsR.cons {r:Inj}{e e':MapEntry}{es es':List MapEntry}(h:EsR r (e::es) (e'::es')):(plain e.key=true∧e'.key=e.key∧e'.born=e.born∧VR r e.val e'.val)∧EsR r es es':=
 ⟨h.2 0 e e' rfl rfl,by simpa using h.1,fun i a b p q=>h.2 (i+1) a b (by simpa using p) (by simpa using q)⟩
theorem EsR.mk_cons {r:Inj}{e e':MapEntry}{es es':List MapEntry}(h1:plain e.key=true∧e'.key=e.key∧e'.born=e.born∧VR r e.val e'.val)(h2:EsR r es es'):EsR r (e::es) (e'::es'):=
 ⟨by simpa using h2.1,fun i a b p q=>by
  cases i with
  |zero=>cases p;cases q;exact h1
  |succ i=>exact h2.2 i a b (by simpa using p) (by simpa using q)⟩
theorem EsR.filt {r:Inj}(p:Nat→Bool): ∀{es es':List MapEntry},EsR r es es'→EsR r (es.filter fun e=>p e.born) (es'.filter fun e=>p e.born)
 |[],[],h=>h
 |[],_::_,h=>by cases h.1
 |_::_,[],h=>by cases h.1
 |e::es,e'::es',h=>by
  obtain⟨h1,h2⟩:=h.cons
  have ih:=EsR.filt p h2
  rw[List.filter_cons,List.filter_cons,h1.2.2.1]
  cases p e.born with
  |true=>exact .mk_cons h1 ih
  |false=>exact ih
theorem EsR.old {r:Inj}{n:Nat}: ∀{es es':List MapEntry},EsR r es es'→(∀e∈es,e.born<n)→ ∀e∈es',e.born<n
 |[],[],_,_=>fun e he=>by cases he
 |[],_::_,h,_=>by cases h.1
 |_::_,[],h,_=>by cases h.1
 |e::es,e'::es',h,hn=>fun a ha=>by
  obtain⟨h1,h2⟩:=h.cons
  rcases List.mem_cons.1 ha with rfl|ha
  ·rw[h1.2.2.1]
   exact hn e (by simp)
  ·exact EsR.old h2 (fun x hx=>hn x (List.mem_cons_of_mem _ hx)) a ha
theorem run_next1 {P:Program}{w:World}{ty:TypeId}{it m since:Nat}{seen:Array Nat}{L:List MapEntry}(hit:w.heap[it]?=some (.mapIter (some m) since seen since))(hm:w.heap[m]?=some (.map L.toArray since))(hold: ∀e∈L,e.born<since):
  (L.filter (fun e=> !seen.contains e.born)=[]→(Instr.next (.pointer (some ⟨it,0,none⟩)) false ty).run P w= .ok (.tuple #[.bool false]) w)∧
  ∀e,L.filter (fun e=> !seen.contains e.born)=[e]→(Instr.next (.pointer (some ⟨it,0,none⟩)) false ty).run P w= .ok (.tuple #[.bool true,e.key,e.val]) (World.setO w it (.mapIter (some m) since (seen.push e.born) since)):=by
 have h1:(getObj it).run P w= .ok (.mapIter (some m) since seen since) w:=by simp[getObj,Sem.run,hit]
 have h2:(getObj m).run P w= .ok (.map L.toArray since) w:=by simp[getObj,Sem.run,hm]
 have h3:(!seen.isEmpty&& !L.toArray.isEmpty&&L.toArray.all fun x=>decide (x.born≥since))=false:=by
  cases L with
  |nil=>simp
  |cons a L=>
   have:=hold a (by simp)
   rw[Bool.and_eq_false_iff]
   right
   rw[Array.all_eq_false]
   refine⟨0,by simp, ?_⟩
   simp
   exact this
 constructor
 ·intro hl
  simp only[Instr.next,Sem.run_bind,h1,Result.andThen_ok,h2,h3,Bool.false_eq_true,if_false,List.filter_toArray,hl]
  simp[choose,Sem.run,Question.forced]
 ·intro e hl
  have he:e.born<since:=by
   have:e∈L.filter (fun e=> !seen.contains e.born):=by rw[hl];simp
   exact hold e (List.mem_filter.1 this).1
  have hn: ¬e.born≥since:=by omega
  simp only[Instr.next,Sem.run_bind,h1,Result.andThen_ok,h2,h3,Bool.false_eq_true,if_false,List.filter_toArray,hl]
  simp[choose,Sem.run,Question.forced,he,hn,setObj,hit,World.setO]
theorem kNextM_ok {x x' v:Value}{ty:TypeId}{s s':St}(h:kNextM x s= .some v s')(hr:Rel w0 r s.mem w)(hx:VR r x x'):Yields E w0 r s s' v w (Instr.next x' false ty):=by
 unfold kNextM at h
 split at h
 ·rename_i l
  cases hx with
  | @iter _ l' hb=>
   obtain⟨c,s1,h1,h2⟩:=bind_some h
   obtain⟨h3,h4⟩:=rdC_some h1
   have fin: ∃m since seen p s2,c= .O (.mit m since seen)∧mapAt m s1= .some p s2∧mitN l m since seen p s2= .some v s':=by
    cases c with
    |C a b=>cases h2
    |O o=>
     cases o with
     |mit m since seen=>
      obtain⟨p,s2,k1,k2⟩:=bind_some h2
      exact⟨m,since,seen,p,s2,rfl,k1,k2⟩
     |_=>cases h2
   clear h2
   obtain⟨m,since,seen,p,s2,rfl,k1,k2⟩:=fin
   obtain⟨k3,k4⟩:=mapAt_some k1
   obtain⟨b',d',o',g1,g2,g3⟩:=hr.obj _ _ h3 rfl
   rw[hb]at g1
   cases g1
   cases o' with
   |mapIter mo since' seen' last'=>
    cases mo with
    |none=>exact g3.elim
    |some m'=>
     obtain⟨rfl,rfl,rfl,d,g4⟩:=g3
     obtain⟨es',e1,e2⟩:=hr.mapObj (by rw[←h4.1];exact k3) g4
     obtain⟨hc,k5⟩:=chk_some (show M.chk _ _ s2= .some v s' from k2)
     rw[Bool.and_eq_true]at hc
     have hcl:p.2=last':=Nat.eq_of_beq_eq_true hc.1
     rw[hcl]at e1
     obtain⟨L,rfl⟩: ∃L:List MapEntry,es'=L.toArray:=⟨es'.toList,by simp⟩
     have e2':EsR r p.1 L:=by simpa using e2
     have hold:=e2'.old (oldE_lt hc.2)
     have hfl:=e2'.filt (fun n=> !seen'.toList.contains n)
     rw[←leftE_eq]at hfl
     have hfe:(L.filter fun e=> !seen'.toList.contains e.born)=L.filter fun e=> !seen'.contains e.born:=by simp
     rw[hfe]at hfl
     obtain⟨n1,n2⟩:=run_next1 (P:=E.P) (ty:=ty) g2 e1 hold
     have hS:Same s s2:=⟨k4.1.trans h4.1,k4.2.1.trans h4.2.1,k4.2.2.1.trans h4.2.2.1,k4.2.2.2.trans h4.2.2.2⟩
     cases hle:leftE seen'.toList p.1 with
     |nil=>
      rw[hle]at hfl k5
      obtain⟨rfl,rfl⟩:=pure_some k5
      have hn:L.filter (fun e=> !seen'.contains e.born)=[]:=List.eq_nil_of_length_eq_zero (by simpa using hfl.1.symm)
      exact .same (v':= .tuple #[.bool false]) (n1 hn) hS hr (VRs.tuple (l:=[_]) (l':=[_]) (.cons (.bool _) .nil))
     |cons e tl=>
      cases tl with
      |cons a b=>rw[hle]at k5;cases k5
      |nil=>
       rw[hle]at hfl k5
       replace k5:fN e.born (fun b=>M.bind (wrC l (.O (.mit m last' (seen'.toList++[b])))) fun _=>M.pure (.tuple #[.bool true,e.key,e.val])) s2= .some v s':=k5
       rw[fN_eq]at k5
       obtain⟨u,s3,h5,h6⟩:=bind_some k5
       obtain⟨rfl,rfl⟩:=pure_some h6
       obtain⟨e',hn⟩: ∃e',L.filter (fun e=> !seen'.contains e.born)=[e']:=by
        have hl1:=hfl.1
        generalize L.filter (fun e=> !seen'.contains e.born)=M1 at hl1
        match M1,hl1 with
        |[y],_=>exact⟨y,rfl⟩
       rw[hn]at hfl
       obtain⟨⟨f1,f2,f3,f4⟩,_⟩:=hfl.cons
       obtain⟨x1,x2,x3⟩:=wrO_ok (o2':= .mapIter (some m') last' (seen'.push e'.born) last') h5 (by rw[hS.1];exact hr) (by rw[hS.1];exact h3) rfl hb ⟨rfl,rfl,by rw[f3];simp,d,g4⟩ rfl
       refine⟨.tuple #[.bool true,e'.key,e'.val],_,r,n2 e' hn,(Goes.same hS hr).trans x1, ?_,x2.trans hS.2.2.1,x3.trans hS.2.2.2⟩
       exact VRs.tuple (l:=[_,_,_]) (l':=[_,_,_]) (.cons (.bool _) (.cons (by rw[f2];exact .of_plain f1) (.cons f4 .nil)))
   |_=>exact g3.elim
 ·cases h
theorem lastN_eq: ∀l:List Nat,lastN l=l.getLast?
 |[]=>rfl
 |[a]=>rfl
 |a::b::l=>by
  have h:lastN (a::b::l)=Option.rec (motive:=fun _=>Option Nat) (some a) (fun b=>some b) (lastN (b::l)):=rfl
  rw[h,lastN_eq (b::l),List.getLast?_cons_cons]
  cases hq:(b::l).getLast? with
  |none=>simp at hq
  |some c=>rfl
theorem findE_eq (b:Nat): ∀es:List MapEntry,findE b es=es.find? fun e=>e.born==b
 |[]=>rfl
 |e::es=>by
  have h:findE b (e::es)=Bool.rec (motive:=fun _=>Option MapEntry) (findE b es) (some e) (Nat.beq e.born b):=rfl
  have h2:(e.born==b)=Nat.beq e.born b:=by
   cases hq:Nat.beq e.born b with
   |true=>rw[Nat.eq_of_beq_eq_true hq];simp
   |false=>exact beq_eq_false_iff_ne.2 (Nat.ne_of_beq_eq_false hq)
  rw[h,findE_eq b es,List.find?_cons,h2]
  cases Nat.beq e.born b<;>rfl
theorem EsR.find {r:Inj}(p:Nat→Bool): ∀{es es':List MapEntry} {e:MapEntry},EsR r es es'→es.find? (fun e=>p e.born)=some e→ ∃e',es'.find? (fun e=>p e.born)=some e'∧plain e.key=true∧e'.key=e.key∧e'.born=e.born∧VR r e.val e'.val
 |[],_,_,_,q=>by cases q
 |_::_,[],_,h,_=>by cases h.1
 |a::es,a'::es',e,h,q=>by
  obtain⟨h1,h2⟩:=h.cons
  rw[List.find?_cons]at q ⊢
  rw[h1.2.2.1]
  cases hp:p a.born with
  |true=>rw[hp]at q;cases q;exact⟨a',rfl,h1⟩
  |false=>rw[hp]at q;exact EsR.find p h2 q
theorem run_entry1 {P:Program}{w:World}{it m since b:Nat}{seen:Array Nat}{L:List MapEntry}{e:MapEntry}(hit:w.heap[it]?=some (.mapIter (some m) since seen since))(hm:w.heap[m]?=some (.map L.toArray since))(hb:seen.toList.getLast?=some b)(he:L.find? (fun e=>e.born==b)=some e):
  (Instr.entry (.pointer (some ⟨it,0,none⟩))).run P w= .ok (.tuple #[e.key,e.val]) w:=by
 have h1:(getObj it).run P w= .ok (.mapIter (some m) since seen since) w:=by simp[getObj,Sem.run,hit]
 have h2:(getObj m).run P w= .ok (.map L.toArray since) w:=by simp[getObj,Sem.run,hm]
 have h3:seen.back?=some b:=by rw[←hb];simp
 simp only[Instr.entry,Sem.run_bind,h1,Result.andThen_ok,h3,h2,bne_self_eq_false,Bool.false_eq_true,if_false,List.find?_toArray,he]
 rfl
theorem kEntry_ok {x x' v:Value}{s s':St}(h:kEntry x s= .some v s')(hr:Rel w0 r s.mem w)(hx:VR r x x'):Yields E w0 r s s' v w (Instr.entry x'):=by
 unfold kEntry at h
 split at h
 ·rename_i l
  cases hx with
  | @iter _ l' hb=>
   obtain⟨c,s1,h1,h2⟩:=bind_some h
   obtain⟨h3,h4⟩:=rdC_some h1
   have fin: ∃m since seen p s2,c= .O (.mit m since seen)∧mapAt m s1= .some p s2∧mitE since seen p s2= .some v s':=by
    cases c with
    |C a b=>cases h2
    |O o=>
     cases o with
     |mit m since seen=>
      obtain⟨p,s2,k1,k2⟩:=bind_some h2
      exact⟨m,since,seen,p,s2,rfl,k1,k2⟩
     |_=>cases h2
   clear h2
   obtain⟨m,since,seen,p,s2,rfl,k1,k2⟩:=fin
   obtain⟨k3,k4⟩:=mapAt_some k1
   obtain⟨b',d',o',g1,g2,g3⟩:=hr.obj _ _ h3 rfl
   rw[hb]at g1
   cases g1
   cases o' with
   |mapIter mo since' seen' last'=>
    cases mo with
    |none=>exact g3.elim
    |some m'=>
     obtain⟨rfl,rfl,rfl,d,g4⟩:=g3
     obtain⟨es',e1,e2⟩:=hr.mapObj (by rw[←h4.1];exact k3) g4
     obtain⟨hc,k5⟩:=chk_some (show M.chk _ _ s2= .some v s' from k2)
     have hcl:p.2=last':=Nat.eq_of_beq_eq_true hc
     rw[hcl]at e1
     obtain⟨L,rfl⟩: ∃L:List MapEntry,es'=L.toArray:=⟨es'.toList,by simp⟩
     have e2':EsR r p.1 L:=by simpa using e2
     obtain⟨b,k6,k7⟩:=on_some k5
     obtain⟨e,k8,k9⟩:=on_some k7
     obtain⟨rfl,rfl⟩:=pure_some k9
     rw[lastN_eq]at k6
     rw[findE_eq]at k8
     obtain⟨e',f0,f1,f2,f3,f4⟩:=e2'.find (fun n=>n==b) k8
     have hS:Same s s2:=⟨k4.1.trans h4.1,k4.2.1.trans h4.2.1,k4.2.2.1.trans h4.2.2.1,k4.2.2.2.trans h4.2.2.2⟩
     exact .same (v':= .tuple #[e'.key,e'.val]) (run_entry1 (P:=E.P) g2 e1 k6 f0) hS hr (VRs.tuple (l:=[_,_]) (l':=[_,_]) (.cons (by rw[f2];exact .of_plain f1) (.cons f4 .nil)))
   |_=>exact g3.elim
 ·cases h
end
end Go.Proofs.YtapojfiplajfaaaGreatDoor.Am
