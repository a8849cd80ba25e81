/- Abstract memory against a world's heap:what each touch keeps. -/
import Derived.Test.YtapojfiplajfaaaGreatDoorWnn03
import Derived.Laws.Tables
import Derived.ChangeMaps3
import Derived.Laws.MakeOwn
import Derived.Laws.BitsLemmas
import Derived.Laws.Bits64
import Derived.Laws.BytesArg
namespace Go.Proofs.YtapojfiplajfaaaGreatDoor.Am
open Go.RowKit
/-- Entries of maps,one by one:the keys without addresses. -/
def EsR (r:Inj)(es es':List MapEntry):Prop:=es.length=es'.length∧ ∀(i:Nat) (e e':MapEntry),es[i]?=some e→es'[i]?=some e'→plain e.key=true∧e'.key=e.key∧e'.born=e.born∧VR r e.val e'.val
theorem EsR.mono {r r':Inj}(h:r.le r'){es es':List MapEntry}(k:EsR r es es'):EsR r' es es':=⟨k.1,fun i e e' a b=>let ⟨p,q,s,t⟩:=k.2 i e e' a b;⟨p,q,s,t.mono h⟩⟩
def OR (r:Inj):AObj→Obj→Prop
 | .loop st pe f n g tm ps as bd df, .loop l=>l.state=st∧l.pending=pe∧l.fn=f∧l.tmps.size=n∧(∀t v,T.get tm t=some v→Nat.testBit g t=true∧ ∃v',l.tmps[t]?=some v'∧VR r v v')∧
  l.params.toList=ps∧l.assign=as∧l.body=bd∧ ∃d,r.blk df=some (l.defers,d)
 | .deferred (some []), .deferred (some [])=>True
 | .deferred none, .deferred none=>True
 | .map es c, .map es' c'=>c'=c∧EsR r es es'.toList
 | .sit s p, .stringIter s' p'=>s'=s∧p'=p
 | .mit m n l, .mapIter (some m') n' l' c'=>n=n'∧c'=n'∧l=l'.toList∧ ∃d,r.blk m=some (m',d)
 |_,_=>False
theorem OR.mono {r r':Inj}(h:r.le r'){o:AObj}{o':Obj}(k:OR r o o'):OR r' o o':=by
 unfold OR at *
 split at k
 ·obtain⟨h1,h2,h3,h4,h5,h6,h7,h8,d,h9⟩:=k
  exact⟨h1,h2,h3,h4,fun t v e=>let ⟨q,v',a,b⟩:=h5 t v e;⟨q,v',a,b.mono h⟩,h6,h7,h8,d,h.1 _ _ h9⟩
 ·trivial
 ·trivial
 ·exact⟨k.1,k.2.mono h⟩
 ·exact k
 ·obtain⟨k1,k2,k3,d,k4⟩:=k
  exact⟨k1,k2,k3,d,h.1 _ _ k4⟩
 ·exact k.elim
def AObj.isTok:AObj→Bool
 | .tok .. =>true
 | .old .. =>true
 |_=>false
theorem OR.cells {r:Inj}{o:AObj}{c:Array Value}{t:TypeId}{f:Nat×Nat}(k:OR r o (.cells c t f)):False:=by
 unfold OR at k
 split at k<;>first|exact k|(rename_i h;cases h)
/-- A block of the world of just so many cells. -/
def SzW (w:World)(k n:Nat):Prop:= ∃c e lo hi,w.heap[k]?=some (.cells c e (lo,hi))∧c.size=n∧lo≤hi
theorem SzW.heap {w w':World}{k n:Nat}(q:SzW w k n)(h:w'.heap[k]?=w.heap[k]?):SzW w' k n:=by
 obtain⟨c,e,lo,hi,h1,h2⟩:=q
 exact⟨c,e,lo,hi,by rw[h,h1],h2⟩
theorem SzW.setCell {w:World}{k n:Nat}(q:SzW w k n)(a:Addr)(v:Value):SzW (w.setCell a v) k n:=by
 by_cases hk:k=a.block
 ·obtain⟨c,e,lo,hi,h1,h2,h3⟩:=q
  refine⟨if a.spot.isSome then c else c.setIfInBounds a.off v,e,lo,hi, ?_, ?_,h3⟩
  ·subst hk
   unfold World.setCell
   simp only[Array.getElem?_modify,if_true,h1]
   rfl
  ·split
   ·exact h2
   ·rw[Array.size_setIfInBounds];exact h2
 ·exact q.heap (Below.heap_setCell w a v k hk)
/-- .. from its first cell on. -/
def SzB (r:Inj)(w:World)(b n:Nat):Prop:= ∃b',r.blk b=some (b',0)∧SzW w b' n
theorem SzB.to {r r':Inj}{w w':World}{b n:Nat}(h:SzB r w b n)(hle:r.le r')(hs: ∀b',r.blk b=some (b',0)→SzW w b' n→SzW w' b' n):SzB r' w' b n:=by
 obtain⟨b',h1,h2⟩:=h
 exact⟨b',hle.1 _ _ h1,hs _ h1 h2⟩
/-- Of what lay there ahead of the call,and what is new. -/
structure OldR (w0:World)(r:Inj)(mem:T Cell):Prop where
 old: ∀loc b v,T.get mem loc=some (.O (.old b v))→ ∃b' d v',b≤loc∧r.blk b=some (b',d)∧w0.cell? ⟨b',loc-b+d,none⟩=some v'∧VR r v v'
 newC: ∀loc b v b' d,T.get mem loc=some (.C b v)→r.blk b=some (b',d)→w0.heap.size≤b'
 newO: ∀loc o b' d,T.get mem loc=some (.O o)→o.isTok=false→r.blk loc=some (b',d)→w0.heap.size≤b'
 newS: ∀l n b' d,T.get mem l=some (.O (.tok true (1024+n)))→r.blk (l-n)=some (b',d)→w0.heap.size≤b'
theorem OldR.less {w0:World}{r:Inj}{mem mem':T Cell}(h:OldR w0 r mem)(hm: ∀loc c,T.get mem' loc=some c→T.get mem loc=some c):OldR w0 r mem':=
 ⟨fun l b v e=>h.old l b v (hm _ _ e),fun l b v b' d e=>h.newC l b v b' d (hm _ _ e),fun l o b' d e=>h.newO l o b' d (hm _ _ e),fun l n b' d e=>h.newS l n b' d (hm _ _ e)⟩
structure Rel (w0:World)(r:Inj)(mem:T Cell)(w:World):Prop where
 below:Below w0.heap.size w0 w
 dom: ∀b b' d,r.blk b=some (b',d)→w0.heap.size≤w.heap.size∧b'<w.heap.size
 cell: ∀loc b v,T.get mem loc=some (.C b v)→ ∃b' d v',b≤loc∧r.blk b=some (b',d)∧w.cell? ⟨b',loc-b+d,none⟩=some v'∧VR r v v'∧w.frozen? ⟨b',loc-b+d,none⟩=false
 sep: ∀l1 l2 b1 v1 b2 v2 b' d1 d2,T.get mem l1=some (.C b1 v1)→T.get mem l2=some (.C b2 v2)→r.blk b1=some (b',d1)→r.blk b2=some (b',d2)→l1-b1+d1=l2-b2+d2→l1=l2
 obj: ∀loc o,T.get mem loc=some (.O o)→o.isTok=false→ ∃b' d o',r.blk loc=some (b',d)∧w.heap[b']?=some o'∧OR r o o'
 sepO: ∀l1 l2 o1 o2 b' d1 d2,T.get mem l1=some (.O o1)→T.get mem l2=some (.O o2)→o1.isTok=false→o2.isTok=false→r.blk l1=some (b',d1)→r.blk l2=some (b',d2)→l1=l2
 tok: ∀t sz,T.get mem t=some (.O (.tok false sz))→ ∃k,r.ext t=some k∧k.sz=sz%1024∧w0.heap.size≤k.b∧k.b<w.heap.size∧
  (∀j,j<k.e*k.sz→ ∃v',w.cell? ⟨k.b,k.p+j,none⟩=some v'∧w.frozen? ⟨k.b,k.p+j,none⟩=false∧(1024≤sz→(∃m,v'= .int .u8 m)∧k.p+k.e*k.sz≤9223372036854775807))∧
  (∀loc b v d,T.get mem loc=some (.C b v)→r.blk b=some (k.b,d)→loc-b+d<k.p)
 sepT: ∀t1 t2 s1 s2 k1 k2,T.get mem t1=some (.O (.tok false s1))→T.get mem t2=some (.O (.tok false s2))→r.ext t1=some k1→r.ext t2=some k2→k1.b=k2.b→t1=t2
 known:r.known.sure w0
 szs: ∀l n,T.get mem l=some (.O (.tok true (1024+n)))→n≤l∧SzB r w (l-n) n
 olds:OldR w0 r mem
section
variable {w0 w:World}{r:Inj}{mem:T Cell}
theorem Rel.oldsTo (h:Rel w0 r mem w){r':Inj}(hle:r.le r'){mem':T Cell}(hm: ∀loc c,T.get mem' loc=some c→T.get mem loc=some c∨(∃b v b' d,c= .C b v∧r'.blk b=some (b',d)∧w0.heap.size≤b')∨
  (∃u z,c= .O (.tok u z)∧ ∀n,u=true→z=1024+n→ ∀b' d,r'.blk (loc-n)=some (b',d)→w0.heap.size≤b')∨(∃o b' d,c= .O o∧o.isTok=false∧r'.blk loc=some (b',d)∧w0.heap.size≤b')):OldR w0 r' mem' where
 old:=fun loc b v e=>by
  rcases hm _ _ e with e|⟨_,_,_,_,e,_⟩|⟨_,_,e,_⟩|⟨o,_,_,e,ht,_⟩
  ·obtain⟨b',d,v',h1,h2,h3,h4⟩:=h.olds.old _ _ _ e
   exact⟨b',d,v',h1,hle.1 _ _ h2,h3,h4.mono hle⟩
  ·cases e
  ·cases e
  ·cases e;cases ht
 newC:=fun loc b v b' d e q=>by
  rcases hm _ _ e with e|⟨_,_,_,_,e,h1,h2⟩|⟨_,_,e,_⟩|⟨o,_,_,e,ht,_⟩
  ·obtain⟨b2,d2,_,_,g,_⟩:=h.cell _ _ _ e
   rw[hle.1 _ _ g]at q
   cases q
   exact h.olds.newC _ _ _ _ _ e g
  ·cases e
   rw[h1]at q
   cases q
   exact h2
  ·cases e
  ·cases e
 newO:=fun loc o b' d e ht q=>by
  rcases hm _ _ e with e|⟨_,_,_,_,e,_⟩|⟨_,_,e,_⟩|⟨o,_,_,e,_,h1,h2⟩
  ·obtain⟨b2,d2,_,g,_⟩:=h.obj _ _ e ht
   rw[hle.1 _ _ g]at q
   cases q
   exact h.olds.newO _ _ _ _ e ht g
  ·cases e
  ·cases e;cases ht
  ·rw[h1]at q
   cases q
   exact h2
 newS:=fun l n b' d e q=>by
  rcases hm _ _ e with e|⟨_,_,_,_,e,_⟩|⟨_,_,e,h1⟩|⟨o,_,_,e,ht,_⟩
  ·obtain⟨_,b2,g,_⟩:=h.szs _ _ e
   rw[hle.1 _ _ g]at q
   cases q
   exact h.olds.newS _ _ _ _ e g
  ·cases e
  ·cases e
   exact h1 n rfl rfl _ _ q
  ·cases e;cases ht
theorem Rel.oldLt (h:Rel w0 r mem w){loc b b' d:Nat}{v:Value}(hc:T.get mem loc=some (.O (.old b v)))(hb:r.blk b=some (b',d)):b'<w0.heap.size:=by
 obtain⟨b1,d1,v',_,h2,h3,_⟩:=h.olds.old _ _ _ hc
 rw[hb]at h2
 cases h2
 exact World.block_lt_of_cell? w0 _ h3
theorem Rel.loadOld (h:Rel w0 r mem w){b o b' d:Nat}{v:Value}(hc:T.get mem (b+o)=some (.O (.old b v)))(hb:r.blk b=some (b',d)): ∃v',w.cell? ⟨b',o+d,none⟩=some v'∧VR r v v':=by
 obtain⟨b1,d1,v',_,h2,h3,h4⟩:=h.olds.old _ _ _ hc
 rw[hb]at h2
 cases h2
 rw[Nat.add_sub_cancel_left]at h3
 exact⟨v',(h.below.cell (p:=⟨b',o+d,none⟩) (World.block_lt_of_cell? w0 _ h3)).trans h3,h4⟩
theorem Rel.load (h:Rel w0 r mem w){b o b' d:Nat}{v:Value}(hc:T.get mem (b+o)=some (.C b v))(hb:r.blk b=some (b',d)):
  ∃v',w.cell? ⟨b',o+d,none⟩=some v'∧VR r v v'∧w.frozen? ⟨b',o+d,none⟩=false:=by
 obtain⟨b1,d1,v',_,h2,h3,h4,h5⟩:=h.cell _ _ _ hc
 rw[hb]at h2
 cases h2
 rw[Nat.add_sub_cancel_left]at h3 h5
 exact⟨v',h3,h4,h5⟩
theorem setCell_block_other {w:World}{a:Addr}{v:Value}{k:Nat}(h:k≠a.block):(w.setCell a v).heap[k]?=w.heap[k]?:=Below.heap_setCell w a v k h
theorem Rel.store (h:Rel w0 r mem w){b o b' d:Nat}{v u u':Value}(hc:T.get mem (b+o)=some (.C b v))(hb:r.blk b=some (b',d))(hu:VR r u u'):
  Rel w0 r (T.set mem (b+o) (.C b u)) (w.setCell ⟨b',o+d,none⟩ u'):=by
 obtain⟨v',h3,h4,h5⟩:=h.load hc hb
 -- what lies at a place,behind the store
 have old: ∀loc c,T.get (T.set mem (b+o) (.C b u)) loc=some c→(loc=b+o∧c= .C b u)∨(loc≠b+o∧T.get mem loc=some c):=by
  intro loc c e
  rw[T.get_set]at e
  split at e
  ·cases e;exact .inl ⟨by assumption,rfl⟩
  ·exact .inr ⟨by assumption,e⟩
 have kind: ∀loc c,T.get (T.set mem (b+o) (.C b u)) loc=some (.O c)→T.get mem loc=some (.O c):=by
  intro loc c e
  rcases old _ _ e with⟨_,e⟩|⟨_,e⟩
  ·cases e
  ·exact e
 have cellOf: ∀loc b1 v1,T.get (T.set mem (b+o) (.C b u)) loc=some (.C b1 v1)→ ∃v2,T.get mem loc=some (.C b1 v2):=by
  intro loc b1 v1 e
  rcases old _ _ e with⟨e1,e2⟩|⟨_,e⟩
  ·cases e2;exact⟨v,by rw[e1];exact hc⟩
  ·exact⟨_,e⟩
 have hnew:=h.olds.newC _ _ _ _ _ hc hb
 refine⟨h.below.setCell hnew _,fun x y z e=>by rw[World.size_setCell];exact h.dom x y z e, ?_, ?_, ?_, ?_, ?_, ?_,h.known,fun l n e=>let ⟨p,q⟩:=h.szs l n (kind _ _ e);⟨p,q.to (Inj.le_refl r) fun b' _ q2=>q2.setCell _ _⟩,
  h.oldsTo (Inj.le_refl r) fun loc c e=>by
   rcases old _ _ e with⟨_,e⟩|⟨_,e⟩
   ·exact .inr (.inl ⟨_,_,_,_,e,hb,hnew⟩)
   ·exact .inl e⟩
 ·intro loc b1 v1 e
  rcases old _ _ e with⟨e1,e2⟩|⟨hne,e⟩
  ·cases e2
   subst e1
   refine⟨b',d,u',Nat.le_add_right _ _,hb, ?_,hu, ?_⟩
   ·rw[Nat.add_sub_cancel_left];exact World.cell?_setCell_same _ _ _ h3
   ·rw[World.frozen?_setCell,Nat.add_sub_cancel_left];exact h5
  ·obtain⟨b2,d2,v2,g1,g2,g3,g4,g5⟩:=h.cell _ _ _ e
   refine⟨b2,d2,v2,g1,g2, ?_,g4,by rw[World.frozen?_setCell];exact g5⟩
   rw[World.cell?_setCell_other w]
   ·exact g3
   ·intro heq
    simp only[Addr.mk.injEq,and_true]at heq
    obtain⟨q1,q2⟩:=heq
    subst q1
    exact hne (h.sep _ _ _ _ _ _ _ _ _ e hc g2 hb (by rw[Nat.add_sub_cancel_left];exact q2.symm))
 ·intro l1 l2 b1 v1 b2 v2 bb d1 d2 e1 e2 r1 r2 hh
  obtain⟨x1,e1⟩:=cellOf _ _ _ e1
  obtain⟨x2,e2⟩:=cellOf _ _ _ e2
  exact h.sep _ _ _ _ _ _ _ _ _ e1 e2 r1 r2 hh
 ·intro loc ob e ht
  obtain⟨b2,d2,o',g1,g2,g3⟩:=h.obj _ _ (kind _ _ e) ht
  refine⟨b2,d2,o',g1, ?_,g3⟩
  rw[setCell_block_other]
  ·exact g2
  ·intro heq
   have heq':b2=b':=heq
   subst heq'
   cases o' with
   |cells c t f=>exact g3.cells
   |_=>simp[World.cell?,g2]at h3
 ·intro l1 l2 o1 o2 bb d1 d2 e1 e2 t1 t2 r1 r2
  exact h.sepO _ _ _ _ _ _ _ (kind _ _ e1) (kind _ _ e2) t1 t2 r1 r2
 ·intro t sz e
  obtain⟨k,g1,g2,g3,g4,g5,g6⟩:=h.tok _ _ (kind _ _ e)
  refine⟨k,g1,g2,g3,by rw[World.size_setCell];exact g4, ?_, ?_⟩
  ·intro j hj
   obtain⟨x,q1,q2⟩:=g5 j hj
   refine⟨x, ?_,by rw[World.frozen?_setCell];exact q2⟩
   rw[World.cell?_setCell_other w]
   ·exact q1
   ·intro heq
    simp only[Addr.mk.injEq,and_true]at heq
    obtain⟨p1,p2⟩:=heq
    subst p1
    have:=g6 _ _ _ _ hc hb
    rw[Nat.add_sub_cancel_left]at this
    omega
  ·intro loc b1 v1 d1 e1 r1
   obtain⟨x,e1⟩:=cellOf _ _ _ e1
   exact g6 _ _ _ _ e1 r1
 ·intro t1 t2 s1 s2 k1 k2 e1 e2 r1 r2 hh
  exact h.sepT _ _ _ _ _ _ (kind _ _ e1) (kind _ _ e2) r1 r2 hh
/-- Less memory. -/
theorem Rel.less (h:Rel w0 r mem w){mem':T Cell}(hm: ∀loc c,T.get mem' loc=some c→T.get mem loc=some c):Rel w0 r mem' w:=
 ⟨h.below,h.dom,fun l b v e=>h.cell l b v (hm _ _ e),fun l1 l2 b1 v1 b2 v2 b' d1 d2 e1 e2=>h.sep l1 l2 b1 v1 b2 v2 b' d1 d2 (hm _ _ e1) (hm _ _ e2),fun l o e=>h.obj l o (hm _ _ e),
  fun l1 l2 o1 o2 b' d1 d2 e1 e2=>h.sepO l1 l2 o1 o2 b' d1 d2 (hm _ _ e1) (hm _ _ e2),
  fun t sz e=>let ⟨k,g1,g2,g3,g4,g5,g6⟩:=h.tok t sz (hm _ _ e);⟨k,g1,g2,g3,g4,g5,fun l b v d e1=>g6 l b v d (hm _ _ e1)⟩,
  fun t1 t2 s1 s2 k1 k2 e1 e2=>h.sepT t1 t2 s1 s2 k1 k2 (hm _ _ e1) (hm _ _ e2),h.known,fun l n e=>h.szs l n (hm _ _ e),h.olds.less hm⟩
theorem Rel.del (h:Rel w0 r mem w)(k:Nat):Rel w0 r (T.del mem k) w:=h.less fun loc c e=>by
 rw[T.get_del]at e
 split at e
 ·cases e
 ·exact e
theorem Rel.drew (h:Rel w0 r mem w):Rel w0 r mem w.drew:=
 ⟨h.below.drew,h.dom,h.cell,h.sep,h.obj,h.sepO,h.tok,h.sepT,h.known,fun l n e=>let ⟨p,q⟩:=h.szs l n e;⟨p,q.to (Inj.le_refl r) fun _b' _ q2=>q2⟩,h.olds⟩
/-- The world goes on beyond what is known. -/
theorem Rel.beyond (h:Rel w0 r mem w){w':World}(hb:Below w.heap.size w w'):Rel w0 r mem w':=by
 have hsz:=hb.size
 have cellK: ∀b o,b<w.heap.size→w'.cell? ⟨b,o,none⟩=w.cell? ⟨b,o,none⟩:=fun b o k=>hb.cell (p:=⟨b,o,none⟩) k
 have frK: ∀b o,b<w.heap.size→w'.frozen? ⟨b,o,none⟩=w.frozen? ⟨b,o,none⟩:=fun b o k=>hb.frozen (p:=⟨b,o,none⟩) k
 refine⟨h.below.trans (hb.mono h.below.size),fun x y z e=>⟨Nat.le_trans (h.dom x y z e).1 hsz,Nat.lt_of_lt_of_le (h.dom x y z e).2 hsz⟩, ?_,h.sep, ?_,h.sepO, ?_,h.sepT,h.known,fun l n e=>let ⟨p,q⟩:=h.szs l n e;⟨p,q.to (Inj.le_refl r) fun b' q1 q2=>q2.heap (hb.block b' (h.dom _ _ _ q1).2)⟩,h.olds⟩
 ·intro loc b v e
  obtain⟨b2,d2,v2,g1,g2,g3,g4,g5⟩:=h.cell _ _ _ e
  have:=(h.dom _ _ _ g2).2
  exact⟨b2,d2,v2,g1,g2,by rw[cellK _ _ this];exact g3,g4,by rw[frK _ _ this];exact g5⟩
 ·intro loc o e ht
  obtain⟨b2,d2,o',g1,g2,g3⟩:=h.obj _ _ e ht
  exact⟨b2,d2,o',g1,by rw[hb.block b2 (h.dom _ _ _ g1).2];exact g2,g3⟩
 ·intro t sz e
  obtain⟨k,g1,g2,g3,g4,g5,g6⟩:=h.tok _ _ e
  exact⟨k,g1,g2,g3,Nat.lt_of_lt_of_le g4 hsz,fun j hj=>by rw[cellK _ _ g4,frK _ _ g4];exact g5 j hj,g6⟩
theorem alloc_cells (w:World)(c:Array Value)(e:TypeId)(i:Nat):(w.alloc (.cells c e)).cell? ⟨w.heap.size,i,none⟩=c[i]?:=World.cell?_alloc_at c e w.heap.size i rfl
theorem alloc_frozen (w:World)(c:Array Value)(e:TypeId)(i:Nat):(w.alloc (.cells c e)).frozen? ⟨w.heap.size,i,none⟩=false:=World.frozen?_alloc_at c e w.heap.size i rfl
def Inj.add (r:Inj)(b:Nat)(x:Nat×Nat):Inj:=⟨fun y=>if y=b then some x else r.blk y,r.ext,r.known⟩
theorem Inj.add_le {r:Inj}{b:Nat}(x:Nat×Nat)(h:r.blk b=none):r.le (r.add b x):=
 ⟨fun y z e=>by
  show(if y=b then some x else r.blk y)=some z
  by_cases hy:y=b
  ·rw[hy,h]at e;cases e
  ·rw[if_neg hy];exact e,fun _ _ e=>e,rfl⟩
theorem Inj.add_self (r:Inj)(b:Nat)(x:Nat×Nat):(r.add b x).blk b=some x:=if_pos rfl
theorem Inj.add_other {r:Inj}{b y:Nat}(x:Nat×Nat)(h:y≠b):(r.add b x).blk y=r.blk y:=if_neg h
def Inj.mark (r:Inj)(t:Nat)(k:Tok):Inj:=⟨r.blk,fun y=>if y=t then some k else r.ext y,r.known⟩
theorem Inj.mark_le {r:Inj}{t:Nat}(k:Tok)(h:r.ext t=none):r.le (r.mark t k):=
 ⟨fun _ _ e=>e,fun y z e=>by
  show(if y=t then some k else r.ext y)=some z
  by_cases hy:y=t
  ·rw[hy,h]at e;cases e
  ·rw[if_neg hy];exact e,rfl⟩
theorem Inj.mark_self (r:Inj)(t:Nat)(k:Tok):(r.mark t k).ext t=some k:=if_pos rfl
/-- Cells laid anew,as a new block of the world;it may have more behind them. -/
theorem Rel.newCells (h:Rel w0 r mem w){b:Nat}(hb:r.blk b=none){vs vs':List Value}(hv:VRs r vs vs'){c:Array Value}(e:TypeId)(hc: ∀(i:Nat) (v:Value),vs'[i]?=some v→c[i]?=some v){mem':T Cell}
  (hm: ∀loc x,T.get mem' loc=some x→(∃i v,loc=b+i∧vs[i]?=some v∧x= .C b v)∨T.get mem loc=some x):
  Rel w0 (r.add b (w.heap.size,0)) mem' (w.alloc (.cells c e)):=by
 have hle:=Inj.add_le (w.heap.size,0) hb
 have notb: ∀loc b1 v1,T.get mem loc=some (.C b1 v1)→b1≠b:=by
  intro loc b1 v1 e1 heq
  obtain⟨b2,d2,_,_,g2,_⟩:=h.cell _ _ _ e1
  rw[heq,hb]at g2;cases g2
 have notbO: ∀loc o,T.get mem loc=some (.O o)→o.isTok=false→loc≠b:=by
  intro loc o e1 ht heq
  obtain⟨b2,d2,_,g2,_⟩:=h.obj _ _ e1 ht
  rw[heq,hb]at g2;cases g2
 have oldO: ∀loc o,T.get mem' loc=some (.O o)→T.get mem loc=some (.O o):=by
  intro loc o e1
  rcases hm _ _ e1 with⟨i,v,_,_,h3⟩|h3
  ·cases h3
  ·exact h3
 have keepC: ∀b1 o1,b1<w.heap.size→(w.alloc (.cells c e)).cell? ⟨b1,o1,none⟩=w.cell? ⟨b1,o1,none⟩:=fun b1 o1 k=>World.cell?_alloc_past _ b1 o1 k
 have keepF: ∀b1 o1,b1<w.heap.size→(w.alloc (.cells c e)).frozen? ⟨b1,o1,none⟩=w.frozen? ⟨b1,o1,none⟩:=fun b1 o1 k=>World.frozen?_alloc_past _ b1 o1 k
 refine⟨h.below.alloc h.below.size _, ?_, ?_, ?_, ?_, ?_, ?_, ?_,h.known,fun l n e1=>let ⟨p,q⟩:=h.szs l n (oldO _ _ e1);⟨p,q.to hle fun b' q1 q2=>q2.heap (Below.heap_alloc w _ _ (h.dom _ _ _ q1).2)⟩,
  h.oldsTo hle fun loc c e=>by
   rcases hm _ _ e with⟨i,v,_,_,h3⟩|h3
   ·exact .inr (.inl ⟨_,_,_,_,h3,Inj.add_self _ _ _,h.below.size⟩)
   ·exact .inl h3⟩
 ·intro x b' d e1
  rw[World.size_alloc]
  by_cases hx:x=b
  ·rw[hx,Inj.add_self]at e1
   cases e1
   exact⟨Nat.le_succ_of_le h.below.size,Nat.lt_succ_self _⟩
  ·rw[Inj.add_other _ hx]at e1
   exact⟨Nat.le_succ_of_le (h.dom _ _ _ e1).1,Nat.lt_succ_of_lt (h.dom _ _ _ e1).2⟩
 ·intro loc b1 v1 e1
  rcases hm _ _ e1 with⟨i,v,h1,h2,h3⟩|h3
  ·cases h3
   obtain⟨v',h4,h5⟩:=hv.get h2
   refine⟨w.heap.size,0,v',by omega,Inj.add_self _ _ _, ?_,h5.mono hle,alloc_frozen _ _ _ _⟩
   rw[alloc_cells,h1,Nat.add_sub_cancel_left,Nat.add_zero]
   exact hc _ _ h4
  ·obtain⟨b2,d2,v2,g1,g2,g3,g4,g5⟩:=h.cell _ _ _ h3
   have hlt:=(h.dom _ _ _ g2).2
   exact⟨b2,d2,v2,g1,hle.1 _ _ g2,by rw[keepC _ _ hlt];exact g3,g4.mono hle,by rw[keepF _ _ hlt];exact g5⟩
 ·intro l1 l2 b1 v1 b2 v2 b' d1 d2 e1 e2 r1 r2 hh
  rcases hm _ _ e1 with⟨i,v,h1,h2,h3⟩|h3
  ·cases h3
   rw[Inj.add_self]at r1
   cases r1
   rcases hm _ _ e2 with⟨i',v',h1',h2',h3'⟩|h3'
   ·cases h3'
    rw[Inj.add_self]at r2
    cases r2
    omega
   ·rw[Inj.add_other _ (notb _ _ _ h3')]at r2
    exact absurd (h.dom _ _ _ r2).2 (Nat.lt_irrefl _)
  ·rw[Inj.add_other _ (notb _ _ _ h3)]at r1
   rcases hm _ _ e2 with⟨i',v',h1',h2',h3'⟩|h3'
   ·cases h3'
    rw[Inj.add_self]at r2
    cases r2
    exact absurd (h.dom _ _ _ r1).2 (Nat.lt_irrefl _)
   ·rw[Inj.add_other _ (notb _ _ _ h3')]at r2
    exact h.sep _ _ _ _ _ _ _ _ _ h3 h3' r1 r2 hh
 ·intro loc o e1 ht
  obtain⟨b2,d2,o',g1,g2,g3⟩:=h.obj _ _ (oldO _ _ e1) ht
  exact⟨b2,d2,o',hle.1 _ _ g1,by rw[Below.heap_alloc w _ _ (h.dom _ _ _ g1).2];exact g2,g3.mono hle⟩
 ·intro l1 l2 o1 o2 b' d1 d2 e1 e2 t1 t2 r1 r2
  rw[Inj.add_other _ (notbO _ _ (oldO _ _ e1) t1)]at r1
  rw[Inj.add_other _ (notbO _ _ (oldO _ _ e2) t2)]at r2
  exact h.sepO _ _ _ _ _ _ _ (oldO _ _ e1) (oldO _ _ e2) t1 t2 r1 r2
 ·intro t sz e1
  obtain⟨k,g1,g2,g3,g4,g5,g6⟩:=h.tok _ _ (oldO _ _ e1)
  refine⟨k,g1,g2,g3,by rw[World.size_alloc];exact Nat.lt_succ_of_lt g4,fun j hj=>by rw[keepC _ _ g4,keepF _ _ g4];exact g5 j hj, ?_⟩
  intro loc b1 v1 d e2 r1
  rcases hm _ _ e2 with⟨i,v,h1,h2,h3⟩|h3
  ·cases h3
   rw[Inj.add_self]at r1
   simp only[Option.some.injEq,Prod.mk.injEq]at r1
   omega
  ·rw[Inj.add_other _ (notb _ _ _ h3)]at r1
   exact g6 _ _ _ _ h3 r1
 ·intro t1 t2 s1 s2 k1 k2 e1 e2
  exact h.sepT _ _ _ _ _ _ (oldO _ _ e1) (oldO _ _ e2)
/-- A mark of how many cells a block has. -/
theorem Rel.markSz (h:Rel w0 r mem w){b n:Nat}(hs:SzB r w b n)(hnew: ∀b' d,r.blk b=some (b',d)→w0.heap.size≤b'):Rel w0 r (T.set mem (b+n) (.O (.tok true (1024+n)))) w:=by
 have old: ∀loc x,T.get (T.set mem (b+n) (.O (.tok true (1024+n)))) loc=some x→(loc=b+n∧x= .O (.tok true (1024+n)))∨T.get mem loc=some x:=by
  intro loc c e
  rw[T.get_set]at e
  split at e
  ·cases e;exact .inl ⟨by assumption,rfl⟩
  ·exact .inr e
 have oldC: ∀loc b1 v,T.get (T.set mem (b+n) (.O (.tok true (1024+n)))) loc=some (.C b1 v)→T.get mem loc=some (.C b1 v):=by
  intro loc b1 v e
  rcases old _ _ e with⟨_,e⟩|e
  ·cases e
  ·exact e
 have oldO: ∀loc o,o.isTok=false→T.get (T.set mem (b+n) (.O (.tok true (1024+n)))) loc=some (.O o)→T.get mem loc=some (.O o):=by
  intro loc b1 ht e
  rcases old _ _ e with⟨_,e⟩|e
  ·cases e;cases ht
  ·exact e
 have oldT: ∀loc sz,T.get (T.set mem (b+n) (.O (.tok true (1024+n)))) loc=some (.O (.tok false sz))→T.get mem loc=some (.O (.tok false sz)):=by
  intro loc sz e
  rcases old _ _ e with⟨_,e⟩|e
  ·cases e
  ·exact e
 exact⟨h.below,h.dom,fun l b1 v e=>h.cell l b1 v (oldC _ _ _ e),fun l1 l2 b1 v1 b2 v2 b' d1 d2 e1 e2=>h.sep l1 l2 b1 v1 b2 v2 b' d1 d2 (oldC _ _ _ e1) (oldC _ _ _ e2),fun l o e ht=>h.obj l o (oldO _ _ ht e) ht,
  fun l1 l2 o1 o2 b' d1 d2 e1 e2 t1 t2=>h.sepO l1 l2 o1 o2 b' d1 d2 (oldO _ _ t1 e1) (oldO _ _ t2 e2) t1 t2,
  fun t sz e=>let ⟨k,g1,g2,g3,g4,g5,g6⟩:=h.tok t sz (oldT _ _ e);⟨k,g1,g2,g3,g4,g5,fun l b1 v d e1=>g6 l b1 v d (oldC _ _ _ e1)⟩,
  fun t1 t2 s1 s2 k1 k2 e1 e2=>h.sepT t1 t2 s1 s2 k1 k2 (oldT _ _ e1) (oldT _ _ e2),h.known,fun l m e=>by
   rcases old _ _ e with⟨e1,e2⟩|e
   ·have hm:m=n:=by
     simp only[Cell.O.injEq,AObj.tok.injEq,true_and]at e2
     omega
    subst hm
    subst e1
    exact⟨Nat.le_add_left _ _,by rw[Nat.add_sub_cancel];exact hs⟩
   ·exact h.szs l m e,
  h.oldsTo (Inj.le_refl r) fun loc c e=>by
   rcases old _ _ e with⟨e1,e2⟩|e
   ·refine .inr (.inr (.inl ⟨_,_,e2,fun m _ hm b' d q=>hnew b' d ?_⟩))
    have hm':m=n:=by omega
    rw[e1,hm',Nat.add_sub_cancel]at q
    exact q
   ·exact .inl e⟩
/-- A mark for the spare room of a block that no other mark speaks of. -/
theorem Rel.newTok (h:Rel w0 r mem w){t sz:Nat}(ht:r.ext t=none){k:Tok}(hk:k.sz=sz%1024)(h1:w0.heap.size≤k.b)(h2:k.b<w.heap.size)
  (h3: ∀j,j<k.e*k.sz→ ∃v',w.cell? ⟨k.b,k.p+j,none⟩=some v'∧w.frozen? ⟨k.b,k.p+j,none⟩=false∧(1024≤sz→(∃m,v'= .int .u8 m)∧k.p+k.e*k.sz≤9223372036854775807))
  (h4: ∀loc b v d,T.get mem loc=some (.C b v)→r.blk b=some (k.b,d)→loc-b+d<k.p)
  (h5: ∀t2 s2 k2,T.get mem t2=some (.O (.tok false s2))→r.ext t2=some k2→k2.b≠k.b):Rel w0 (r.mark t k) (T.set mem t (.O (.tok false sz))) w:=by
 have hle:=Inj.mark_le k ht
 have old: ∀loc x,T.get (T.set mem t (.O (.tok false sz))) loc=some x→(loc=t∧x= .O (.tok false sz))∨(loc≠t∧T.get mem loc=some x):=by
  intro loc c e
  rw[T.get_set]at e
  split at e
  ·cases e;exact .inl ⟨by assumption,rfl⟩
  ·exact .inr ⟨by assumption,e⟩
 have oldC: ∀loc b v,T.get (T.set mem t (.O (.tok false sz))) loc=some (.C b v)→T.get mem loc=some (.C b v):=by
  intro loc b v e
  rcases old _ _ e with⟨_,e⟩|⟨_,e⟩
  ·cases e
  ·exact e
 have oldO: ∀loc o,o.isTok=false→T.get (T.set mem t (.O (.tok false sz))) loc=some (.O o)→T.get mem loc=some (.O o):=by
  intro loc b ht e
  rcases old _ _ e with⟨_,e⟩|⟨_,e⟩
  ·cases e;cases ht
  ·exact e
 refine⟨h.below,h.dom, ?_, ?_, ?_, ?_, ?_, ?_,h.known,fun l n e=>by
  rcases old _ _ e with⟨_,e⟩|⟨_,e⟩
  ·cases e
  ·obtain⟨p,q⟩:=h.szs l n e
   exact⟨p,q.to hle fun b' q1 q2=>q2⟩,
  h.oldsTo hle fun loc c e=>by
   rcases old _ _ e with⟨_,e⟩|⟨_,e⟩
   ·exact .inr (.inr (.inl ⟨_,_,e,fun n hu=>by cases hu⟩))
   ·exact .inl e⟩
 ·intro loc b v e
  obtain⟨b2,d2,v2,g1,g2,g3,g4,g5⟩:=h.cell _ _ _ (oldC _ _ _ e)
  exact⟨b2,d2,v2,g1,g2,g3,g4.mono hle,g5⟩
 ·intro l1 l2 b1 v1 b2 v2 b' d1 d2 e1 e2
  exact h.sep _ _ _ _ _ _ _ _ _ (oldC _ _ _ e1) (oldC _ _ _ e2)
 ·intro loc o e hto
  obtain⟨b2,d2,o',g1,g2,g3⟩:=h.obj _ _ (oldO _ _ hto e) hto
  exact⟨b2,d2,o',g1,g2,g3.mono hle⟩
 ·intro l1 l2 o1 o2 b' d1 d2 e1 e2 t1 t2
  exact h.sepO _ _ _ _ _ _ _ (oldO _ _ t1 e1) (oldO _ _ t2 e2) t1 t2
 ·intro t2 s2 e
  rcases old _ _ e with⟨e1,e2⟩|⟨hne,e⟩
  ·cases e2
   subst e1
   exact⟨k,Inj.mark_self _ _ _,hk,h1,h2,h3,fun loc b v d e3=>h4 _ _ _ _ (oldC _ _ _ e3)⟩
  ·obtain⟨k2,g1,g2,g3,g4,g5,g6⟩:=h.tok _ _ e
   exact⟨k2,hle.2 _ _ g1,g2,g3,g4,g5,fun loc b v d e3=>g6 _ _ _ _ (oldC _ _ _ e3)⟩
 ·intro t1 t2 s1 s2 k1 k2 e1 e2 r1 r2 hh
  rcases old _ _ e1 with⟨q1,q2⟩|⟨n1,q2⟩
  ·rcases old _ _ e2 with⟨q3,q4⟩|⟨n3,q4⟩
   ·rw[q1,q3]
   ·exfalso
    rw[q1,Inj.mark_self]at r1
    cases r1
    obtain⟨k3,g1,_⟩:=h.tok _ _ q4
    rw[hle.2 _ _ g1]at r2
    cases r2
    exact h5 _ _ _ q4 g1 hh.symm
  ·rcases old _ _ e2 with⟨q3,q4⟩|⟨n3,q4⟩
   ·exfalso
    rw[q3,Inj.mark_self]at r2
    cases r2
    obtain⟨k3,g1,_⟩:=h.tok _ _ q2
    rw[hle.2 _ _ g1]at r1
    cases r1
    exact h5 _ _ _ q2 g1 hh
   ·obtain⟨k3,g1,_⟩:=h.tok _ _ q2
    obtain⟨k4,g2,_⟩:=h.tok _ _ q4
    rw[hle.2 _ _ g1]at r1
    rw[hle.2 _ _ g2]at r2
    cases r1;cases r2
    exact h.sepT _ _ _ _ _ _ q2 q4 g1 g2 hh
end
end Go.Proofs.YtapojfiplajfaaaGreatDoor.Am
/- The evaluator's touches of memory,each against the model's own. -/
namespace Go.Proofs.YtapojfiplajfaaaGreatDoor.Am
open Go.RowKit
/-- Addresses that are one. -/
def AR (r:Inj)(a a':Addr):Prop:= ∃b o b' d,a=⟨b,o,none⟩∧a'=⟨b',o+d,none⟩∧r.blk b=some (b',d)
theorem AR.mono {r r':Inj}(h:r.le r'){a a':Addr}(k:AR r a a'):AR r' a a':=let ⟨b,o,b',d,h1,h2,h3⟩:=k;⟨b,o,b',d,h1,h2,h.1 _ _ h3⟩
theorem AR.ptr {r:Inj}{a a':Addr}(k:AR r a a'):VR r (.pointer (some a)) (.pointer (some a')):=by obtain⟨b,o,b',d,rfl,rfl,h3⟩:=k;exact .ptr h3
theorem VR.ptr_inv {r:Inj}{a:Addr}{v':Value}(h:VR r (.pointer (some a)) v'): ∃a',v'= .pointer (some a')∧AR r a a':=by
 cases h with
 |ptr e=>exact⟨_,rfl,_,_,_,_,rfl,rfl,e⟩
theorem addr_add (b o n:Nat):(⟨b,o,none⟩:Addr).add n=⟨b,o+n,none⟩:=by
 unfold Addr.add
 split
 ·rename_i h;rw[h];rfl
 ·rfl
theorem AR.add {r:Inj}{a a':Addr}(k:AR r a a')(n:Nat):AR r (addA a n) (a'.add n):=by
 obtain⟨b,o,b',d,rfl,rfl,h3⟩:=k
 exact⟨b,o+n,b',d,rfl,by rw[addr_add];congr 1;omega,h3⟩
/-- Nothing but what was noted has turned. -/
def Same (s s':St):Prop:=s'.mem=s.mem∧s'.next=s.next∧s'.lim=s.lim∧s'.cx=s.cx
theorem Same.refl (s:St):Same s s:=⟨rfl,rfl,rfl,rfl⟩
theorem Same.trans {a b c:St}(h:Same a b)(k:Same b c):Same a c:=⟨k.1.trans h.1,k.2.1.trans h.2.1,k.2.2.1.trans h.2.2.1,k.2.2.2.trans h.2.2.2⟩
theorem rdC_some {loc:Nat}{s s':St}{c:Cell}(h:rdC loc s= .some c s'):T.get s.mem loc=some c∧Same s s':=by
 obtain⟨mem,next,lim,rd,wr,cx⟩:=s
 unfold rdC at h
 simp only at h
 cases hb:Nat.blt loc next with
 |false=>rw[hb]at h;cases h
 |true=>
  rw[hb]at h
  cases e:T.get mem loc with
  |none=>rw[e]at h;cases h
  |some c1=>rw[e]at h;cases h;exact⟨rfl,rfl,rfl,rfl,rfl⟩
theorem wrC_some {loc:Nat}{c:Cell}{s s':St}{u:Unit}(h:wrC loc c s= .some u s'):s'.mem=T.set s.mem loc c∧s'.next=s.next∧s'.lim=s.lim∧s'.cx=s.cx:=by
 obtain⟨mem,next,lim,rd,wr,cx⟩:=s
 unfold wrC at h
 obtain⟨v,l,r,e⟩:=T.set_N mem loc c
 simp only[e]at h
 cases hb:Nat.blt loc next with
 |false=>rw[hb]at h;cases h
 |true=>rw[hb]at h;cases h;exact⟨e.symm,rfl,rfl,rfl⟩
theorem delC_some {loc:Nat}{s s':St}{u:Unit}(h:delC loc s= .some u s'):s'.mem=T.del s.mem loc∧s'.next=s.next∧s'.lim=s.lim∧s'.cx=s.cx:=by
 obtain⟨mem,next,lim,rd,wr,cx⟩:=s
 unfold delC at h
 simp only at h
 cases hb:Nat.blt loc next with
 |false=>rw[hb]at h;cases h
 |true=>rw[hb]at h;cases h;exact⟨rfl,rfl,rfl,rfl⟩
theorem cellV_some {b:Nat}{c:Cell}{v:Value}(h:cellV b c=some v):c= .C b v∨c= .O (.old b v):=by
 cases c with
 |C blk x=>
  unfold cellV at h
  simp only at h
  cases e:Nat.beq blk b with
  |false=>rw[e]at h;cases h
  |true=>rw[e]at h;cases h;rw[Nat.eq_of_beq_eq_true e];exact .inl rfl
 |O o=>
  have h':oldV b o=some v:=h
  unfold oldV at h'
  split at h'
  ·rename_i blk x
   cases e:Nat.beq blk b with
   |false=>rw[e]at h';cases h'
   |true=>rw[e]at h';cases h';rw[Nat.eq_of_beq_eq_true e];exact .inr rfl
  ·cases h'
theorem rdV_some {a:Addr}{s s':St}{v:Value}(h:rdV a s= .some v s'):a.spot=none∧(T.get s.mem (a.block+a.off)=some (.C a.block v)∨T.get s.mem (a.block+a.off)=some (.O (.old a.block v)))∧Same s s':=by
 obtain⟨b,o,sp⟩:=a
 cases sp with
 |some x=>cases h
 |none=>
  obtain⟨c,s1,h1,h2⟩:=bind_some h
  obtain⟨h3,h4⟩:=rdC_some h1
  obtain⟨h5,rfl⟩:=ofOpt_some h2
  refine⟨rfl, ?_,h4⟩
  rcases cellV_some h5 with q|q
  ·rw[q]at h3;exact .inl h3
  ·rw[q]at h3;exact .inr h3
theorem wrV_some {a:Addr}{v:Value}{s s':St}{u:Unit}(h:wrV a v s= .some u s'):
  a.spot=none∧(∃x,T.get s.mem (a.block+a.off)=some (.C a.block x))∧oneCell v=true∧s'.mem=T.set s.mem (a.block+a.off) (.C a.block v)∧s'.next=s.next∧s'.lim=s.lim∧s'.cx=s.cx:=by
 obtain⟨b,o,sp⟩:=a
 cases sp with
 |some x=>cases h
 |none=>
  obtain⟨c,s1,h1,h2⟩:=bind_some h
  obtain⟨h3,h4⟩:=rdC_some h1
  obtain⟨h5,h6⟩:=chk_some h2
  obtain⟨h7,h8,h9,h10⟩:=wrC_some h6
  rw[Bool.and_eq_true]at h5
  refine⟨rfl, ?_,h5.2,by rw[h7,h4.1];rfl,h8.trans h4.2.1,h9.trans h4.2.2.1,h10.trans h4.2.2.2⟩
  cases c with
  |C blk x=>
   have:blk=b:=Nat.eq_of_beq_eq_true h5.1
   rw[this]at h3
   exact⟨x,h3⟩
  |O o=>cases h5.1
/-- Between two states,on the side of the world:more is known of where things lie,what is new being numbered from the first 'next' on. -/
structure Goes (w0:World)(r:Inj)(s s':St)(r':Inj)(w':World):Prop where
 le:r.le r'
 nxt:s.next≤s'.next
 domB: ∀b,r'.blk b≠none→r.blk b≠none∨(s.next≤b∧b<s'.next)
 domE: ∀b,r'.ext b≠none→r.ext b≠none∨(s.next≤b∧b<s'.next)
 rel:Rel w0 r' s'.mem w'
/-- The numbers to come are free. -/
def Fresh (r:Inj)(lo hi:Nat):Prop:= ∀b,lo≤b→b<hi→r.blk b=none∧r.ext b=none
theorem Goes.fresh {w0:World}{r r':Inj}{s s':St}{w':World}{hi:Nat}(h:Goes w0 r s s' r' w')(k:Fresh r s.next hi):Fresh r' s'.next hi:=by
 intro b h1 h2
 have h3:=k b (Nat.le_trans h.nxt h1) h2
 constructor
 ·cases e:r'.blk b with
  |none=>rfl
  |some x=>
   rcases h.domB b (by rw[e];simp)with h4|h4
   ·exact absurd h3.1 h4
   ·omega
 ·cases e:r'.ext b with
  |none=>rfl
  |some x=>
   rcases h.domE b (by rw[e];simp)with h4|h4
   ·exact absurd h3.2 h4
   ·omega
theorem Goes.trans {w0:World}{r r1 r2:Inj}{s s1 s2:St}{w1 w2:World}(h:Goes w0 r s s1 r1 w1)(k:Goes w0 r1 s1 s2 r2 w2):Goes w0 r s s2 r2 w2:=by
 refine⟨Inj.le_trans h.le k.le,Nat.le_trans h.nxt k.nxt,fun b hb=> ?_,fun b hb=> ?_,k.rel⟩
 ·rcases k.domB b hb with h1|h1
  ·rcases h.domB b h1 with h2|h2
   ·exact .inl h2
   ·exact .inr ⟨h2.1,Nat.lt_of_lt_of_le h2.2 k.nxt⟩
  ·exact .inr ⟨Nat.le_trans h.nxt h1.1,h1.2⟩
 ·rcases k.domE b hb with h1|h1
  ·rcases h.domE b h1 with h2|h2
   ·exact .inl h2
   ·exact .inr ⟨h2.1,Nat.lt_of_lt_of_le h2.2 k.nxt⟩
  ·exact .inr ⟨Nat.le_trans h.nxt h1.1,h1.2⟩
theorem Goes.of_rel {w0:World}{r:Inj}{s s':St}{w':World}(hn:s'.next=s.next)(h:Rel w0 r s'.mem w'):Goes w0 r s s' r w':=
 ⟨Inj.le_refl r,Nat.le_of_eq hn.symm,fun _ h=> .inl h,fun _ h=> .inl h,h⟩
theorem Goes.same {w0:World}{r:Inj}{s s':St}{w:World}(hs:Same s s')(h:Rel w0 r s.mem w):Goes w0 r s s' r w:= .of_rel hs.2.1 (by rw[hs.1];exact h)
section
variable {P:Program}{w0 w:World}{r:Inj}
theorem run_load_cell {a:Addr}{v:Value}(h:w.cell? a=some v):(load a).run P w= .ok v w:=by simp[load,Sem.run,h]
theorem run_store_cell {a:Addr}{v u:Value}(h:w.cell? a=some u)(hf:w.frozen? a=false)(ho:oneCell v=true):(store a v).run P w= .ok () (w.setCell a v):=by
 cases v<;>simp[oneCell]at ho<;>simp[store,Sem.run,h,hf]
theorem VR.oneCell {v v':Value}(h:VR r v v'):oneCell v'=oneCell v:=by cases h<;>first|rfl|exact TopR.one (by assumption)
theorem rdV_ok {a a':Addr}{s s':St}{v:Value}(h:rdV a s= .some v s')(hr:Rel w0 r s.mem w)(ha:AR r a a'):
  ∃v',w.cell? a'=some v'∧VR r v v'∧Same s s':=by
 obtain⟨b,o,b',d,rfl,rfl,h3⟩:=ha
 obtain⟨_,h1,h2⟩:=rdV_some h
 rcases h1 with h1|h1
 ·obtain⟨v',g1,g2,_⟩:=hr.load h1 h3
  exact⟨v',g1,g2,h2⟩
 ·obtain⟨v',g1,g2⟩:=hr.loadOld h1 h3
  exact⟨v',g1,g2,h2⟩
theorem wrV_ok {a a':Addr}{s s':St}{v v':Value}{u:Unit}(h:wrV a v s= .some u s')(hr:Rel w0 r s.mem w)(ha:AR r a a')(hv:VR r v v'):
  (store a' v').run P w= .ok () (w.setCell a' v')∧Rel w0 r s'.mem (w.setCell a' v')∧s'.next=s.next∧s'.lim=s.lim∧s'.cx=s.cx∧(w.cell? a').isSome=true∧w.frozen? a'=false:=by
 obtain⟨b,o,b',d,rfl,rfl,h3⟩:=ha
 obtain⟨_,⟨x,h1⟩,h2,h4,h5,h6,h7⟩:=wrV_some h
 obtain⟨x',g1,g2,g3⟩:=hr.load h1 h3
 refine⟨run_store_cell g1 g3 (by rw[hv.oneCell];exact h2), ?_,h5,h6,h7,by rw[g1];rfl,g3⟩
 rw[h4]
 exact hr.store h1 h3 hv
theorem rdL_ok: ∀(n:Nat) {a a':Addr} {s s':St} {l:List Value},rdL n a s= .some l s'→Rel w0 r s.mem w→AR r a a'→
  ∃l':List Value,l'.length=n∧(∀(j:Nat) v,l'[j]?=some v→w.cell? (a'.add j)=some v)∧VRs r l l'∧Same s s'
 |0,a,a',s,s',l,h,hr,ha=>by
  obtain⟨rfl,rfl⟩:=pure_some h
  exact⟨[],rfl,fun j v e=>by simp at e, .nil, .refl _⟩
 |n+1,a,a',s,s',l,h,hr,ha=>by
  have h0:rdL (n+1) a=fA a fun a=>M.bind (rdV a) fun v=>M.bind (rdL n ⟨a.block,Nat.succ a.off,a.spot⟩) fun l=>M.pure (v::l):=rfl
  rw[h0,fA_eq]at h
  obtain⟨v,s1,h1,h2⟩:=bind_some h
  obtain⟨l1,s2,h3,h4⟩:=bind_some h2
  obtain⟨rfl,rfl⟩:=pure_some h4
  obtain⟨v',g1,g2,g3⟩:=rdV_ok h1 hr ha
  have ha1:AR r (addA a 1) (a'.add 1):=ha.add 1
  obtain⟨l',q1,q2,q3,q4⟩:=rdL_ok n (a:=addA a 1) (a':=a'.add 1) h3 (by rw[g3.1];exact hr) ha1
  refine⟨v'::l',by simp[q1], ?_, .cons g2 q3,g3.trans q4⟩
  intro j x e
  obtain⟨b,o,b',d,rfl,rfl,e3⟩:=ha
  cases j with
  |zero=>simp at e;subst e;rw[addr_add];exact g1
  |succ j=>
   have:=q2 j x (by simpa using e)
   rw[addr_add,addr_add]at this
   rw[addr_add,show o+d+(j+1)=o+d+1+j by omega]
   exact this
end
theorem wrL_ok {P:Program}{w0:World}{r:Inj}: ∀(l l':List Value) {w:World} {a a':Addr} {s s':St} {u:Unit} (i:Nat),wrL l a s= .some u s'→Rel w0 r s.mem w→AR r a (a'.add i)→VRs r l l'→
  ∃w',(storeCells a' l' i).run P w= .ok () w'∧Rel w0 r s'.mem w'∧s'.next=s.next∧s'.lim=s.lim∧s'.cx=s.cx
 |[],l',w,a,a',s,s',u,i,h,hr,ha,hv=>by
  obtain⟨_,rfl⟩:=pure_some h
  rw[hv.inv_nil]
  exact⟨w,rfl,hr,rfl,rfl,rfl⟩
 |v::l,m,w,a,a',s,s',u,i,h,hr,ha,hv=>by
  obtain⟨v',l',rfl,hv1,hv2⟩:=hv.inv
  have h0:wrL (v::l) a=fA a fun a=>M.bind (wrV a v) fun _=>wrL l ⟨a.block,Nat.succ a.off,a.spot⟩:=rfl
  rw[h0,fA_eq]at h
  obtain⟨u1,s1,h1,h2⟩:=bind_some h
  obtain⟨g1,g2,g3,g4,g5,_⟩:=wrV_ok (P:=P) h1 hr ha hv1
  have ha1:AR r (addA a 1) (a'.add (i+1)):=by
   have:=ha.add 1
   have e:(a'.add i).add 1=a'.add (i+1):=by
    obtain⟨b,o,b',d,_,e2,_⟩:=ha
    by_cases hi:i=0
    ·subst hi
     unfold Addr.add
     simp
    ·unfold Addr.add at e2 ⊢
     rw[if_neg hi]at e2 ⊢
     simp at e2 ⊢
     omega
   rw[e]at this
   exact this
  obtain⟨w',q1,q2,q3,q4,q5⟩:=wrL_ok (P:=P) l l' (i+1) (a:=addA a 1) h2 g2 ha1 hv2
  refine⟨w', ?_,q2,q3.trans g3,q4.trans g4,q5.trans g5⟩
  simp only[storeCells,Sem.run_bind,g1,Result.andThen_ok,q1]
theorem layL_get (b:Nat): ∀(vs:List Value) (loc:Nat) (t:T Cell) (k:Nat) (x:Cell),T.get (layL b vs loc t) k=some x→
  (∃i v,k=loc+i∧vs[i]?=some v∧x= .C b v)∨T.get t k=some x
 |[],_,_,_,_,h=> .inr h
 |v::vs,loc,t,k,x,h=>by
  have h0:layL b (v::vs) loc t=fN loc fun loc=>layL b vs (Nat.succ loc) (T.set t loc (.C b v)):=rfl
  rw[h0,fN_eq]at h
  rcases layL_get b vs _ _ _ _ h with⟨i,y,h1,h2,h3⟩|h1
  ·exact .inl ⟨i+1,y,by omega,by simpa using h2,h3⟩
  ·rw[T.get_set]at h1
   split at h1
   ·rename_i hk
    cases h1
    exact .inl ⟨0,v,by omega,by simp,rfl⟩
   ·exact .inr h1
theorem newL_some {vs:List Value}{s s':St}{b:Nat}(h:newL vs s= .some b s'):b=s.next∧s'.mem=layL s.next vs s.next s.mem∧s'.next=s.next+vs.length+1∧s'.lim=s.lim∧s'.cx=s.cx:=by
 obtain⟨mem,next,lim,rd,wr,cx⟩:=s
 have h0:newL vs ⟨mem,next,lim,rd,wr,cx⟩=fN next fun b=>fN (Nat.succ (Nat.add b vs.length)) fun n=>R.some b (St.mk (layL b vs b mem) n lim rd wr cx):=rfl
 rw[h0,fN_eq,fN_eq]at h
 cases h
 exact⟨rfl,rfl,rfl,rfl,rfl⟩
theorem newO_some {o:AObj}{s s':St}{b:Nat}(h:newO o s= .some b s'):b=s.next∧s'.mem=T.set s.mem s.next (.O o)∧s'.next=s.next+1∧s'.lim=s.lim∧s'.cx=s.cx:=by
 obtain⟨mem,next,lim,rd,wr,cx⟩:=s
 have h0:newO o ⟨mem,next,lim,rd,wr,cx⟩=fN next fun b=>fN (Nat.succ b) fun n=>R.some b (St.mk (T.set mem b (.O o)) n lim rd wr cx):=rfl
 rw[h0,fN_eq,fN_eq]at h
 cases h
 exact⟨rfl,rfl,rfl,rfl,rfl⟩
theorem Goes.add {w0:World}{r:Inj}{s s':St}{w':World}{x:Nat×Nat}(hb:r.blk s.next=none)(hn:s.next<s'.next)(h:Rel w0 (r.add s.next x) s'.mem w'):Goes w0 r s s' (r.add s.next x) w':=by
 refine⟨Inj.add_le x hb,Nat.le_of_lt hn,fun b hb'=> ?_,fun _ h=> .inl h,h⟩
 by_cases e:b=s.next
 ·exact .inr ⟨Nat.le_of_eq e.symm,by rw[e];exact hn⟩
 ·rw[Inj.add_other _ e]at hb';exact .inl hb'
/-- A new block:its cells are these;behind them there may be more. -/
theorem newL_ok {w0 w:World}{r:Inj}{vs vs':List Value}{s s':St}{b:Nat}(h:newL vs s= .some b s')(hr:Rel w0 r s.mem w)(hf:Fresh r s.next s'.next)(hv:VRs r vs vs'){c:Array Value}(e:TypeId)
  (hc: ∀(i:Nat) (v:Value),vs'[i]?=some v→c[i]?=some v):
  b=s.next∧Goes w0 r s s' (r.add s.next (w.heap.size,0)) (w.alloc (.cells c e))∧AR (r.add s.next (w.heap.size,0)) ⟨s.next,0,none⟩ ⟨w.heap.size,0,none⟩∧s'.lim=s.lim∧s'.cx=s.cx:=by
 obtain⟨h1,h2,h3,h4,h5⟩:=newL_some h
 have hb:=(hf s.next (Nat.le_refl _) (by omega)).1
 refine⟨h1,Goes.add hb (by omega) ?_,⟨s.next,0,w.heap.size,0,rfl,rfl,Inj.add_self _ _ _⟩,h4,h5⟩
 rw[h2]
 exact hr.newCells hb hv e hc (layL_get _ _ _ _)
end Go.Proofs.YtapojfiplajfaaaGreatDoor.Am
/- The evaluator's operations,each against the model's own. -/
namespace Go.Proofs.YtapojfiplajfaaaGreatDoor.Am
open Go.RowKit
def aggD:TypeDesc→Bool
 | .struct _| .array _ _=>true
 |_=>false
def aggV:Value→Bool
 | .agg _=>true
 |_=>false
structure TyOK (P:Program)(t:Nat)(i:TI):Prop where
 info: ∃n,P.info? t=some n∧n.size=i.size∧n.bytes=i.bytes∧ ∃z,n.zero=some z∧z.cells.toList=i.zero
 und:P.underlying t=some i.u
 agg:i.agg=aggD i.u
 len:i.zero.length=i.size
 pl: ∀v∈i.zero,plain v=true
 zagg: ∀n z,P.info? t=some n→n.zero=some z→aggV z=i.agg
/-- The table of types says what the program says. -/
structure EnvTy (E:Env):Prop where
 ok: ∀t i,E.ty.get t=some i→TyOK E.P t i
 flds: ∀t i fs,E.ty.get t=some i→i.u= .struct fs→ ∀f∈fs,∃fi,E.ty.get f.type=some fi
section
variable {E:Env}{w0 w:World}{r:Inj}
theorem ti_some {t:Nat}{i:TI}{s s':St}(h:ti E t s= .some i s')(he:EnvTy E):TyOK E.P t i∧s=s':=by
 obtain⟨h1,h2⟩:=ofOpt_some h
 exact⟨he.ok t i h1,h2⟩
variable {P:Program}{t:Nat}{i:TI}
theorem TyOK.run_und (h:TyOK P t i):(underlying t).run P w= .ok i.u w:=by simp[underlying,program,Sem.run,h.und]
theorem TyOK.run_size (h:TyOK P t i):(sizeOf t).run P w= .ok i.size w:=by
 obtain⟨n,h1,h2,_⟩:=h.info
 simp[sizeOf,typeInfo,program,Sem.run,h1,h2]
theorem TyOK.run_zero (h:TyOK P t i): ∃z,(zeroValue t).run P w= .ok z w∧z.cells.toList=i.zero:=by
 obtain⟨n,h1,h2,h3,z,h4,h5⟩:=h.info
 exact⟨z,by simp[zeroValue,typeInfo,program,Sem.run,h1,h4],h5⟩
theorem TyOK.run_agg (h:TyOK P t i):(isAgg t).run P w= .ok i.agg w:=by
 rw[h.agg]
 simp only[isAgg,Sem.run_bind,h.run_und,Result.andThen_ok]
 cases i.u<;>rfl
theorem plain_VRs {l:List Value}(h: ∀v∈l,plain v=true):VRs r l l:=⟨rfl,fun i v v' e e'=>by
 rw[e]at e';cases e'
 exact VR.of_plain (h v (List.mem_of_getElem? e))⟩
theorem VR.cells {v v':Value}(h:VR r v v'):VRs r (cellsOf v) v'.cells.toList:=by
 cases h with
 |agg h1 h2=>exact VRs.ofArr h1 h2
 |bool b=>exact .cons (.bool b) .nil
 |int k n=>exact .cons (.int k n) .nil
 |float k n=>exact .cons (.float k n) .nil
 | @complex k a b v' h=>
  have:v'.cells.toList=[v']:=by cases v'<;>first|rfl|(have h1:=TopR.one h;simp[Am.oneCell]at h1)
  rw[this]
  exact .cons (.complex h) .nil
 |string s=>exact .cons (.string s) .nil
 |ptrNil=>exact .cons .ptrNil .nil
 |ptr e=>exact .cons (.ptr e) .nil
 |slNil=>exact .cons .slNil .nil
 |sl e c l=>exact .cons (.sl e c l) .nil
 |slEnd a b e=>exact .cons (.slEnd a b e) .nil
 |mapNil=>exact .cons .mapNil .nil
 |map e=>exact .cons (.map e) .nil
 |chanNil=>exact .cons .chanNil .nil
 |iter e=>exact .cons (.iter e) .nil
 |func a b c d e=>exact .cons (.func a b c d e) .nil
 |nilFunc=>exact .cons .nilFunc .nil
 |iface a=>exact .cons (.iface a) .nil
 |nilIface=>exact .cons .nilIface .nil
 |tuple a b=>exact .cons (.tuple a b) .nil
theorem aLoad_ok {a a':Addr}{s s':St}{v:Value}(he:EnvTy E)(h:aLoad E t a s= .some v s')(hr:Rel w0 r s.mem w)(ha:AR r a a'):
  ∃v',(loadVar t a').run E.P w= .ok v' w∧VR r v v'∧Same s s':=by
 obtain⟨i,s1,h1,h2⟩:=bind_some h
 obtain⟨hi,rfl⟩:=ti_some h1 he
 rw[if_eq]at h2
 simp only[loadVar,Sem.run_bind,hi.run_agg,Result.andThen_ok]
 by_cases hg:i.agg=true
 ·rw[if_pos hg]at h2
  obtain⟨l,s2,h3,h4⟩:=bind_some h2
  obtain⟨rfl,rfl⟩:=pure_some h4
  obtain⟨l',g1,g2,g3,g4⟩:=rdL_ok _ h3 hr ha
  refine⟨.agg l'.toArray, ?_,g3.agg,g4⟩
  have:=run_loadCells_list (P:=E.P) w a' l' g2
  rw[g1]at this
  simp[hg,hi.run_size,this]
 ·rw[if_neg hg]at h2
  obtain⟨v',g1,g2,g3⟩:=rdV_ok h2 hr ha
  exact⟨v',by simp[hg,run_load_cell g1],g2,g3⟩
theorem aStore_ok {a a':Addr}{s s':St}{v v':Value}{u:Unit}(he:EnvTy E)(h:aStore E t a v s= .some u s')(hr:Rel w0 r s.mem w)(ha:AR r a a')(hv:VR r v v'):
  ∃w',(storeVar t a' v').run E.P w= .ok () w'∧Rel w0 r s'.mem w'∧s'.next=s.next∧s'.lim=s.lim∧s'.cx=s.cx:=by
 obtain⟨i,s1,h1,h2⟩:=bind_some h
 obtain⟨hi,rfl⟩:=ti_some h1 he
 obtain⟨h3,h4⟩:=chk_some h2
 have hl:=hv.cells.1
 obtain⟨w',g1,g2,g3,g4,g5⟩:=wrL_ok (P:=E.P) _ _ 0 h4 hr (by simpa [Addr.add]using ha) hv.cells
 refine⟨w', ?_,g2,g3,g4,g5⟩
 have hs:v'.cells.size=i.size:=by
  have:=Nat.eq_of_beq_eq_true h3
  rw[←Array.length_toList,←hl];exact this
 simp[storeVar,hi.run_size,hs,g1]
/-- What an operation comes to:a value,in a world that goes on. -/
def Yields (E:Env)(w0:World)(r:Inj)(s s':St)(v:Value)(w:World)(m:Sem Value):Prop:=
 ∃v' w' r',m.run E.P w= .ok v' w'∧Goes w0 r s s' r' w'∧VR r' v v'∧s'.lim=s.lim∧s'.cx=s.cx
theorem Yields.pure {s:St}{v v':Value}{m:Sem Value}(hm:m.run E.P w= .ok v' w)(hr:Rel w0 r s.mem w)(hv:VR r v v'):Yields E w0 r s s v w m:=
 ⟨v',w,r,hm, .of_rel rfl hr,hv,rfl,rfl⟩
theorem Yields.same {s s':St}{v v':Value}{m:Sem Value}(hm:m.run E.P w= .ok v' w)(hs:Same s s')(hr:Rel w0 r s.mem w)(hv:VR r v v'):Yields E w0 r s s' v w m:=
 ⟨v',w,r,hm, .same hs hr,hv,hs.2.2.1,hs.2.2.2⟩
theorem run_newRow (c:Array Value)(e:TypeId):(newRow e c).run P w= .ok ⟨w.heap.size,0,none⟩ (w.alloc (.cells c e)):=by simp[newRow,newObj,Sem.run]
theorem asA_some {v:Value}{a:Addr}{s s':St}(h:asA v s= .some a s'):v= .pointer (some a)∧s=s':=by
 unfold asA at h
 split at h
 ·obtain⟨rfl,rfl⟩:=pure_some h;exact⟨rfl,rfl⟩
 ·cases h
theorem kAlloc_ok {e:Nat}{s s':St}{v:Value}(he:EnvTy E)(h:kAlloc E e s= .some v s')(hr:Rel w0 r s.mem w)(hf:Fresh r s.next s'.next):Yields E w0 r s s' v w (Instr.alloc e true (.tuple #[])):=by
 obtain⟨i,s1,h1,h2⟩:=bind_some h
 obtain⟨hi,rfl⟩:=ti_some h1 he
 obtain⟨b,s2,h3,h4⟩:=bind_some h2
 obtain⟨rfl,rfl⟩:=pure_some h4
 obtain⟨z,g1,g2⟩:=hi.run_zero (w:=w)
 obtain⟨k1,k2,k3,k4,k5⟩:=newL_ok h3 hr hf (plain_VRs hi.pl) (c:=z.cells) e (fun i v e=>by rw[←g2]at e;simpa using e)
 subst k1
 exact⟨_,_,_,by simp[Instr.alloc,g1,newVar,run_newRow],k2,k3.ptr,k4,k5⟩
theorem kBox_ok {e:Nat}{s s':St}{x x' v:Value}(h:kBox x s= .some v s')(hr:Rel w0 r s.mem w)(hf:Fresh r s.next s'.next)(hx:VR r x x'):Yields E w0 r s s' v w (Instr.box e x'):=by
 obtain⟨b,s2,h3,h4⟩:=bind_some h
 obtain⟨rfl,rfl⟩:=pure_some h4
 obtain⟨k1,k2,k3,k4,k5⟩:=newL_ok h3 hr hf hx.cells (c:=x'.cells) e (fun i v e=>by simpa using e)
 subst k1
 exact⟨_,_,_,by simp[Instr.box,newVar,run_newRow],k2,k3.ptr,k4,k5⟩
theorem kLoad_ok {s s':St}{a a' v:Value}(he:EnvTy E)(h:kLoad E t a s= .some v s')(hr:Rel w0 r s.mem w)(ha:VR r a a'):Yields E w0 r s s' v w (Instr.loadAt t a'):=by
 obtain⟨a1,s1,h1,h2⟩:=bind_some h
 obtain⟨rfl,rfl⟩:=asA_some h1
 obtain⟨a2,rfl,ha2⟩:=ha.ptr_inv
 obtain⟨v',g1,g2,g3⟩:=aLoad_ok he h2 hr ha2
 exact .same (by simp[Instr.loadAt,Instr.sureAddr,g1]) g3 hr g2
theorem kStore_ok {s s':St}{a a' x x' v:Value}(he:EnvTy E)(h:kStore E t a x s= .some v s')(hr:Rel w0 r s.mem w)(ha:VR r a a')(hx:VR r x x'):
  v=undef∧ ∃w',(Instr.storeAt t a' x').run E.P w= .ok () w'∧Rel w0 r s'.mem w'∧s'.next=s.next∧s'.lim=s.lim∧s'.cx=s.cx:=by
 obtain⟨a1,s1,h1,h2⟩:=bind_some h
 obtain⟨rfl,rfl⟩:=asA_some h1
 obtain⟨a2,rfl,ha2⟩:=ha.ptr_inv
 obtain⟨u,s2,h3,h4⟩:=bind_some h2
 obtain⟨rfl,rfl⟩:=pure_some h4
 obtain⟨w',g1,g2,g3⟩:=aStore_ok he h3 hr ha2 hx
 exact⟨rfl,w',by simp[Instr.storeAt,Instr.sureAddr,g1],g2,g3⟩
theorem blt_lt {a b:Nat}(h:Nat.blt a b=true):a<b:=Nat.le_of_ble_eq_true h
theorem ptrA_some {a:Addr}{s s':St}{v:Value}(h:ptrA a s= .some v s'):v= .pointer (some a)∧s=s':=by
 unfold ptrA at h
 rw[fA_eq]at h
 obtain⟨rfl,rfl⟩:=pure_some h
 exact⟨rfl,rfl⟩
theorem pSl_some {a:Addr}{l c:Nat}{s s':St}{v:Value}(h:pSl a l c s= .some v s'):v= .slice (some a) l c∧s=s':=by
 unfold pSl at h
 rw[fA_eq,fN_eq,fN_eq]at h
 obtain⟨rfl,rfl⟩:=pure_some h
 exact⟨rfl,rfl⟩
theorem pN_some {n:Nat}{s s':St}{v:Value}(h:pN n s= .some v s'):v= .int .i64 n∧s=s':=by
 unfold pN at h
 rw[fN_eq]at h
 obtain⟨rfl,rfl⟩:=pure_some h
 exact⟨rfl,rfl⟩
theorem pV_some {x v:Value}{s s':St}(h:pV x s= .some v s'):v=x∧s=s'∧plain v=true:=by
 unfold pV caseI at h
 cases x<;>simp only at h
 case int k n=>
  rw[fI_eq]at h
  obtain⟨rfl,rfl⟩:=pure_some h
  exact⟨rfl,rfl,rfl⟩
 all_goals
  obtain⟨hp,h⟩:=chk_some h
  obtain⟨rfl,rfl⟩:=pure_some h
  exact⟨rfl,rfl,hp⟩
theorem asN_some {v:Value}{k:Nat}{s s':St}(h:asN v s= .some k s'):(∃kd,v= .int kd k)∧s=s':=by
 unfold asN at h
 split at h
 ·obtain⟨rfl,rfl⟩:=pure_some h;exact⟨⟨_,rfl⟩,rfl⟩
 ·cases h
theorem VR.int_inv {k:IntKind}{n:Int}{v':Value}(h:VR r (.int k n) v'):v'= .int k n:=by cases h;rfl
theorem fldOf_some {u:TypeDesc}{f:Nat}{p:Nat×TI×Nat}{s s':St}(he:EnvTy E)(h:fldOf E u f s= .some p s'):
  s=s'∧ ∃fs fd fi,u= .struct fs∧fs[f]?=some fd∧TyOK E.P fd.type fi∧p=(fd.offset,fi,fd.type):=by
 unfold fldOf at h
 split at h
 ·rename_i fs
  generalize hfd:fs.toList[f]?=q at h
  split at h
  ·rename_i fd
   obtain⟨fi,s3,h9,h10⟩:=bind_some h
   obtain⟨hfi,rfl⟩:=ti_some h9 he
   obtain⟨rfl,rfl⟩:=pure_some h10
   exact⟨rfl,fs,fd,fi,rfl,by simpa using hfd,hfi,rfl⟩
  ·cases h
 ·cases h
theorem VR.sl_inv {a:Addr}{l c:Nat}{v':Value}(h:VR r (.slice (some a) l c) v'):
  (∃a' c',v'= .slice (some a') l c'∧AR r a a'∧CapR r a'.block a'.off c c'∧l≤c%capU)∨(l=0∧c/capU≠0∧c%capU=0∧ ∃a' c',v'= .slice (some a') 0 c'):=by
 cases h with
 | @sl b o b' d l c c' hb hc hl=>exact .inl ⟨_,_,rfl,⟨b,o,b',d,rfl,rfl,hb⟩,hc,hl⟩
 |slEnd h1 h2 _=>exact .inr ⟨rfl,h1,h2,_,_,rfl⟩
theorem VR.end_inv {a:Addr}{l c:Nat}{v':Value}(h:VR r (.slice (some a) l c) v')(h1:c/capU≠0)(h2:c%capU=0)(h3:c/capU/1024≠0):l=0∧ ∃a' k,v'= .slice (some a') 0 k.e∧r.ext (c/capU/1024)=some k∧k.sz=c/capU%1024∧(k.e=0∨a'=⟨k.b,k.p,none⟩):=by
 cases h with
 | @sl b o b' d l c c' hb hc hl=>
  have hl0:l=0:=by omega
  subst hl0
  rcases hc with⟨e1,_⟩|⟨_,k,g1,g2,g3,g4,g5⟩
  ·exact absurd e1 h1
  ·rw[h2,Nat.zero_add]at g3
   rw[h2,Nat.zero_mul,Nat.add_zero]at g5
   refine⟨rfl,_,k,by rw[g3],g1,g2, .inr ?_⟩
   rw[←g4,←g5]
 |slEnd q1 q2 q3=>
  obtain⟨k,g1,g2,g3,g4⟩:=q3 h3
  exact⟨rfl,_,k,by rw[g3],g1,g2,g4⟩
theorem kFld_ok {f:Nat}{s s':St}{a a' v:Value}(he:EnvTy E)(h:kFld E t a f s= .some v s')(hr:Rel w0 r s.mem w)(ha:VR r a a'):Yields E w0 r s s' v w (Instr.fieldAt t a' f):=by
 obtain⟨i,s1,h1,h2⟩:=bind_some h
 obtain⟨hi,rfl⟩:=ti_some h1 he
 obtain⟨a1,s1,h3,h4⟩:=bind_some h2
 obtain⟨rfl,rfl⟩:=asA_some h3
 obtain⟨a2,rfl,ha2⟩:=ha.ptr_inv
 obtain⟨p,s2,h5,h6⟩:=bind_some h4
 obtain⟨h7,h8⟩:=chk_some h6
 obtain⟨rfl,rfl⟩:=ptrA_some h8
 obtain⟨rfl,fs,fd,fi,hu,hfd,hfi,rfl⟩:=fldOf_some he h5
 have hz:fi.size≠0:=by
  intro h0
  simp[h0]at h7
 refine .pure (v':= .pointer (some (a2.add fd.offset))) ?_ hr (ha2.add _).ptr
 simp[Instr.fieldAt,hi.run_und,hu,hfd,Instr.sureAddr,fieldPlace,hfi.run_size,hz]
theorem kIdxA_ok {s s':St}{x x' ix ix' v:Value}(he:EnvTy E)(h:kIdxA E t x ix s= .some v s')(hr:Rel w0 r s.mem w)(hx:VR r x x')(hix:VR r ix ix'):Yields E w0 r s s' v w (Instr.indexAt t x' ix'):=by
 obtain⟨i,s1,h1,h2⟩:=bind_some h
 obtain⟨hi,rfl⟩:=ti_some h1 he
 obtain⟨k,s1,h3,h4⟩:=bind_some h2
 obtain⟨⟨kd,rfl⟩,rfl⟩:=asN_some h3
 have e1:=hix.int_inv
 subst e1
 generalize hu:i.u=u at h4
 unfold idxN at h4
 split at h4
 ·rename_i n e a
  obtain⟨ie,s3,h9,h10⟩:=bind_some h4
  obtain⟨hie,rfl⟩:=ti_some h9 he
  obtain⟨h7,h8⟩:=chk_some h10
  obtain⟨rfl,rfl⟩:=ptrA_some h8
  obtain⟨a2,rfl,ha2⟩:=hx.ptr_inv
  have hk:k<n:=blt_lt h7
  refine .pure (v':= .pointer (some (a2.add (k*ie.size)))) ?_ hr (ha2.add _).ptr
  simp[Instr.indexAt,asIntOf,hi.run_und,hu,Instr.sureAddr,hie.run_size]
  intro hh
  exact absurd hh (by omega)
 ·rename_i e a len c
  obtain⟨ie,s3,h9,h10⟩:=bind_some h4
  obtain⟨hie,rfl⟩:=ti_some h9 he
  obtain⟨h7,h8⟩:=chk_some h10
  obtain⟨rfl,rfl⟩:=ptrA_some h8
  have hk:k<len:=blt_lt h7
  rcases hx.sl_inv with⟨a2,c2,rfl,ha2,hc,_⟩|⟨rfl,_⟩
  ·refine .pure (v':= .pointer (some (a2.add (k*ie.size)))) ?_ hr (ha2.add _).ptr
   simp[Instr.indexAt,asIntOf,hi.run_und,hu,hie.run_size]
   intro hh
   exact absurd hh (by omega)
  ·exact absurd hk (Nat.not_lt_zero _)
 ·cases h4
theorem kNil_ok {s s':St}{x x' v:Value}{o:Oper}{xo:Operand}{a:Act}(ho:o.op= .nilCheck xo)(hxo:a.eval xo=x')(h:kNil x s= .some v s')(hx:VR r x x'):
  s=s'∧v=x∧(execOp a.eval o).run P w= .ok (.value x') w:=by
 unfold kNil at h
 split at h
 ·obtain⟨rfl,rfl⟩:=pure_some h
  obtain⟨a2,rfl,ha2⟩:=hx.ptr_inv
  exact⟨rfl,rfl,by simp[execOp,ho,hxo]⟩
 ·obtain⟨rfl,rfl⟩:=pure_some h
  cases hx
  exact⟨rfl,rfl,by simp[execOp,ho,hxo]⟩
 ·obtain⟨rfl,rfl⟩:=pure_some h
  cases hx with
  | @func _ f' _ a' _ c' hf _ _ _ _=>
   cases f'<;>simp[FnR]at hf
   subst hf
   exact⟨rfl,rfl,by simp[execOp,ho,hxo]⟩
 ·cases h
theorem partV_ok {off:Nat}{s s':St}{cs:List Value}{cs':Array Value}{v:Value}(he:EnvTy E)(h:partV E t cs off s= .some v s')(hc:VRs r cs cs'.toList):
  s=s'∧ ∃v',(part t cs' off).run E.P w= .ok v' w∧VR r v v':=by
 obtain⟨i,s1,h1,h2⟩:=bind_some h
 obtain⟨hi,rfl⟩:=ti_some h1 he
 rw[if_eq]at h2
 by_cases hg:i.agg=true
 ·rw[if_pos hg]at h2
  obtain⟨rfl,rfl⟩:=pure_some h2
  refine⟨rfl, .agg (cs'.extract off (off+i.size)),by simp[part,hi.run_agg,hg,hi.run_size], ?_⟩
  have:=((hc.drop off).take i.size).agg
  have e:(List.take i.size (List.drop off cs'.toList)).toArray=cs'.extract off (off+i.size):=by
   apply Array.ext'
   simp[Array.toList_extract]
  rw[e]at this
  exact this
 ·rw[if_neg hg]at h2
  obtain⟨h3,rfl⟩:=ofOpt_some h2
  obtain⟨v',g1,g2⟩:=hc.get h3
  have g1':cs'[off]?=some v':=by simpa using g1
  exact⟨rfl,v',by simp[part,hi.run_agg,hg,g1'],g2⟩
theorem asCs_some {v:Value}{l:List Value}{s s':St}(h:asCs v s= .some l s'):(∃c,v= .agg c∧l=c.toList)∧s=s':=by
 unfold asCs at h
 split at h
 ·obtain⟨rfl,rfl⟩:=pure_some h;exact⟨⟨_,rfl,rfl⟩,rfl⟩
 ·cases h
theorem VR.agg_inv {c:Array Value}{v':Value}(h:VR r (.agg c) v'): ∃c',v'= .agg c'∧VRs r c.toList c'.toList:=by
 cases h with
 |agg h1 h2=>exact⟨_,rfl,VRs.ofArr h1 h2⟩
theorem kField_ok {f:Nat}{s s':St}{x x' v:Value}(he:EnvTy E)(h:kField E t x f s= .some v s')(hr:Rel w0 r s.mem w)(hx:VR r x x'):Yields E w0 r s s' v w (Instr.field t x' f):=by
 obtain⟨i,s1,h1,h2⟩:=bind_some h
 obtain⟨hi,rfl⟩:=ti_some h1 he
 obtain⟨cs,s1,h3,h4⟩:=bind_some h2
 obtain⟨⟨c,rfl,rfl⟩,rfl⟩:=asCs_some h3
 obtain⟨c',rfl,hc⟩:=hx.agg_inv
 obtain⟨p,s2,h5,h6⟩:=bind_some h4
 obtain⟨rfl,fs,fd,fi,hu,hfd,hfi,rfl⟩:=fldOf_some he h5
 obtain⟨rfl,v',g1,g2⟩:=partV_ok (w:=w) he h6 hc
 exact .pure (by simp[Instr.field,hi.run_und,hu,hfd,asAgg,g1]) hr g2
theorem kExt_ok {k:Nat}{s s':St}{x x' v:Value}(h:kExt k x s= .some v s')(hr:Rel w0 r s.mem w)(hx:VR r x x'):Yields E w0 r s s' v w (Instr.extract x' k):=by
 unfold kExt at h
 split at h
 ·obtain⟨h3,rfl⟩:=ofOpt_some h
  cases hx with
  |tuple h1 h2=>
   obtain⟨v',g1,g2⟩:=(VRs.ofArr h1 h2).get h3
   exact .pure (v':=v') (by simp at g1;simp[Instr.extract,g1]) hr g2
 ·cases h
theorem kIface_ok {s s':St}{x x' v:Value}(he:EnvTy E)(h:kIface E t x s= .some v s')(hr:Rel w0 r s.mem w)(hx:VR r x x'):Yields E w0 r s s' v w (Instr.makeInterface t x'):=by
 obtain⟨i,s1,h1,h2⟩:=bind_some h
 obtain⟨hi,rfl⟩:=ti_some h1 he
 have hm:=hi.run_und (w:=w)
 generalize i.u=u at h2 hm
 cases u with
 |interface ms=>cases h2
 |_=>
  obtain⟨rfl,rfl⟩:=pure_some h2
  exact .pure (v':= .iface t x') (by simp[Instr.makeInterface,hm]) hr (.iface hx)
theorem kSlArr_ok {s s':St}{x x' v:Value}(he:EnvTy E)(h:kSlArr E t x s= .some v s')(hr:Rel w0 r s.mem w)(hx:VR r x x'):Yields E w0 r s s' v w (Instr.arrayAt t x'):=by
 obtain⟨i,s1,h1,h2⟩:=bind_some h
 obtain⟨hi,rfl⟩:=ti_some h1 he
 generalize hu:i.u=u at h2
 unfold slArrP at h2
 split at h2
 ·rename_i n e a len c
  obtain⟨h7,h8⟩:=chk_some h2
  obtain⟨rfl,rfl⟩:=pure_some h8
  rw[Bool.and_eq_true]at h7
  have hk:n≤len∧0<len:=⟨Nat.le_of_ble_eq_true h7.1,blt_lt h7.2⟩
  rcases hx.sl_inv with⟨a2,c2,rfl,ha2,hc,_⟩|⟨rfl,_⟩
  ·exact .pure (v':= .pointer (some a2)) (by simp[Instr.arrayAt,hi.run_und,hu,Nat.not_lt.2 hk.1]) hr ha2.ptr
  ·exact absurd hk.2 (Nat.lt_irrefl 0)
 ·cases h2
theorem kPick_ok {c c' a a' b b' v:Value}{s s':St}(h:kPick c a b s= .some v s')(hc:VR r c c')(ha:VR r a a')(hb:VR r b b'):s=s'∧ ∃t,c'= .bool t∧VR r v (if t then a' else b'):=by
 unfold kPick at h
 split at h
 ·rename_i t
  cases hc
  cases t with
  |false=>obtain⟨rfl,rfl⟩:=pure_some h;exact⟨rfl,false,rfl,hb⟩
  |true=>obtain⟨rfl,rfl⟩:=pure_some h;exact⟨rfl,true,rfl,ha⟩
 ·cases h
end
end Go.Proofs.YtapojfiplajfaaaGreatDoor.Am
/- The evaluator's operations,each against the model's own:slices,literals,make. -/
namespace Go.Proofs.YtapojfiplajfaaaGreatDoor.Am
open Go.RowKit
/-- An operand that may be missing. -/
def VRo (r:Inj):Option Value→Option Value→Prop
 |none,none=>True
 |some v,some v'=>VR r v v'
 |_,_=>False
theorem capU_pos:0<capU:=by unfold capU;decide
section
variable {E:Env}{w0 w:World}{r:Inj}{t:Nat}
theorem bnd_some {o:Option Value}{top dflt n:Nat}{s s':St}(h:bnd o top dflt s= .some n s'):s=s'∧((o=none∧n=dflt)∨ ∃k,o=some (.int k n)∧n≤top):=by
 unfold bnd at h
 split at h
 ·obtain⟨rfl,rfl⟩:=pure_some h;exact⟨rfl, .inl ⟨rfl,rfl⟩⟩
 ·obtain⟨h1,h2⟩:=chk_some h
  obtain⟨rfl,rfl⟩:=pure_some h2
  exact⟨rfl, .inr ⟨_,rfl,Nat.le_of_ble_eq_true h1⟩⟩
 ·cases h
theorem run_bounds {P:Program}{b:Bool}{len cap l h:Nat}{lo hi lo' hi':Option Value}(hh:(hi=none∧h=len)∨ ∃k,hi=some (.int k h)∧h≤cap)(hl:(lo=none∧l=0)∨ ∃k,lo=some (.int k l)∧l≤h)
  (h1:VRo r lo lo') (h2:VRo r hi hi'):(Instr.sliceBounds b len cap lo' hi' none).run P w= .ok (l,h,cap) w:=by
 have e1:lo'=lo:=by
  rcases hl with⟨rfl,_⟩|⟨k,rfl,_⟩<;>cases lo'<;>simp[VRo]at h1 ⊢
  exact h1.int_inv
 have e2:hi'=hi:=by
  rcases hh with⟨rfl,_⟩|⟨k,rfl,_⟩<;>cases hi'<;>simp[VRo]at h2 ⊢
  exact h2.int_inv
 subst e1;subst e2
 rcases hh with⟨rfl,rfl⟩|⟨k,rfl,hle⟩<;>rcases hl with⟨rfl,rfl⟩|⟨k',rfl,hle'⟩
 ·simp[Instr.sliceBounds]
 ·simp[Instr.sliceBounds,Instr.sliceBound,asIntOf]
  intro hx;exact absurd hx (by omega)
 ·simp[Instr.sliceBounds,Instr.sliceBound,asIntOf]
  intro hx;exact absurd hx (by omega)
 ·simp[Instr.sliceBounds,Instr.sliceBound,asIntOf]
  rw[if_pos hle,if_pos hle']
theorem sub_parts (a c l m x:Nat)(h1:m+x=c)(h:l≤x)(h2:x<a):c-l=m+(x-l)∧x-l<a:=by omega
theorem cap_sub {c l:Nat}(h:l≤c%capU):(c-l)/capU=c/capU∧(c-l)%capU=c%capU-l:=by
 have hp:=capU_pos
 obtain⟨h3,h4⟩:=sub_parts capU c l _ _ (Nat.div_add_mod c capU) h (Nat.mod_lt _ hp)
 constructor
 ·rw[h3,Nat.mul_add_div hp,Nat.div_eq_of_lt h4];rfl
 ·rw[h3,Nat.mul_add_mod,Nat.mod_eq_of_lt h4]
theorem cap_div0 {c:Nat}(h:c/capU=0):c%capU=c:=Nat.mod_eq_of_lt (by
 have hp:=capU_pos
 rcases Nat.lt_or_ge c capU with h1|h1
 ·exact h1
 ·exact absurd h (Nat.ne_of_gt (Nat.div_pos h1 hp)))
theorem sizeOk_some {c size:Nat}(h:sizeOk c size=true):c/capU=0∨(c/capU)%1024=size:=by
 unfold sizeOk at h
 cases e:Nat.beq (Nat.div c capU) 0 with
 |true=>exact .inl (Nat.eq_of_beq_eq_true e)
 |false=>rw[e]at h;exact .inr (Nat.eq_of_beq_eq_true h)
theorem AR.blk {a a':Addr}(k:AR r a a'): ∃b o d,a=⟨b,o,none⟩∧a'=⟨a'.block,o+d,none⟩∧a'.off=o+d∧r.blk b=some (a'.block,d):=by
 obtain⟨b,o,b',d,rfl,rfl,h⟩:=k
 exact⟨b,o,d,rfl,rfl,rfl,h⟩
theorem AR.block_add {a a':Addr}(k:AR r a a')(n:Nat):(a'.add n).block=a'.block∧(a'.add n).off=a'.off+n:=by
 obtain⟨b,o,b',d,rfl,rfl,h⟩:=k
 rw[addr_add];exact⟨rfl,rfl⟩
theorem VR.slice {a a':Addr}{l c c':Nat}(k:AR r a a')(hc:CapR r a'.block a'.off c c')(hl:l≤c%capU):VR r (.slice (some a) l c) (.slice (some a') l c'):=by
 obtain⟨b,o,b',d,rfl,rfl,h⟩:=k
 exact .sl h hc hl
theorem CapR.exact {b o c:Nat}(h:c<capU):CapR r b o c c:= .inl ⟨Nat.div_eq_of_lt h,rfl⟩
theorem aSlice_ok {s s':St}{x x' v:Value}{lo lo' hi hi':Option Value}(he:EnvTy E)(h:aSlice E t x lo hi s= .some v s')(hr:Rel w0 r s.mem w)(hx:VR r x x')(h1:VRo r lo lo')(h2:VRo r hi hi'):
  Yields E w0 r s s' v w (Instr.sliceAt t x' lo' hi' none):=by
 obtain⟨i,s1,h3,h4⟩:=bind_some h
 obtain⟨hi0,rfl⟩:=ti_some h3 he
 generalize hu:i.u=u at h4
 have hund:=hi0.run_und (w:=w)
 rw[hu]at hund
 split at h4
 ·-- an array behind a pointer
  rename_i n e a
  obtain⟨ie,s1,h5,h6⟩:=bind_some h4
  obtain⟨hie,rfl⟩:=ti_some h5 he
  unfold slArr at h6
  obtain⟨hcu,h6⟩:=chk_some h6
  have hlt:n<capU:=blt_lt hcu
  obtain⟨hh,s1,h7,h8⟩:=bind_some h6
  obtain⟨rfl,k1⟩:=bnd_some h7
  obtain⟨l,s1,h9,h10⟩:=bind_some h8
  obtain⟨rfl,k2⟩:=bnd_some h9
  obtain⟨rfl,rfl⟩:=pSl_some h10
  obtain⟨a2,rfl,ha2⟩:=hx.ptr_inv
  have hb:=run_bounds (r:=r) (w:=w) (P:=E.P) (b:=false) k1 k2 h1 h2
  refine .pure (v':= .slice (some (if n=l then a2 else a2.add (l*ie.size))) (hh-l) (n-l)) ?_ hr ?_
  ·simp[Instr.sliceAt,hund,Instr.sureAddr,hb,hie.run_size]
  ·have hc:(n-l)<capU:=by omega
   have hle:hh-l≤(n-l)%capU:=by
    rw[Nat.mod_eq_of_lt hc]
    rcases k1 with⟨_,rfl⟩|⟨_,_,k1⟩<;>omega
   by_cases hnl:n=l
   ·have e1:Nat.beq n l=true:=by rw[hnl];exact Nat.beq_refl l
    rw[if_pos hnl,e1]
    exact .slice ha2 (.exact hc) hle
   ·have e1:Nat.beq n l=false:=by
     cases e:Nat.beq n l with
     |true=>exact absurd (Nat.eq_of_beq_eq_true e) hnl
     |false=>rfl
    rw[if_neg hnl,e1]
    exact .slice (ha2.add _) (.exact hc) hle
 ·-- a slice
  rename_i e a len c
  obtain⟨ie,s1,h5,h6⟩:=bind_some h4
  obtain⟨hie,rfl⟩:=ti_some h5 he
  unfold slSl at h6
  obtain⟨hh,s1,h7,h8⟩:=bind_some h6
  obtain⟨rfl,k1⟩:=bnd_some h7
  obtain⟨l,s1,h9,h10⟩:=bind_some h8
  obtain⟨rfl,k2⟩:=bnd_some h9
  obtain⟨hsz,h11⟩:=chk_some h10
  obtain⟨rfl,rfl⟩:=pSl_some h11
  have k3:l≤hh:=by rcases k2 with⟨_,rfl⟩|⟨_,_,k2⟩<;>omega
  change (hi=none∧hh=len)∨ ∃k,hi=some (.int k hh)∧hh≤c%capU at k1
  rcases hx.sl_inv with⟨a2,c2,rfl,ha2,hc,hlen⟩|⟨rfl,q1,q2,a2,c2,rfl⟩
  ·have hle:c%capU≤c2:=by
    rcases hc with⟨e1,rfl⟩|⟨_,k,_,_,e2,_⟩
    ·exact Nat.mod_le _ _
    ·omega
   have k1':(hi=none∧hh=len)∨ ∃k,hi=some (.int k hh)∧hh≤c2:=by
    rcases k1 with k1|⟨k,e1,e2⟩
    ·exact .inl k1
    ·exact .inr ⟨k,e1,Nat.le_trans e2 hle⟩
   have hb:=run_bounds (r:=r) (w:=w) (P:=E.P) (b:=true) k1' k2 h1 h2
   have hrun:(Instr.sliceAt t (.slice (some a2) len c2) lo' hi' none).run E.P w= .ok (.slice (if c2=l then some a2 else some (a2.add (l*ie.size))) (hh-l) (c2-l)) w:=by
    simp[Instr.sliceAt,hund,Instr.slice,hb,hie.run_size]
   show Yields E w0 r s s (.slice (some (Bool.rec (motive:=fun _=>Addr) a (addA a (l*ie.size)) (Nat.blt l (c%capU)))) (hh-l) (c-l)) w _
   have hhb:hh≤c%capU:=by
    rcases k1 with⟨_,rfl⟩|⟨_,_,k1⟩<;>omega
   by_cases hlt:l<c%capU
   ·have e1:Nat.blt l (c%capU)=true:=Nat.ble_eq_true_of_le hlt
    rw[e1]
    refine .pure hrun hr ?_
    rw[if_neg (by omega)]
    obtain⟨m1,m2⟩:=cap_sub (c:=c) (l:=l) (Nat.le_of_lt hlt)
    refine .slice (ha2.add _) ?_ (by rw[m2];omega)
    rw[(ha2.block_add _).1,(ha2.block_add _).2]
    rcases hc with⟨e2,rfl⟩|⟨e2,k,g1,g2,g3,g4,g5⟩
    ·exact .inl ⟨by rw[m1];exact e2,rfl⟩
    ·refine .inr ⟨by rw[m1];exact e2,k,by rw[m1];exact g1,by rw[m1];exact g2,by rw[m2];omega,g4, ?_⟩
     have e3:k.sz=ie.size:=by
      rcases sizeOk_some hsz with q|q
      ·exact absurd q e2
      ·rw[g2];exact q
     rw[m2,←e3,Nat.add_assoc,←Nat.add_mul,Nat.add_sub_cancel' (Nat.le_of_lt hlt)]
     exact g5
   ·have e1:Nat.blt l (c%capU)=false:=by
     cases e:Nat.blt l (c%capU)with
     |true=>exact absurd (blt_lt e) hlt
     |false=>rfl
    rw[e1]
    have e2:hh-l=0:=by omega
    have e3:l=c%capU:=by omega
    obtain⟨m1,m2⟩:=cap_sub (c:=c) (l:=l) (Nat.le_of_eq e3)
    rw[e2]
    rw[e2]at hrun
    refine .pure hrun hr ?_
    rcases hc with⟨e4,rfl⟩|⟨e4,k,g1,g2,g3,g4,g5⟩
    ·have e5:=cap_div0 e4
     have e6:c2=l:=by omega
     rw[if_pos e6]
     exact .slice ha2 (.inl ⟨by rw[m1];exact e4,rfl⟩) (Nat.zero_le _)
    ·have h5:(c-l)/capU≠0:=by rw[m1];exact e4
     have h6:(c-l)%capU=0:=by rw[m2];omega
     show VR r (.slice (some a) 0 (c-l)) _
     split
     ·rename_i e7
      exact .slEnd h5 h6 fun _=>⟨k,by rw[m1];exact g1,by rw[m1];exact g2,by omega, .inl (by omega)⟩
     ·refine .slEnd h5 h6 fun _=>⟨k,by rw[m1];exact g1,by rw[m1];exact g2,by omega, .inr ?_⟩
      have e8:k.sz=ie.size:=by
       rcases sizeOk_some hsz with q|q
       ·exact absurd q e4
       ·rw[g2];exact q
      obtain⟨b0,o0,b1,d1,_,rfl,_⟩:=ha2
      rw[addr_add]
      have g4':k.b=b1:=g4
      have g5':o0+d1+c%capU*k.sz=k.p:=g5
      rw[←g4',←g5',e8,e3]
  ·have hl:l=0∧hh=0:=by
    rcases k1 with⟨_,rfl⟩|⟨_,_,k1⟩<;>rcases k2 with⟨_,rfl⟩|⟨_,_,k2⟩<;>omega
   obtain⟨rfl,rfl⟩:=hl
   have k1':(hi=none∧0=0)∨ ∃k,hi=some (.int k ((0:Nat):Int))∧0≤c2:=by
    rcases k1 with⟨k1,_⟩|⟨k,e1,e2⟩
    ·exact .inl ⟨k1,rfl⟩
    ·exact .inr ⟨k,e1,Nat.zero_le _⟩
   have hb:=run_bounds (r:=r) (w:=w) (P:=E.P) (b:=true) k1' k2 h1 h2
   refine .pure (v':= .slice (if c2=0 then some a2 else some (a2.add (0*ie.size))) 0 c2) ?_ hr ?_
   ·simp[Instr.sliceAt,hund,Instr.slice,hb,hie.run_size]
   ·show VR r (.slice (some _) 0 c) _
    have e9:(if c2=0 then some a2 else some (a2.add (0*ie.size)))=some a2:=by
     rw[Nat.zero_mul]
     split
     ·rfl
     ·rw[show a2.add 0=a2 by simp[Addr.add]]
    have e10:Nat.blt 0 (Nat.mod c capU)=false:=by
     have h:Nat.mod c capU=0:=q2
     rw[h]
     rfl
    rw[e9,e10]
    exact hx
 ·rename_i e
  obtain⟨ie,s1,h5,h4⟩:=bind_some h4
  obtain⟨hie,rfl⟩:=ti_some h5 he
  obtain⟨hh,s1,h7,h8⟩:=bind_some h4
  obtain⟨rfl,k1⟩:=bnd_some h7
  obtain⟨l,s1,h9,h10⟩:=bind_some h8
  obtain⟨rfl,k2⟩:=bnd_some h9
  obtain⟨rfl,rfl⟩:=pure_some h10
  cases hx
  have hb:=run_bounds (r:=r) (w:=w) (P:=E.P) (b:=true) (cap:=0) k1 k2 h1 h2
  have hl:l=0∧hh=0:=by
   rcases k1 with⟨_,rfl⟩|⟨_,_,k1⟩<;>rcases k2 with⟨_,rfl⟩|⟨_,_,k2⟩<;>omega
  obtain⟨rfl,rfl⟩:=hl
  exact .pure (v':= .slice none 0 0) (by simp[Instr.sliceAt,hund,Instr.slice,hb,hie.run_size]) hr .slNil
 ·rename_i st
  unfold slStr at h4
  obtain⟨hh,s1,h7,h8⟩:=bind_some h4
  obtain⟨rfl,k1⟩:=bnd_some h7
  obtain⟨l,s1,h9,h10⟩:=bind_some h8
  obtain⟨rfl,k2⟩:=bnd_some h9
  obtain⟨rfl,rfl⟩:=pure_some h10
  cases hx
  have hb:=run_bounds (r:=r) (w:=w) (P:=E.P) (b:=false) k1 k2 h1 h2
  exact .pure (v':= .string (st.extract l hh)) (by simp[Instr.sliceAt,hund,Instr.slice,hb]) hr (.string _)
 ·cases h4
/-! ### Literals -/
def PRs (r:Inj):List (Nat×Value)→List (Nat×Value)→Prop
 |[],[]=>True
 |p::l,q::m=>p.1=q.1∧VR r p.2 q.2∧PRs r l m
 |_,_=>False
theorem fillL_toList: ∀(l:List Value) (off k:Nat) (cs:Array Value),off+k+l.length≤cs.size→
  ((l.zipIdx k).foldl (fun cs p=>cs.setIfInBounds (off+p.2) p.1) cs).toList=cs.toList.take (off+k)++(l++cs.toList.drop (off+k+l.length))
 |[],off,k,cs,h=>by simp
 |v::l,off,k,cs,h=>by
  simp only[List.length_cons]at h
  rw[List.zipIdx_cons,List.foldl_cons,fillL_toList l off (k+1) _ (by simp;omega)]
  simp only[Array.toList_setIfInBounds]
  have hl:cs.toList.length=cs.size:=Array.length_toList
  generalize cs.toList=m at *
  have e2:(m.set (off+k) v).drop (off+(k+1)+l.length)=m.drop (off+k+(l.length+1)):=by
   rw[List.drop_set,if_pos (by omega)]
   congr 1
   omega
  have e3:(m.set (off+k) v).take (off+(k+1))=m.take (off+k)++[v]:=by
   rw[show off+(k+1)=off+k+1 by omega,List.take_set,List.take_succ_eq_append_getElem (by omega),List.set_append]
   simp only[List.length_take]
   rw[if_neg (by omega),show off+k-min (off+k) m.length=0 by omega]
   rfl
  rw[e2,e3]
  simp
theorem fill_ok {place:Nat→Option (Nat×Nat)}{place':Nat→Option (Nat×Nat)}(hp: ∀k x,place k=some x→place' k=some x):
  ∀(ps ps':List (Nat×Value)) (cs res:List Value) (cs':Array Value),fillAll place ps cs=some res→PRs r ps ps'→VRs r cs cs'.toList→ ∃res',Instr.fill place' cs' ps'=some res'∧VRs r res res'.toList
 |[],[],cs,res,cs',h,_,hc=>by
  cases h
  exact⟨cs',rfl,hc⟩
 |[],_::_,_,_,_,_,hp,_=>hp.elim
 |_::_,[],_,_,_,_,hp,_=>hp.elim
 |p::ps,q::ps',cs,res,cs',h,⟨h1,h2,h3⟩,hc=>by
  obtain⟨i,v⟩:=p
  obtain⟨j,v'⟩:=q
  obtain rfl:i=j:=h1
  have h0:fillAll place ((i,v)::ps) cs=(match place i with
   |none=>none
   |some (off,size)=>Bool.rec (motive:=fun _=>Option (List Value)) none (fillAll place ps (fillL off (cellsOf v) cs)) (Nat.beq (cellsOf v).length size&&Nat.ble (off+(cellsOf v).length) cs.length)):=rfl
  rw[h0]at h
  cases hpl:place i with
  |none=>rw[hpl]at h;cases h
  |some x=>
   obtain⟨off,size⟩:=x
   rw[hpl]at h
   simp only at h
   have hv:=h2.cells
   cases hb:(Nat.beq (cellsOf v).length size&&Nat.ble (off+(cellsOf v).length) cs.length)with
   |false=>rw[hb]at h;cases h
   |true=>
    rw[hb]at h
    rw[Bool.and_eq_true]at hb
    have e1:=Nat.eq_of_beq_eq_true hb.1
    have e2:=Nat.le_of_ble_eq_true hb.2
    have l1:(cellsOf v).length=v'.cells.size:=by rw[hv.1,Array.length_toList]
    have l2:cs.length=cs'.size:=by rw[hc.1,Array.length_toList]
    have hfold:(v'.cells.zipIdx.foldl (fun cs (c,j)=>cs.setIfInBounds (off+j) c) cs').toList=fillL off v'.cells.toList cs'.toList:=by
     rw[←Array.foldl_toList,Array.toList_zipIdx]
     have:=fillL_toList v'.cells.toList off 0 cs' (by rw[Array.length_toList];omega)
     simpa [fillL]using this
    have hrel:VRs r (fillL off (cellsOf v) cs) (v'.cells.zipIdx.foldl (fun cs (c,j)=>cs.setIfInBounds (off+j) c) cs').toList:=by
     rw[hfold]
     unfold fillL
     rw[hv.1]
     exact(hc.take off).append (hv.append (hc.drop _))
    obtain⟨res',g1,g2⟩:=fill_ok hp ps ps' _ res _ h h3 hrel
    refine⟨res', ?_,g2⟩
    unfold Instr.fill
    rw[hp _ _ hpl]
    simp only
    rw[if_neg]
    ·exact g1
    ·simp only[Bool.or_eq_true,ne_eq,decide_eq_true_eq,not_or,Decidable.not_not,Nat.not_lt]
     exact⟨by omega,by omega⟩
theorem placeS_ok {fs:Array Field}: ∀(k:Nat) (x:Nat×Nat),placeS E fs k=some x→ ∃f fi,fs[k]?=some f∧E.ty.get f.type=some fi∧x=(f.offset,fi.size):=by
 intro k x h
 unfold placeS at h
 cases e:fs.toList[k]? with
 |none=>rw[e]at h;cases h
 |some f=>
  rw[e]at h
  simp only at h
  cases e2:E.ty.get f.type with
  |none=>rw[e2]at h;cases h
  |some fi=>
   rw[e2]at h
   simp only[Option.some.injEq]at h
   exact⟨f,fi,by simpa using e,e2,h.symm⟩
theorem aBuild_ok {s s':St}{ps:List (Nat×Value)}{ps':Array (Nat×Value)}{v:Value}(he:EnvTy E)(h:aBuild E t ps s= .some v s')(hr:Rel w0 r s.mem w)(hp:PRs r ps ps'.toList):Yields E w0 r s s' v w (Instr.build t ps'):=by
 obtain⟨i,s1,h3,h4⟩:=bind_some h
 have hget:=(ofOpt_some h3).1
 obtain⟨hi,rfl⟩:=ti_some h3 he
 obtain⟨n,q1,q2,q3,z,q4,q5⟩:=hi.info
 have hz:VRs r i.zero z.cells.toList:=by rw[q5];exact plain_VRs hi.pl
 generalize hu:i.u=u at h4
 have hund:=hi.und
 rw[hu]at hund
 cases u with
 |struct fs=>
  obtain⟨res,s1,h5,h6⟩:=bind_some h4
  obtain⟨h7,rfl⟩:=ofOpt_some h5
  obtain⟨rfl,rfl⟩:=pure_some h6
  have hall: ∀f∈fs.toList,∃y,((E.P.info? f.type).map fun i=>(f.offset,i.size))=some y:=by
   intro f hf
   obtain⟨fi,e1⟩:=he.flds t i fs hget hu f (by simpa using hf)
   obtain⟨m,e2,_⟩:=(he.ok _ _ e1).info
   exact⟨_,by rw[e2];rfl⟩
  have hpl:=Go.ChangeMaps.mapM_total (0,0) hall
  generalize hplaces:fs.toList.map (fun x=>(((E.P.info? x.type).map fun i=>(x.offset,i.size)).getD (0,0)))=places at hpl
  have hplace: ∀k x,placeS E fs k=some x→places[k]?=some x:=by
   intro k x hk
   obtain⟨f,fi,e1,e2,e3⟩:=placeS_ok k x hk
   obtain⟨m,e4,e5,_⟩:=(he.ok _ _ e2).info
   rw[←hplaces,List.getElem?_map]
   have e1':fs.toList[k]?=some f:=by simpa using e1
   rw[e1']
   simp[e4,e5,e3]
  obtain⟨res',g1,g2⟩:=fill_ok hplace ps ps'.toList _ _ z.cells h7 hp hz
  refine .pure (v':= .agg res') (run_build w t ps' res' ?_) hr ?_
  ·simp only[Program.built,q1,hund,q4]
   rw[hpl]
   simpa using g1
  ·have:=g2.agg;simpa using this
 |array n e=>
  obtain⟨ie,s1,h9,h10⟩:=bind_some h4
  obtain⟨hie,rfl⟩:=ti_some h9 he
  obtain⟨res,s1,h5,h6⟩:=bind_some h10
  obtain⟨h7,rfl⟩:=ofOpt_some h5
  obtain⟨rfl,rfl⟩:=pure_some h6
  obtain⟨m,e4,e5,_⟩:=hie.info
  obtain⟨res',g1,g2⟩:=fill_ok (place':=fun k=>some (k*ie.size,ie.size)) (fun _ _ h=>h) ps ps'.toList _ _ z.cells h7 hp hz
  refine .pure (v':= .agg res') (run_build w t ps' res' ?_) hr ?_
  ·simp only[Program.built,q1,hund,q4,e4,e5]
   exact g1
  ·have:=g2.agg;simpa using this
 |_=>cases h4
theorem rep_length {α:Type}(n:Nat)(l:List α):(rep n l).length=n*l.length:=by
 induction n with
 |zero=>show([]:List α).length=_;simp
 |succ n ih=>
  show(l++rep n l).length=_
  rw[List.length_append,ih,Nat.succ_mul];omega
theorem rep_get {α:Type}(l:List α): ∀(n i:Nat),i<n*l.length→(rep n l)[i]?=l[i%l.length]?
 |0,i,h=>by omega
 |n+1,i,h=>by
  show(l++rep n l)[i]?=_
  rw[Nat.succ_mul]at h
  by_cases hi:i<l.length
  ·rw[List.getElem?_append_left hi,Nat.mod_eq_of_lt hi]
  ·rw[List.getElem?_append_right (by omega),rep_get l n _ (by omega),←Nat.mod_eq_sub_mod (by omega)]
theorem rep_eq (z:Array Value)(n:Nat)(hz:0<z.size):((Array.range (n*z.size)).map (z[· %z.size]!)).toList=rep n z.toList:=by
 apply List.ext_getElem?
 intro i
 by_cases hi:i<n*z.size
 ·rw[rep_get _ _ _ (by rw[Array.length_toList];exact hi),Array.length_toList]
  have hm:i%z.size<z.size:=Nat.mod_lt _ hz
  have h1:i<(Array.range (n*z.size)).size:=by simpa using hi
  simp[hi,hm]
 ·rw[List.getElem?_eq_none (by simp;omega),List.getElem?_eq_none (by rw[rep_length,Array.length_toList];omega)]
theorem rep_VRs {z:List Value}(h: ∀v∈z,plain v=true)(n:Nat): ∀v∈rep n z,plain v=true:=by
 induction n with
 |zero=>intro v hv;exact absurd hv (List.not_mem_nil)
 |succ n ih=>
  intro v hv
  have hv':v∈z++rep n z:=hv
  rcases List.mem_append.1 hv' with h1|h1
  ·exact h v h1
  ·exact ih v h1
end
end Go.Proofs.YtapojfiplajfaaaGreatDoor.Am
/- The evaluator's operations,each against the model's own:make,conversions,arithmetic,lengths. -/
namespace Go.Proofs.YtapojfiplajfaaaGreatDoor.Am
open Go.RowKit
theorem semP_run {α:Type}{P:Program}: ∀{s:Sem α} {a:α} {w:World},semP P s=some a→s.run P w= .ok a w
 | .pure b,a,w,h=>by cases h;rfl
 | .program k,a,w,h=>semP_run (s:=k P) h
 | .load ..,_,_,h| .store ..,_,_,h| .new ..,_,_,h| .shape ..,_,_,h| .freeze ..,_,_,h| .frozen ..,_,_,h| .getObj ..,_,_,h| .setObj ..,_,_,h| .choose ..,_,_,h| .sys ..,_,_,h| .mark ..,_,_,h| .halt ..,_,_,h=>by cases h
section
variable {E:Env}{w0 w:World}{r:Inj}{t:Nat}
theorem plain_VRs_eq {l l':List Value}(h:VRs r l l')(hp:l.all plain=true):l'=l:=by
 apply List.ext_getElem?
 intro i
 by_cases hi:i<l.length
 ·have hi':i<l'.length:=by rw[←h.1];exact hi
  rw[List.getElem?_eq_getElem hi,List.getElem?_eq_getElem hi']
  have:=h.2 i _ _ (List.getElem?_eq_getElem hi) (List.getElem?_eq_getElem hi')
  rw[this.eq_of_plain (List.all_eq_true.1 hp _ (List.getElem_mem hi))]
 ·rw[List.getElem?_eq_none (by rw[←h.1];omega),List.getElem?_eq_none (by omega)]
/-- A value that the program's own reckoning gives:if it has no address. -/
theorem onP_ok {m:Sem Value}{s s':St}{v:Value}(h:M.on (semP E.P m) pV s= .some v s'):s=s'∧m.run E.P w= .ok v w∧plain v=true:=by
 obtain⟨a,h1,h2⟩:=on_some h
 obtain⟨rfl,rfl,hp⟩:=pV_some h2
 exact⟨rfl,semP_run h1,hp⟩
theorem aBuildS_ok {s s':St}{n:Nat}{ps:List (Nat×Value)}{ps':Array (Nat×Value)}{v:Value}(he:EnvTy E)(h:aBuildS E t n ps s= .some v s')(hr:Rel w0 r s.mem w)(hf:Fresh r s.next s'.next)(hp:PRs r ps ps'.toList):
  Yields E w0 r s s' v w (Instr.buildSlice t n ps'):=by
 obtain⟨i,s1,h3,h4⟩:=bind_some h
 obtain⟨hi,rfl⟩:=ti_some h3 he
 generalize hu:i.u=u at h4
 have hund:=hi.run_und (w:=w)
 rw[hu]at hund
 cases u with
 |slice e=>
  obtain⟨ie,s1,h9,h10⟩:=bind_some h4
  obtain⟨hie,rfl⟩:=ti_some h9 he
  obtain⟨hb,h10⟩:=chk_some h10
  obtain⟨res,s1,h5,h6⟩:=bind_some h10
  obtain⟨h7,rfl⟩:=ofOpt_some h5
  obtain⟨b,s2,h8,h11⟩:=bind_some h6
  obtain⟨u0,s3,h12,h13⟩:=bind_some h11
  obtain⟨rfl,rfl⟩:=pure_some h13
  obtain⟨y1,y2,y3,y4⟩:=wrC_some h12
  rw[Bool.and_eq_true]at hb
  have hsz:=Nat.le_of_ble_eq_true hb.1
  obtain⟨z,g1,g2⟩:=hie.run_zero (w:=w)
  have hzs:z.cells.size=ie.size:=by rw[←Array.length_toList,g2,hie.len]
  -- the zeros
  have hz1:(madeCells z.cells (n*ie.size)).toList=rep n ie.zero:=by
   by_cases h0:n*ie.size=0
   ·rw[h0]
    have:(rep n ie.zero).length=0:=by rw[rep_length,hie.len,h0]
    rw[List.eq_nil_of_length_eq_zero this];simp[madeCells]
   ·have hpos:0<z.cells.size:=by rw[hzs];exact Nat.pos_of_ne_zero fun q=>h0 (by rw[q,Nat.mul_zero])
    rw[←hzs,←g2];exact rep_eq _ _ hpos
  have hzr:VRs r (rep n ie.zero) (madeCells z.cells (n*ie.size)).toList:=by rw[hz1];exact plain_VRs (rep_VRs hie.pl n)
  obtain⟨res',k1,k2⟩:=fill_ok (place':=fun k=>some (k*ie.size,ie.size)) (fun _ _ h=>h) ps ps'.toList _ _ _ h7 hp hzr
  obtain⟨q1,q2,q3,q4,q5⟩:=newL_ok h8 hr (fun x p1 p2=>hf x p1 (by rw[y2];exact p2)) k2 (c:=res') e (fun i v e=>by simpa using e)
  subst q1
  have hsz2:SzB (r.add s.next (w.heap.size,0)) (w.alloc (.cells res' e)) s.next res.length:=by
   have hl2:res.length=res'.size:=by rw[k2.1,Array.length_toList]
   have:(w.alloc (.cells res' e)).heap[w.heap.size]?=some (.cells res' e):=by
    show(w.heap.push (.cells res' e))[w.heap.size]?=_
    simp
   exact⟨w.heap.size,Inj.add_self _ _ _,res',e,0,0,this,hl2.symm,Nat.le_refl _⟩
  have hrel3:Rel w0 (r.add s.next (w.heap.size,0)) s3.mem (w.alloc (.cells res' e)):=by
   rw[y1]
   exact q2.rel.markSz hsz2 fun b' d q=>by
    rw[Inj.add_self]at q
    cases q
    exact hr.below.size
  replace q2:=q2.trans (.of_rel y2 hrel3)
  replace q4:=y3.trans q4
  replace q5:=y4.trans q5
  refine⟨.slice (some ⟨w.heap.size,0,none⟩) n n,_,_, ?_,q2, ?_,q4,q5⟩
  ·have: ¬(n*ie.size>2^24):=by omega
   unfold madeCells at k1
   by_cases h0:n*ie.size=0
   ·have e0: ∀f:Nat→Value,Array.map f (Array.range 0)= #[]:=fun f=>Array.eq_empty_of_size_eq_zero (by rw[Array.size_map,Array.size_range])
    rw[h0,e0]at k1
    have k3: ∀f:Nat→Value,Instr.fill (fun k=>some (k*ie.size,ie.size)) (Array.map f (Array.range 0)) ps'.toList=some res':=fun f=>by rw[e0 f];exact k1
    simp[Instr.buildSlice,hund,hie.run_size,h0,k3,run_newRow]
   ·have h2: ¬(16777216<n*ie.size):=by omega
    simp[Instr.buildSlice,hund,hie.run_size,h0,h2,g1,k1,run_newRow]
  ·have hn:n<capU:=blt_lt hb.2
   exact .slice q3 (.exact hn) (by rw[Nat.mod_eq_of_lt hn];exact Nat.le_refl _)
 |_=>cases h4
theorem kMkSl_ok {s s':St}{l l' c c' v:Value}(he:EnvTy E)(h:kMkSl E t l c s= .some v s')(hr:Rel w0 r s.mem w)(hf:Fresh r s.next s'.next)(hl:VR r l l')(hc:VR r c c'):Yields E w0 r s s' v w (Instr.makeSlice t l' c'):=by
 obtain⟨i,s1,h3,h4⟩:=bind_some h
 obtain⟨hi,rfl⟩:=ti_some h3 he
 obtain⟨l,s1,h5,h6⟩:=bind_some h4
 obtain⟨⟨k1,rfl⟩,rfl⟩:=asN_some h5
 obtain⟨c,s1,h7,h8⟩:=bind_some h6
 obtain⟨⟨k2,rfl⟩,rfl⟩:=asN_some h7
 have e1:=hl.int_inv
 have e2:=hc.int_inv
 subst e1;subst e2
 generalize hu:i.u=u at h8
 have hund:=hi.run_und (w:=w)
 rw[hu]at hund
 unfold mkSl at h8
 cases u with
 |slice e=>
  obtain⟨ie,s1,h9,h10⟩:=bind_some h8
  obtain⟨hie,rfl⟩:=ti_some h9 he
  obtain⟨hb,h10⟩:=chk_some h10
  obtain⟨b,s2,h11,h12⟩:=bind_some h10
  obtain⟨rfl,rfl⟩:=pure_some h12
  rw[Bool.and_eq_true]at hb
  have hlc:=Nat.le_of_ble_eq_true hb.1
  have hby:=Nat.le_of_ble_eq_true hb.2
  obtain⟨n,i1,i2,i3,z,i4,i5⟩:=hie.info
  have hzs:z.cells.size=ie.size:=by rw[←Array.length_toList,i5,hie.len]
  have hc1:c*ie.bytes≤16777216:=by rw[Nat.mul_add]at hby;omega
  have hc2:c≤16777216:=by rw[Nat.mul_add]at hby;omega
  have hz1:(madeCells z.cells (c*ie.size)).toList=rep c ie.zero:=by
   by_cases h0:c*ie.size=0
   ·rw[h0]
    have:(rep c ie.zero).length=0:=by rw[rep_length,hie.len,h0]
    rw[List.eq_nil_of_length_eq_zero this];simp[madeCells]
   ·have hpos:0<z.cells.size:=by rw[hzs];exact Nat.pos_of_ne_zero fun q=>h0 (by rw[q,Nat.mul_zero])
    rw[←hzs,←i5];exact rep_eq _ _ hpos
  obtain⟨q1,q2,q3,q4,q5⟩:=newL_ok h11 hr hf (plain_VRs (rep_VRs hie.pl c)) (c:=madeCells z.cells (c*ie.size)) e (fun i v e=>by rw[←hz1]at e;simpa using e)
  subst q1
  refine⟨.slice (some ⟨w.heap.size,0,none⟩) l c,_,_, ?_,q2, ?_,q4,q5⟩
  ·have n1:(n.bytes:Int)*c≤281474976710656:=by
    rw[i3]
    have:(ie.bytes:Int)*c=((c*ie.bytes:Nat):Int):=by rw[Int.natCast_mul,Int.mul_comm]
    omega
   have:=run_make (P:=E.P) (w:=w) t e n z (by rw[←hu];exact hi.und) i1 i4 k1 k2 l c (by omega) (by omega) n1 (by omega)
   simpa [i2]using this
  ·have hn:c<capU:=by unfold capU;omega
   exact .slice q3 (.exact hn) (by rw[Nat.mod_eq_of_lt hn];exact hlc)
 |_=>cases h8
end
end Go.Proofs.YtapojfiplajfaaaGreatDoor.Am
/- The evaluator's operations,each against the model's own:arithmetic,comparisons,conversions,lengths. -/
namespace Go.Proofs.YtapojfiplajfaaaGreatDoor.Am
open Go.RowKit
theorem wrap64_eq (n:Int):wrap64 n=IntKind.i64.wrap n:=by
 cases n with
 |ofNat m=>
  show wrapS .i64 (.ofNat m) m (.ofNat m)=_
  unfold wrapS
  cases e:Nat.ble m 9223372036854775807 with
  |false=>rfl
  |true=>
   have:=Nat.le_of_ble_eq_true e
   show(Int.ofNat m)=_
   rw[IntKind.wrap_i64]
   simp only[Int.ofNat_eq_natCast]
   omega
 |negSucc m=>
  show wrapS .i64 (.negSucc m) m (.negSucc m)=_
  unfold wrapS
  cases e:Nat.ble m 9223372036854775807 with
  |false=>rfl
  |true=>
   have:=Nat.le_of_ble_eq_true e
   show(Int.negSucc m)=_
   rw[IntKind.wrap_i64]
   omega
theorem wrapU_eq (k:IntKind)(q:Nat)(hk: ∀n:Int,k.wrap n=n%(q:Int))(n:Int):wrapU k q n=k.wrap n:=by
 cases n with
 |ofNat m=>rw[hk];rfl
 |negSucc m=>rfl
theorem wrapF_eq (k:IntKind)(n:Int):wrapF k n=k.wrap n:=by
 unfold wrapF
 split
 ·exact wrap64_eq n
 ·exact wrapU_eq _ _ (fun n=>by rw[IntKind.wrap_u32];rfl) n
 ·exact wrapU_eq _ _ (fun n=>by rw[IntKind.wrap_u8];rfl) n
 ·exact wrapU_eq _ _ (fun n=>by rw[IntKind.wrap_u64];rfl) n
 ·rfl
theorem addI_eq (a b:Int):addI a b=a+b:=by
 cases a<;>cases b<;>rfl
theorem subI_eq (a b:Int):subI a b=a-b:=by
 cases a with
 |ofNat m=>
  cases b with
  |ofNat n=>
   show Bool.rec (motive:=fun _=>Int) (Int.ofNat m-Int.ofNat n) (Int.ofNat (m-n)) (Nat.ble n m)=_
   cases e:Nat.ble n m with
   |false=>rfl
   |true=>
    have:=Nat.le_of_ble_eq_true e
    show Int.ofNat (m-n)=_
    simp only[Int.ofNat_eq_natCast]
    omega
  |negSucc n=>rfl
 |negSucc m=>cases b<;>rfl
theorem blt_eq (a b:Nat):Nat.blt a b=decide (a<b):=by
 cases e:Nat.blt a b with
 |true=>exact(decide_eq_true (blt_lt e)).symm
 |false=>
  refine(decide_eq_false fun h=> ?_).symm
  have:Nat.blt a b=true:=Nat.ble_eq_true_of_le h
  rw[e]at this;cases this
theorem nbeq_eq (a b:Nat):Nat.beq a b=decide (a=b):=by
 cases e:Nat.beq a b with
 |true=>exact(decide_eq_true (Nat.eq_of_beq_eq_true e)).symm
 |false=>exact(decide_eq_false (Nat.ne_of_beq_eq_false e)).symm
theorem ltI_eq (a b:Int):ltI a b=decide (a<b):=by
 cases a with
 |ofNat m=>
  cases b with
  |ofNat n=>show Nat.blt m n=_;rw[blt_eq];simp only[Int.ofNat_eq_natCast,decide_eq_decide];omega
  |negSucc n=>show false=_;simp only[Int.ofNat_eq_natCast];rw[decide_eq_false];omega
 |negSucc m=>
  cases b with
  |ofNat n=>show true=_;simp only[Int.ofNat_eq_natCast];rw[decide_eq_true];omega
  |negSucc n=>show Nat.blt n m=_;rw[blt_eq];simp only[decide_eq_decide];omega
theorem eqI_eq (a b:Int):eqI a b=decide (a=b):=by
 cases a with
 |ofNat m=>
  cases b with
  |ofNat n=>show Nat.beq m n=_;rw[nbeq_eq];simp only[Int.ofNat_eq_natCast,decide_eq_decide];omega
  |negSucc n=>show false=_;simp only[Int.ofNat_eq_natCast];rw[decide_eq_false];omega
 |negSucc m=>
  cases b with
  |ofNat n=>show false=_;simp only[Int.ofNat_eq_natCast];rw[decide_eq_false];omega
  |negSucc n=>show Nat.beq m n=_;rw[nbeq_eq];simp only[decide_eq_decide];omega
theorem rI_some {n:Int}{s s':St}{v:Value}(h:rI n s= .some v s'):v= .int .i64 (IntKind.i64.wrap n)∧s=s':=by
 unfold rI at h
 rw[fI_eq,wrap64_eq]at h
 cases h
 exact⟨rfl,rfl⟩
theorem rB_some {b:Bool}{s s':St}{v:Value}(h:rB b s= .some v s'):v= .bool b∧s=s':=by
 cases b<;>cases h<;>exact⟨rfl,rfl⟩
theorem isI64_some {k:IntKind}(h:isI64 k=true):k= .i64:=by cases k<;>first|rfl|cases h
theorem kNum_inj {k k':IntKind}(h:Nat.beq (kNum k) (kNum k')=true):k=k':=by
 have:=Nat.eq_of_beq_eq_true h
 cases k<;>cases k'<;>first|rfl|(exfalso;revert this;decide)
section
variable {E:Env}{w0 w:World}{r:Inj}{t:Nat}
theorem refB_ok {i:TI}{op:BinOp}{x x' y y':Value}{b:Bool}(hi:TyOK E.P t i)(h:refB i.u x y=some b)(hx:VR r x x')(hy:VR r y y')(xo yo:Operand)(hop:op= .eql∨op= .neq):
  (do eqGuard op t xo yo x' y';binOp op t x' y').run E.P w= .ok (.bool (if op= .eql then b else !b)) w:=by
 have hund:=hi.run_und (w:=w)
 generalize i.u=u at h hund
 have key: ∀d,(Op.equalIn (d+1) t x' y').run E.P w= .ok b w:=by
  intro d
  unfold refB at h
  split at h
  all_goals first|cases h|skip
  all_goals cases hx
  all_goals cases hy
  all_goals first
   |(simp[Op.equalIn,hund];done)
   |skip
  rename_i p _ q _ _ _ _ _
  cases e:Nat.beq p q with
  |true=>rw[e]at h;cases h
  |false=>
   rw[e]at h
   cases h
   have:=Nat.ne_of_beq_eq_false e
   simp[Op.equalIn,hund,this]
 have key2:(Op.equal t x' y').run E.P w= .ok b w:=key 9999
 unfold refB at h
 split at h
 all_goals first|cases h|skip
 all_goals cases hx
 all_goals cases hy
 all_goals rcases hop with rfl|rfl
 all_goals first
  |(simp[eqGuard,binOp,key2];done)
  |skip
theorem kOf_some {x x':Value}{a:Nat}(h:kOf x=some a)(hx:VR r x x'): ∃k n,x'= .int k n∧kNum k=a:=by
 unfold kOf at h
 split at h
 ·cases h;cases hx;exact⟨_,_,rfl,rfl⟩
 ·cases h
  cases hx with
  |complex h=>exact h
 ·cases h
theorem unkBin_ok {op:BinOp}{x x' y y' v:Value}{xo yo:Operand}{s s':St}(h:unkBin op x y s= .some v s')(hr:Rel w0 r s.mem w)(hx:VR r x x')(hy:VR r y y'):
  Yields E w0 r s s' v w (do eqGuard op t xo yo x' y';binOp op t x' y'):=by
 obtain⟨a,h1,h⟩:=on_some h
 obtain⟨b,h2,h⟩:=on_some h
 obtain⟨h3,h⟩:=chk_some h
 obtain⟨k,n,rfl,e1⟩:=kOf_some h1 hx
 obtain⟨k',m,rfl,e2⟩:=kOf_some h2 hy
 have hk:k=k':=kNum_inj (by rw[e1,e2];exact h3)
 subst hk
 have hb: ∀b:Bool,VR r topB (.bool b):=fun b=> .complex ⟨b,rfl⟩
 have hi: ∀n,VR r (.complex .f32 1 a) (.int k n):=fun n=> .complex ⟨k,n,rfl,e1⟩
 have hg: ∀op,eqGuard op t xo yo (.int k n) (.int k m)=pure ():=fun op=>by cases op<;>rfl
 have hrun: ∀u,(binOp op t (.int k n) (.int k m)).run E.P w= .ok u w→(do eqGuard op t xo yo (.int k n) (.int k m);binOp op t (.int k n) (.int k m)).run E.P w= .ok u w:=by
  intro u e
  rw[hg]
  simpa using e
 have cb: ∀op,(match op with| .eql| .neq| .lss| .leq| .gtr| .geq=>true|_=>false)=true→ ∃b,(binOp op t (.int k n) (.int k m)).run E.P w= .ok (.bool b) w:=by
  intro op ho
  cases op<;>first|(exact absurd ho (by decide))|exact⟨_,by simp only[binOp,Op.intCmp,ne_eq,not_true_eq_false,if_false,Sem.run_pure];rfl⟩
 have ci: ∀op,(match op with| .add| .sub| .mul| .and| .or| .xor=>true|_=>false)=true→ ∃u,(binOp op t (.int k n) (.int k m)).run E.P w= .ok (.int k u) w:=by
  intro op ho
  cases op<;>first|(exact absurd ho (by decide))|exact⟨_,by simp only[binOp,Op.intArith,Op.intBits,ne_eq,not_true_eq_false,if_false,Sem.run_pure];rfl⟩
 unfold unkOp at h
 cases op<;>simp only at h<;>first
  |(obtain⟨rfl,rfl⟩:=pure_some h;exact have⟨u,hu⟩:=cb _ rfl; .pure (hrun _ hu) hr (hb u))
  |(obtain⟨rfl,rfl⟩:=pure_some h;exact have⟨u,hu⟩:=ci _ rfl; .pure (hrun _ hu) hr (hi u))
  |cases h
theorem binSlow_ok {op:BinOp}{x x' y y' v:Value}{xo yo:Operand}{s s':St}(he:EnvTy E)(h:binSlow E op t xo yo x y s= .some v s')(hr:Rel w0 r s.mem w)(hx:VR r x x')(hy:VR r y y'):
  Yields E w0 r s s' v w (do eqGuard op t xo yo x' y';binOp op t x' y'):=by
 unfold binSlow at h
 rw[if_eq]at h
 by_cases hp:(plain x&&plain y)=true
 ·rw[if_pos hp]at h
  rw[Bool.and_eq_true]at hp
  obtain⟨rfl,h2,h3⟩:=onP_ok (w:=w) h
  rw[hx.eq_of_plain hp.1,hy.eq_of_plain hp.2]
  exact .pure h2 hr (.of_plain h3)
 ·rw[if_neg hp]at h
  rw[if_eq]at h
  by_cases hu:(isU x||isU y)=true
  ·rw[if_pos hu]at h
   exact unkBin_ok h hr hx hy
  rw[if_neg hu]at h
  obtain⟨i,s1,h1,h2⟩:=bind_some h
  obtain⟨hi,rfl⟩:=ti_some h1 he
  obtain⟨b,h3,h4⟩:=on_some h2
  split at h4
  ·obtain⟨rfl,rfl⟩:=pure_some h4
   exact .pure (by simpa using refB_ok (w:=w) hi h3 hx hy xo yo (.inl rfl)) hr (.bool _)
  ·obtain⟨rfl,rfl⟩:=pure_some h4
   exact .pure (by simpa using refB_ok (w:=w) hi h3 hx hy xo yo (.inr rfl)) hr (.bool _)
  ·cases h4
theorem int2_ok {f:Int→Int→St→R Value}{slow:Value→Value→M Value}{x y v:Value}{s s':St}(h:int2 f slow x y s= .some v s'):(∃a b,x= .int .i64 a∧y= .int .i64 b∧f a b s= .some v s')∨slow x y s= .some v s':=by
 unfold int2 caseI at h
 cases x<;>simp only at h
 case int k a=>
  cases y<;>simp only at h
  case int k' b=>
   cases e1:isI64 k with
   |false=>rw[e1]at h;exact .inr h
   |true=>
    cases e2:isI64 k' with
    |false=>rw[e1,e2]at h;exact .inr h
    |true=>
     rw[e1,e2]at h
     rw[isI64_some e1,isI64_some e2]
     exact .inl ⟨a,b,rfl,rfl,h⟩
  all_goals exact .inr h
 all_goals exact .inr h
theorem int3_ok {f:FastT}{slow:Value→Value→M Value}{x y v:Value}{s s':St}(h:int3 f slow x y s= .some v s'):(∃(k k':IntKind) (m n:Nat),x= .int k m∧y= .int k' n∧f k k' m n=some v∧s=s')∨slow x y s= .some v s':=by
 unfold int3 caseI at h
 cases x<;>simp only at h
 case int k a=>
  cases y<;>simp only at h
  case int k' b=>
   cases a with
   |negSucc m=>exact .inr h
   |ofNat m=>
    cases b with
    |negSucc n=>exact .inr h
    |ofNat n=>
     simp only at h
     cases e:f k k' m n with
     |none=>rw[e]at h;exact .inr h
     |some u=>rw[e]at h;cases h;exact .inl ⟨k,k',m,n,rfl,rfl,e,rfl⟩
  all_goals exact .inr h
 all_goals exact .inr h
theorem sameK_some {k k':IntKind}{x:Option Value}{v:Value}(h:sameK k k' x=some v):k=k'∧x=some v:=by
 unfold sameK at h
 cases e:Nat.beq (kNum k) (kNum k')with
 |false=>rw[e]at h;cases h
 |true=>rw[e]at h;exact⟨kNum_inj e,h⟩
theorem sOpt_some {b:Bool}{x:Option Value}{v:Value}(h:sOpt b x=some v):b=true∧x=some v:=by
 cases b with
 |false=>cases h
 |true=>exact⟨rfl,h⟩
theorem mkI_some {k:IntKind}{r:Nat}{v:Value}(h:mkI k r=some v):v= .int k r:=by
 unfold mkI at h
 rw[fN_eq]at h
 cases h
 rfl
theorem wrap_mx (k:IntKind){r:Nat}(h:r≤mxOf k):k.wrap (r:Int)=r:=by
 cases k<;>simp only[mxOf]at h<;>simp only[IntKind.wrap,IntKind.bits,IntKind.signed]<;>simp<;>omega
theorem wrap_q (k:IntKind)(hq:qOf k≠0)(n:Int):k.wrap n=n%(qOf k:Int):=by
 cases k<;>first|exact absurd rfl hq|(simp[IntKind.wrap,IntKind.bits,IntKind.signed,qOf])
theorem fitI_some {k:IntKind}{r:Nat}{v:Value}(h:fitI k r=some v):v= .int k (k.wrap (r:Int)):=by
 unfold fitI at h
 cases e:Nat.ble r (mxOf k)with
 |true=>
  rw[e]at h
  rw[wrap_mx k (Nat.le_of_ble_eq_true e)]
  exact mkI_some h
 |false=>
  rw[e]at h
  cases e2:Nat.beq (qOf k) (nat_lit 0)with
  |true=>rw[e2]at h;cases h
  |false=>
   rw[e2]at h
   have hq:qOf k≠0:=fun e=>by rw[e]at e2;cases e2
   rw[wrap_q k hq]
   exact mkI_some h
theorem wrap_mod (k:IntKind)(n:Int):k.wrap (n%(2^k.bits:Int))=k.wrap n:=by
 unfold IntKind.wrap
 rw[Int.emod_emod_of_dvd _ (Int.dvd_refl _)]
theorem bv_toNat (n m:Nat):(BitVec.ofInt n (m:Int)).toNat=m%2^n:=by
 rw[BitVec.toNat_ofInt]
 norm_cast
theorem wrap_land (k:IntKind)(m n:Nat):k.wrap ((BitVec.ofInt k.bits (m:Int)&&&BitVec.ofInt k.bits (n:Int)).toNat:Int)=k.wrap ((m&&&n:Nat):Int):=by
 rw[BitVec.toNat_and,bv_toNat,bv_toNat,←Nat.and_mod_two_pow,←wrap_mod k ((m&&&n:Nat):Int)]
 norm_cast
theorem wrap_lor (k:IntKind)(m n:Nat):k.wrap ((BitVec.ofInt k.bits (m:Int)|||BitVec.ofInt k.bits (n:Int)).toNat:Int)=k.wrap ((m|||n:Nat):Int):=by
 rw[BitVec.toNat_or,bv_toNat,bv_toNat,←Nat.or_mod_two_pow,←wrap_mod k ((m|||n:Nat):Int)]
 norm_cast
theorem wrap_xor (k:IntKind)(m n:Nat):k.wrap ((BitVec.ofInt k.bits (m:Int)^^^BitVec.ofInt k.bits (n:Int)).toNat:Int)=k.wrap ((m^^^n:Nat):Int):=by
 rw[BitVec.toNat_xor,bv_toNat,bv_toNat,←Nat.xor_mod_two_pow,←wrap_mod k ((m^^^n:Nat):Int)]
 norm_cast
theorem btOf_eq (k:IntKind):btOf k=k.bits:=by cases k<;>rfl
theorem mkB_some {b:Bool}{v:Value}(h:mkB b=some v):v= .bool b:=by cases b<;>cases h<;>rfl
theorem fast_add {k k':IntKind}{m n:Nat}{v:Value}(h:addK k k' m n=some v):(binOp .add t (.int k m) (.int k' n)).run E.P w= .ok v w:=by
 have hq0:=sameK_some h
 clear h
 obtain⟨rfl,h⟩:=hq0
 rw[fitI_some h]
 simp[binOp,Op.intArith]
theorem fast_mul {k k':IntKind}{m n:Nat}{v:Value}(h:mulK k k' m n=some v):(binOp .mul t (.int k m) (.int k' n)).run E.P w= .ok v w:=by
 have hq0:=sameK_some h
 clear h
 obtain⟨rfl,h⟩:=hq0
 rw[fitI_some h]
 simp[binOp,Op.intArith]
theorem fast_and {k k':IntKind}{m n:Nat}{v:Value}(h:andK k k' m n=some v):(binOp .and t (.int k m) (.int k' n)).run E.P w= .ok v w:=by
 have hq0:=sameK_some h
 clear h
 obtain⟨rfl,h⟩:=hq0
 rw[fitI_some h]
 have:=wrap_land k m n
 simp only[binOp,Op.intBits,ne_eq,not_true_eq_false,if_false,this,Sem.run_pure]
 rfl
theorem fast_or {k k':IntKind}{m n:Nat}{v:Value}(h:orK k k' m n=some v):(binOp .or t (.int k m) (.int k' n)).run E.P w= .ok v w:=by
 have hq0:=sameK_some h
 clear h
 obtain⟨rfl,h⟩:=hq0
 rw[fitI_some h]
 have:=wrap_lor k m n
 simp only[binOp,Op.intBits,ne_eq,not_true_eq_false,if_false,this,Sem.run_pure]
 rfl
theorem fast_xor {k k':IntKind}{m n:Nat}{v:Value}(h:xorK k k' m n=some v):(binOp .xor t (.int k m) (.int k' n)).run E.P w= .ok v w:=by
 have hq0:=sameK_some h
 clear h
 obtain⟨rfl,h⟩:=hq0
 rw[fitI_some h]
 have:=wrap_xor k m n
 simp only[binOp,Op.intBits,ne_eq,not_true_eq_false,if_false,this,Sem.run_pure]
 rfl
theorem fast_sub {k k':IntKind}{m n:Nat}{v:Value}(h:subK k k' m n=some v):(binOp .sub t (.int k m) (.int k' n)).run E.P w= .ok v w:=by
 have hq0:=sameK_some h
 clear h
 obtain⟨rfl,h⟩:=hq0
 have e:v= .int k (k.wrap ((m:Int)-n)):=by
  cases hb:Nat.ble n m with
  |true=>
   rw[hb]at h
   rw[fitI_some h]
   have:=Nat.le_of_ble_eq_true hb
   have e1:((Nat.sub m n:Nat):Int)=(m:Int)-n:=by show((m-n:Nat):Int)=_;omega
   rw[e1]
  |false=>
   rw[hb]at h
   obtain⟨h1,h2⟩:=sOpt_some h
   rw[fitI_some h2]
   have hq:qOf k≠0:=by have:1≤qOf k:=Nat.le_of_ble_eq_true h1;omega
   have hlt:m<n:=by
    rcases Nat.lt_or_ge m n with h|h
    ·exact h
    ·rw[Nat.ble_eq_true_of_le h]at hb;cases hb
   rw[wrap_q k hq,wrap_q k hq]
   congr 1
   show(((qOf k-(n-m)%qOf k:Nat)):Int)%(qOf k:Int)=_
   generalize hQ:qOf k=q at hq
   have h3:(n-m)%q<q:=Nat.mod_lt _ (by omega)
   have h4:((q-(n-m)%q:Nat):Int)=(q:Int)-(((n-m)%q:Nat):Int):=by omega
   have h5:(m:Int)-n= -((n-m:Nat):Int):=by omega
   have h6:(((n-m)%q:Nat):Int)=((n-m:Nat):Int)%(q:Int):=by norm_cast
   have h7:=Int.emod_add_mul_ediv ((n-m:Nat):Int) (q:Int)
   rw[h4,h5,h6]
   rw[show((q:Int)-((n-m:Nat):Int)%q)= -((n-m:Nat):Int)+q*(1+((n-m:Nat):Int)/q) by rw[Int.mul_add,Int.mul_one];omega]
   rw[Int.add_mul_emod_self_left]
 rw[e]
 simp[binOp,Op.intArith]
theorem fast_quo {k k':IntKind}{m n:Nat}{v:Value}(h:quoK k k' m n=some v):(binOp .quo t (.int k m) (.int k' n)).run E.P w= .ok v w:=by
 have hq0:=sameK_some h
 clear h
 obtain⟨rfl,h⟩:=hq0
 obtain⟨h1,h⟩:=sOpt_some h
 rw[fitI_some h]
 have hn0:n≠0:=by have:1≤n:=Nat.le_of_ble_eq_true h1;omega
 simp[binOp,Op.intDiv,hn0]
 show k.wrap ((m:Int)/n)=k.wrap ((m/n:Nat):Int)
 rw[Int.natCast_ediv]
theorem fast_rem {k k':IntKind}{m n:Nat}{v:Value}(h:remK k k' m n=some v):(binOp .rem t (.int k m) (.int k' n)).run E.P w= .ok v w:=by
 have hq0:=sameK_some h
 clear h
 obtain⟨rfl,h⟩:=hq0
 obtain⟨h1,h⟩:=sOpt_some h
 rw[mkI_some h]
 have hn0:n≠0:=by have:1≤n:=Nat.le_of_ble_eq_true h1;omega
 simp[binOp,Op.intDiv,hn0]
 show(m:Int).tmod n=((m%n:Nat):Int)
 rw[Int.natCast_emod]
 exact Int.tmod_eq_emod_of_nonneg (by omega)
theorem fast_shl {k k':IntKind}{m n:Nat}{v:Value}(h:shlK k k' m n=some v):(binOp .shl t (.int k m) (.int k' n)).run E.P w= .ok v w:=by
 obtain⟨h1,h⟩:=sOpt_some h
 rw[fitI_some h]
 have hn:n≤k.bits:=by rw[←btOf_eq];exact Nat.le_of_ble_eq_true h1
 have e:((Nat.shiftLeft m n:Nat):Int)=(m:Int)*2^n:=by
  show((m<<<n:Nat):Int)=_
  rw[Nat.shiftLeft_eq]
  norm_cast
 rw[e]
 simp[binOp,Op.shift,Nat.min_eq_left hn]
 intro hneg
 omega
theorem fast_shr {k k':IntKind}{m n:Nat}{v:Value}(h:shrK k k' m n=some v):(binOp .shr t (.int k m) (.int k' n)).run E.P w= .ok v w:=by
 obtain⟨h1,h⟩:=sOpt_some h
 rw[mkI_some h]
 have hn:n≤k.bits:=by rw[←btOf_eq];exact Nat.le_of_ble_eq_true h1
 have e:((Nat.shiftRight m n:Nat):Int)=(m:Int).fdiv (2^n):=by
  show((m>>>n:Nat):Int)=_
  rw[Nat.shiftRight_eq_div_pow]
  rw[Int.fdiv_eq_ediv_of_nonneg _ (Int.le_of_lt (Int.pow_pos (by omega)))]
  norm_cast
 rw[e]
 simp[binOp,Op.shift,Nat.min_eq_left hn]
 intro hneg
 omega
theorem fast_cmp {op:BinOp}{c:Nat→Nat→Bool}{k k':IntKind}{m n:Nat}{v:Value}(h:cmpK c k k' m n=some v)(hc:(Op.intCmp op (m:Int) (n:Int)).run E.P w= .ok (.bool (c m n)) w)
  (ho:op= .lss∨op= .gtr∨op= .leq∨op= .geq∨op= .eql∨op= .neq):(binOp op t (.int k m) (.int k' n)).run E.P w= .ok v w:=by
 have hq0:=sameK_some h
 clear h
 obtain⟨rfl,h⟩:=hq0
 rw[mkB_some h,←hc]
 rcases ho with rfl|rfl|rfl|rfl|rfl|rfl<;>simp[binOp]
theorem eqGuard_int {op:BinOp}{k k':IntKind}{m n:Int}{xo yo:Operand}:(eqGuard op t xo yo (.int k m) (.int k' n)).run E.P w= .ok () w:=by
 cases op<;>simp[eqGuard]
theorem fast_ok {op:BinOp}{f:FastT}{slow:Value→Value→M Value}{x x' y y' v:Value}{xo yo:Operand}{s s':St}(h:int3 f slow x y s= .some v s')(hf: ∀{k k':IntKind} {m n:Nat} {v:Value},f k k' m n=some v→(binOp op t (.int k m) (.int k' n)).run E.P w= .ok v w)
  (hp: ∀{k k':IntKind} {m n:Nat} {v:Value},f k k' m n=some v→plain v=true)
  (hs:slow x y s= .some v s'→Yields E w0 r s s' v w (do eqGuard op t xo yo x' y';binOp op t x' y')) (hr:Rel w0 r s.mem w) (hx:VR r x x') (hy:VR r y y'):Yields E w0 r s s' v w (do eqGuard op t xo yo x' y';binOp op t x' y'):=by
 rcases int3_ok h with⟨k,k',m,n,rfl,rfl,h1,rfl⟩|h1
 ·have e1:=hx.int_inv
  have e2:=hy.int_inv
  subst e1;subst e2
  refine .pure ?_ hr (.of_plain (hp h1))
  simp only[Sem.run_bind,eqGuard_int,Result.andThen_ok,hf h1]
 ·exact hs h1
theorem plain_fit {k:IntKind}{r:Nat}{v:Value}(h:fitI k r=some v):plain v=true:=by rw[fitI_some h];rfl
theorem plain_mk {k:IntKind}{r:Nat}{v:Value}(h:mkI k r=some v):plain v=true:=by rw[mkI_some h];rfl
theorem plain_sub {k k':IntKind}{m n:Nat}{v:Value}(h:subK k k' m n=some v):plain v=true:=by
 have hq0:=sameK_some h
 clear h
 obtain⟨rfl,h⟩:=hq0
 cases hb:Nat.ble n m with
 |true=>rw[hb]at h;exact plain_fit h
 |false=>rw[hb]at h;exact plain_fit (sOpt_some h).2
theorem aBin_ok {op:BinOp}{x x' y y' v:Value}{xo yo:Operand}{s s':St}{f:Value→Value→M Value}(hc:aBin E op t xo yo= .mk f)(he:EnvTy E)(h:f x y s= .some v s')(hr:Rel w0 r s.mem w)(hx:VR r x x')(hy:VR r y y'):
  Yields E w0 r s s' v w (do eqGuard op t xo yo x' y';binOp op t x' y'):=by
 have slow: ∀{op:BinOp},binSlow E op t xo yo x y s= .some v s'→Yields E w0 r s s' v w (do eqGuard op t xo yo x' y';binOp op t x' y'):=fun h=>binSlow_ok he h hr hx hy
 have cmp: ∀{op:BinOp} {c:Nat→Nat→Bool},int3 (cmpK c) (binSlow E op t xo yo) x y s= .some v s'→(op= .lss∨op= .gtr∨op= .leq∨op= .geq∨op= .eql∨op= .neq)→(∀m n:Nat,(Op.intCmp op (m:Int) (n:Int)).run E.P w= .ok (.bool (c m n)) w)→
   Yields E w0 r s s' v w (do eqGuard op t xo yo x' y';binOp op t x' y'):=fun h ho hc=>
  fast_ok h (fun e=>fast_cmp e (hc _ _) ho) (fun e=>by rw[mkB_some (sameK_some e).2];rfl) slow hr hx hy
 cases op
 all_goals
  cases hc
  first
  |exact slow h
  |exact fast_ok h fast_mul (fun e=>plain_fit (sameK_some e).2) slow hr hx hy
  |exact fast_ok h fast_quo (fun e=>plain_fit (sOpt_some (sameK_some e).2).2) slow hr hx hy
  |exact fast_ok h fast_rem (fun e=>plain_mk (sOpt_some (sameK_some e).2).2) slow hr hx hy
  |exact fast_ok h fast_and (fun e=>plain_fit (sameK_some e).2) slow hr hx hy
  |exact fast_ok h fast_or (fun e=>plain_fit (sameK_some e).2) slow hr hx hy
  |exact fast_ok h fast_xor (fun e=>plain_fit (sameK_some e).2) slow hr hx hy
  |exact fast_ok h fast_shl (fun e=>plain_fit (sOpt_some e).2) slow hr hx hy
  |exact fast_ok h fast_shr (fun e=>plain_mk (sOpt_some e).2) slow hr hx hy
  |rcases int2_ok h with⟨a,b,rfl,rfl,h2⟩|h2
   ·have e1:=hx.int_inv
    have e2:=hy.int_inv
    subst e1;subst e2
    first
    |obtain⟨rfl,rfl⟩:=rI_some h2
     refine .pure ?_ hr (.int _ _)
     simp[eqGuard,binOp,Op.intArith,addI_eq,subI_eq]
    |obtain⟨rfl,rfl⟩:=rB_some h2
     refine .pure ?_ hr (.bool _)
     simp only[ltI_eq,eqI_eq,←decide_not,Int.not_lt]
     first
     |simp[eqGuard,binOp,Op.intCmp];done
     |simp[eqGuard,binOp,Op.intCmp,bne];rw[Bool.eq_iff_iff];simp
   ·first
    |exact fast_ok h2 fast_add (fun e=>plain_fit (sameK_some e).2) slow hr hx hy
    |exact fast_ok h2 fast_sub (fun e=>plain_sub e) slow hr hx hy
    |refine cmp h2 (by simp) fun m n=> ?_
     simp only[Op.intCmp,Sem.run_pure,blt_eq,nbeq_eq]
     congr 2
     rw[Bool.eq_iff_iff]
     simp<;>omega
end
end Go.Proofs.YtapojfiplajfaaaGreatDoor.Am
/- The evaluator's operations,each against the model's own:conversions,elements,lengths,copies,assertions. -/
namespace Go.Proofs.YtapojfiplajfaaaGreatDoor.Am
open Go.RowKit
section
variable {E:Env}{w0 w:World}{r:Inj}{t:Nat}
theorem unSlow_ok {op:UnOp}{x x' v:Value}{s s':St}(h:unSlow E.P op x s= .some v s')(hr:Rel w0 r s.mem w)(hx:VR r x x'):Yields E w0 r s s' v w (Op.unary op x'):=by
 obtain⟨hp,h⟩:=chk_some h
 obtain⟨rfl,h2,h3⟩:=onP_ok (w:=w) h
 rw[hx.eq_of_plain hp]
 exact .pure h2 hr (.of_plain h3)
theorem max_eq (k:IntKind)(hq:qOf k≠0):(if k.signed then -1 else k.max)=(mxOf k:Int):=by
 cases k<;>first|exact absurd rfl hq|rfl
theorem kUn_ok {op:UnOp}{x x' v:Value}{s s':St}(h:kUn E.P op x s= .some v s')(hr:Rel w0 r s.mem w)(hx:VR r x x'):Yields E w0 r s s' v w (Op.unary op x'):=by
 unfold kUn at h
 split at h
 ·obtain⟨rfl,rfl⟩:=rB_some h
  cases hx
  exact .pure (by simp[Op.unary]) hr (.bool _)
 ·obtain⟨rfl,rfl⟩:=pure_some h
  cases hx with
  |complex e=>
   obtain⟨b,rfl⟩:=e
   exact .pure (by simp[Op.unary]) hr (.complex ⟨!b,rfl⟩)
 ·cases x with
  |int k n=>
   cases n with
   |negSucc m=>refine unSlow_ok (op:= .xor) ?_ hr hx;exact h
   |ofNat m=>
    replace h:Option.rec (motive:=fun _=>M Value) (unSlow E.P .xor (.int k (.ofNat m))) (fun x=>M.pure x) (notK k m) s= .some v s':=h
    cases e:notK k m with
    |none=>rw[e]at h;refine unSlow_ok (op:= .xor) ?_ hr hx;exact h
    |some u=>
     rw[e]at h
     obtain⟨rfl,rfl⟩:=pure_some h
     obtain⟨h1,h2⟩:=sOpt_some e
     have hq:qOf k≠0:=by have:1≤qOf k:=Nat.le_of_ble_eq_true h1;omega
     have hx':=hx.int_inv
     subst hx'
     rw[fitI_some h2]
     refine .pure ?_ hr (.int _ _)
     have:=wrap_xor k (mxOf k) m
     rw[←max_eq k hq]at this
     simp only[Op.unary,Op.intBits,Int.ofNat_eq_natCast,this,Sem.run_pure]
     rfl
  |_=>refine unSlow_ok (op:= .xor) ?_ hr hx;exact h
 ·exact unSlow_ok h hr hx
theorem byteV_some {v:Value}{b:UInt8}(h:byteV v=some b): ∃n:Nat,v= .int .u8 n∧b=UInt8.ofNat n:=by
 unfold byteV at h
 split at h
 ·cases h;exact⟨_,rfl,rfl⟩
 ·cases h
theorem onO_some {α β:Type}{x:Option α}{K:α→Option β}{b:β}(h:onO x K=some b): ∃a,x=some a∧K a=some b:=by
 cases x with
 |none=>cases h
 |some a=>exact⟨a,rfl,h⟩
theorem bytesL_some: ∀{l:List Value} {bs:List UInt8},bytesL l=some bs→ ∃ns:List Nat,l=ns.map (fun n:Nat=>Value.int .u8 (n:Int))∧bs=ns.map UInt8.ofNat
 |[],bs,h=>by cases h;exact⟨[],rfl,rfl⟩
 |v::l,bs,h=>by
  have h0:onO (byteV v) (fun b=>onO (bytesL l) fun l=>some (b::l))=some bs:=h
  obtain⟨b,h1,h2⟩:=onO_some h0
  obtain⟨bs',h3,h4⟩:=onO_some h2
  obtain⟨n,rfl,rfl⟩:=byteV_some h1
  obtain⟨ns,rfl,rfl⟩:=bytesL_some h3
  cases h4
  exact⟨n::ns,rfl,rfl⟩
theorem foldl_bytes: ∀(ns:List Nat) (acc:ByteArray),(ns.map fun n:Nat=>(n:Int)).foldl (fun r n=>r.push (UInt8.ofNat n.toNat)) acc=⟨acc.data++(ns.map UInt8.ofNat).toArray⟩
 |[],acc=>by simp
 |n::ns,acc=>by
  simp only[List.map_cons,List.foldl_cons]
  rw[foldl_bytes ns]
  simp[ByteArray.push]
theorem strOf_ok {a a':Addr}{n c:Nat}{v:Value}{s s':St}(h:strOf a n s= .some v s')(hr:Rel w0 r s.mem w)(ha:AR r a a'):Yields E w0 r s s' v w (Conv.bytesToString (.slice (some a') n c)):=by
 obtain⟨l,s1,h1,h2⟩:=bind_some h
 obtain⟨bs,h3,h4⟩:=on_some h2
 obtain⟨rfl,rfl⟩:=pure_some h4
 obtain⟨ns,rfl,rfl⟩:=bytesL_some h3
 obtain⟨l',g1,g2,g3,g4⟩:=rdL_ok _ h1 hr ha
 have hl:l'=ns.map (fun n:Nat=>Value.int .u8 (n:Int)):=plain_VRs_eq g3 (by
  rw[List.all_eq_true]
  intro v hv
  obtain⟨n,_,rfl⟩:=List.mem_map.1 hv
  rfl)
 subst hl
 have hrun:=run_loadCells_list (P:=E.P) w a' _ g2
 rw[g1]at hrun
 refine .same (v':= .string ⟨(ns.map UInt8.ofNat).toArray⟩) ?_ g4 hr (.string _)
 rw[run_bytesToString w a' n c (ns.map fun n:Nat=>(n:Int)) (by rw[List.map_map];exact hrun),foldl_bytes]
 simp[ByteArray.empty,ByteArray.emptyWithCapacity]
 rfl
theorem kConv_ok {d:Nat}{x x' v:Value}{s s':St}(he:EnvTy E)(h:kConv E t d x s= .some v s')(hr:Rel w0 r s.mem w)(hx:VR r x x'):Yields E w0 r s s' v w (convert t d x'):=by
 unfold kConv at h
 split at h
 ·rename_i a n c
  obtain⟨is,s1,h1,h2⟩:=bind_some h
  obtain⟨his,rfl⟩:=ti_some h1 he
  obtain⟨id,s1,h3,h4⟩:=bind_some h2
  obtain⟨hid,rfl⟩:=ti_some h3 he
  generalize hu:is.u=u at h4
  generalize hu2:id.u=u2 at h4
  split at h4
  ·rename_i e
   obtain⟨ie,s1,h5,h6⟩:=bind_some h4
   obtain⟨hie,rfl⟩:=ti_some h5 he
   generalize hu3:ie.u=u3 at h6
   split at h6
   ·have e1:=his.und
    have e2:=hid.und
    have e3:=hie.und
    rw[hu]at e1;rw[hu2]at e2;rw[hu3]at e3
    rcases hx.sl_inv with⟨a2,c2,rfl,ha2,hc,_⟩|⟨rfl,_,_,a2,c2,rfl⟩
    ·obtain⟨v',w',r',g1,g2⟩:=strOf_ok (E:=E) (c:=c2) h6 hr ha2
     exact⟨v',w',r',by rw[run_convert_bytes_string w t d e _ _ _ e1 e3 e2];exact g1,g2⟩
    ·obtain⟨l,s1,h1,h2⟩:=bind_some h6
     obtain⟨rfl,rfl⟩:=pure_some h1
     obtain⟨bs,h3,h4⟩:=on_some h2
     obtain⟨rfl,rfl⟩:=pure_some h4
     cases h3
     refine .pure (v':= .string ⟨#[]⟩) ?_ hr (.string _)
     rw[run_convert_bytes_string w t d e _ _ _ e1 e3 e2]
     simp[Conv.bytesToString,loadCells,loadCellsFrom,ByteArray.empty,ByteArray.emptyWithCapacity]
     rfl
   ·cases h6
  ·cases h4
 ·rename_i k n
  obtain⟨is,s1,h1,h2⟩:=bind_some h
  obtain⟨his,rfl⟩:=ti_some h1 he
  obtain⟨id,s1,h3,h4⟩:=bind_some h2
  obtain⟨hid,rfl⟩:=ti_some h3 he
  have e1:=hx.int_inv
  subst e1
  generalize hu2:id.u=u2 at h4
  split at h4
  ·rename_i k'
   rw[fI_eq,wrapF_eq]at h4
   obtain⟨rfl,rfl⟩:=pure_some h4
   refine .pure (v':= .int k' (k'.wrap n)) ?_ hr (.int _ _)
   have e2:=hid.run_und (w:=w)
   rw[hu2]at e2
   simp[convert,his.run_und,e2,Conv.intToInt]
  ·obtain⟨rfl,h2,h3⟩:=onP_ok (w:=w) h4
   exact .pure h2 hr (.of_plain h3)
 ·obtain⟨hp,h⟩:=chk_some h
  obtain⟨rfl,h2,h3⟩:=onP_ok (w:=w) h
  rw[hx.eq_of_plain hp]
  exact .pure h2 hr (.of_plain h3)
theorem kIdx_ok {x x' ix ix' v:Value}{s s':St}(he:EnvTy E)(h:kIdx E t x ix s= .some v s')(hr:Rel w0 r s.mem w)(hx:VR r x x')(hix:VR r ix ix'):Yields E w0 r s s' v w (Instr.index t x' ix'):=by
 obtain⟨i,s1,h1,h2⟩:=bind_some h
 obtain⟨hi,rfl⟩:=ti_some h1 he
 obtain⟨k,s1,h3,h4⟩:=bind_some h2
 obtain⟨⟨kd,rfl⟩,rfl⟩:=asN_some h3
 have e1:=hix.int_inv
 subst e1
 have hund:=hi.run_und (w:=w)
 generalize i.u=u at h4 hund
 unfold idxV at h4
 split at h4
 ·rename_i n e cs
  obtain⟨ie,s3,h9,h10⟩:=bind_some h4
  obtain⟨hie,rfl⟩:=ti_some h9 he
  obtain⟨h7,h8⟩:=chk_some h10
  have hk:k<n:=blt_lt h7
  obtain⟨c',rfl,hc⟩:=hx.agg_inv
  obtain⟨rfl,v',g1,g2⟩:=partV_ok (w:=w) he h8 hc
  refine .pure (v':=v') ?_ hr g2
  simp[Instr.index,asIntOf,hund,hie.run_size]
  rw[if_pos (by omega)]
  simp[g1]
 ·rename_i st
  obtain⟨b,h5,h6⟩:=on_some h4
  obtain⟨rfl,rfl⟩:=pure_some h6
  cases hx
  refine .pure (v':= .int .u8 b.toNat) ?_ hr (.int _ _)
  have e1:st[k]?=some b:=by
   obtain⟨h7,h8⟩:=List.getElem?_eq_some_iff.1 h5
   have h9:k<st.size:=by simpa using h7
   rw[getElem?_pos st k h9,←h8]
   simp
   rfl
  simp[Instr.index,asIntOf,hund,e1]
 ·cases h4
theorem aCap_ok {x x' v:Value}{s s':St}{ts:Array TypeId}{ty:TypeId}(hts:ts[0]?=some t)(he:EnvTy E)(h:aCap E t x s= .some v s')(hr:Rel w0 r s.mem w)(hx:VR r x x'):Yields E w0 r s s' v w (Builtin.cap_ ts ty #[x']):=by
 obtain⟨i,s1,h1,h2⟩:=bind_some h
 obtain⟨hi,rfl⟩:=ti_some h1 he
 have hund:=hi.run_und (w:=w)
 generalize i.u=u at h2 hund
 split at h2
 ·obtain⟨h3,h2⟩:=chk_some h2
  obtain⟨rfl,rfl⟩:=pN_some h2
  have hlt:=blt_lt h3
  cases hx with
  |slNil=>exact .pure (v':= .int .i64 _) (by simp[Builtin.cap_,hts,hund,goInt]) hr (.int _ _)
  |sl hb hc hl=>
   rcases hc with⟨_,rfl⟩|⟨h5,_⟩
   ·exact .pure (v':= .int .i64 _) (by simp[Builtin.cap_,hts,hund,goInt]) hr (.int _ _)
   ·exact absurd (Nat.div_eq_of_lt hlt) h5
  |slEnd h5 _ _=>exact absurd (Nat.div_eq_of_lt hlt) h5
 ·cases h2
theorem lenOf_ok {x x':Value}{m:Nat}{s s':St}(h:lenOf x s= .some m s')(hx:VR r x x'):s=s'∧(Builtin.lenOf x').run E.P w= .ok m w:=by
 unfold lenOf at h
 split at h
 ·obtain⟨rfl,rfl⟩:=pure_some h
  cases hx<;>exact⟨rfl,by simp[Builtin.lenOf]⟩
 ·obtain⟨rfl,rfl⟩:=pure_some h
  cases hx
  exact⟨rfl,by simp[Builtin.lenOf]⟩
 ·cases h
theorem bytesV_VRs (l:List UInt8):VRs r (bytesV l) (bytesV l):=plain_VRs fun v hv=>by
 obtain⟨b,_,rfl⟩:=List.mem_map.1 hv
 rfl
theorem srcL_ok {size k:Nat}{x x':Value}{l:List Value}{s s':St}(h:srcL size x k s= .some l s')(hr:Rel w0 r s.mem w)(hx:VR r x x')(hk: ∀b o c,x= .slice b o c→k≤o):
  ∃l':List Value,(Builtin.firstCells size k x').run E.P w= .ok l'.toArray w∧VRs r l l'∧Same s s':=by
 unfold srcL at h
 split at h
 ·rename_i a n c
  rcases hx.sl_inv with⟨a2,c2,rfl,ha2,hc,_⟩|⟨rfl,_,_,a2,c2,rfl⟩
  ·obtain⟨l',g1,g2,g3,g4⟩:=rdL_ok _ h hr ha2
   have hrun:=run_loadCells_list (P:=E.P) w a2 _ g2
   rw[g1]at hrun
   exact⟨l',by simpa [Builtin.firstCells]using hrun,g3,g4⟩
  ·have hk0:k=0:=Nat.le_zero.1 (hk _ _ _ rfl)
   subst hk0
   rw[Nat.zero_mul]at h
   obtain⟨rfl,rfl⟩:=pure_some h
   exact⟨[],by simp[Builtin.firstCells,loadCells,loadCellsFrom], .nil, .refl _⟩
 ·obtain⟨rfl,rfl⟩:=pure_some h
  cases hx
  exact⟨[],by simp[Builtin.firstCells], .nil, .refl _⟩
 ·rename_i st
  obtain⟨rfl,rfl⟩:=pure_some h
  cases hx
  refine⟨bytesV (st.data.toList.take k), ?_,bytesV_VRs _, .refl _⟩
  simp only[Builtin.firstCells,Sem.run_pure]
  congr 1
  apply Array.ext'
  simp[bytesV,Array.toList_extract]
 ·cases h
theorem srcL_zero {size:Nat}{x:Value}{l:List Value}{s s':St}(h:srcL size x 0 s= .some l s'):l=[]∧s=s':=by
 unfold srcL at h
 split at h
 ·rw[Nat.zero_mul]at h
  obtain⟨rfl,rfl⟩:=pure_some h
  exact⟨rfl,rfl⟩
 ·obtain⟨rfl,rfl⟩:=pure_some h
  exact⟨rfl,rfl⟩
 ·obtain⟨rfl,rfl⟩:=pure_some h
  exact⟨rfl,rfl⟩
 ·cases h
theorem aCopy_ok {d:Option Addr}{n c:Nat}{y' x x' v:Value}{s s':St}{ts:Array TypeId}{ty:TypeId}(hts:ts[0]?=some t)(he:EnvTy E)(h:aCopy E t d n x s= .some v s')(hr:Rel w0 r s.mem w)(hd:VR r (.slice d n c) y')(hx:VR r x x'):
  Yields E w0 r s s' v w (Builtin.copy_ ts ty #[y',x']):=by
 obtain⟨i,s1,h1,h2⟩:=bind_some h
 obtain⟨hi,rfl⟩:=ti_some h1 he
 have hund:=hi.run_und (w:=w)
 generalize i.u=u at h2 hund
 split at h2
 ·rename_i e
  obtain⟨ie,s1,h3,h4⟩:=bind_some h2
  obtain⟨hie,rfl⟩:=ti_some h3 he
  obtain⟨m,s1,h5,h6⟩:=bind_some h4
  obtain⟨rfl,g1⟩:=lenOf_ok (E:=E) (w:=w) h5 hx
  split at h6
  ·obtain⟨rfl,rfl⟩:=pN_some h6
   cases hd
   have g2:(Builtin.firstCells ie.size 0 x').run E.P w= .ok #[] w:=by
    unfold lenOf at h5
    split at h5
    ·cases hx<;>simp[Builtin.firstCells,loadCells,loadCellsFrom]
    ·cases hx
     simp[Builtin.firstCells]
    ·cases h5
   exact .pure (v':= .int .i64 ((0:Nat):Int)) (by simp[Builtin.copy_,hts,hund,hie.run_size,g1,g2,goInt]) hr (.int _ _)
  ·rename_i a
   rw[fN_eq]at h6
   obtain⟨l,s1,h7,h8⟩:=bind_some h6
   obtain⟨u1,s2,h9,h10⟩:=bind_some h8
   obtain⟨rfl,rfl⟩:=pN_some h10
   have hk: ∀b o c,x= .slice b o c→Nat.min n m≤o:=by
    intro b o c hxe
    subst hxe
    obtain⟨rfl,_⟩:=pure_some h5
    exact Nat.min_le_right _ _
   obtain⟨l',g2,g3,g4⟩:=srcL_ok (E:=E) h7 hr hx hk
   have g2':(Builtin.firstCells ie.size (Nat.min m n) x').run E.P w= .ok l'.toArray w:=by
    rw[show Nat.min m n=Nat.min n m from Nat.min_comm m n];exact g2
   rcases hd.sl_inv with⟨a2,c2,rfl,ha2,hc,_⟩|⟨rfl,_,_,a2,c2,rfl⟩
   ·obtain⟨w',k1,k2,k3,k4,k5⟩:=wrL_ok (P:=E.P) _ _ 0 h9 (by rw[g4.1];exact hr) (by simpa [Addr.add]using ha2) g3
    refine⟨.int .i64 (Nat.min n m:Nat),w',r, ?_, .of_rel (k3.trans g4.2.1) k2, .int _ _,k4.trans g4.2.2.1,k5.trans g4.2.2.2⟩
    simp[Builtin.copy_,hts,hund,hie.run_size,g1,goInt]
    simp only[g2']
    simp[k1]
    rw[show Nat.min m n=Nat.min n m from Nat.min_comm m n]
   ·have h0:Nat.min 0 m=0:=Nat.zero_min m
    have h0':Nat.min m 0=0:=Nat.min_zero m
    rw[h0]at h7 g2 ⊢
    rw[h0']at g2'
    obtain⟨rfl,rfl⟩:=srcL_zero h7
    have hl:l'=[]:=g3.inv_nil
    subst hl
    obtain⟨_,rfl⟩:=pure_some h9
    refine .pure (v':= .int .i64 ((0:Nat):Int)) ?_ hr (.int _ _)
    simp[Builtin.copy_,hts,hund,hie.run_size,g1,goInt]
    simp only[g2]
    simp[storeCells]
 ·cases h2
theorem zeroV_ok {i:TI}{z:Value}{s s':St}(hi:TyOK E.P t i)(h:zeroV i s= .some z s'):s=s'∧(zeroValue t).run E.P w= .ok z w∧VR r z z:=by
 obtain⟨n,q1,q2,q3,z',q4,q5⟩:=hi.info
 have hz:=hi.zagg n z' q1 q4
 have hrun:(zeroValue t).run E.P w= .ok z' w:=by simp[zeroValue,typeInfo,program,Sem.run,q1,q4]
 unfold zeroV at h
 rw[if_eq]at h
 by_cases hg:i.agg=true
 ·rw[if_pos hg]at h
  obtain⟨rfl,rfl⟩:=pure_some h
  rw[hg]at hz
  cases z' with
  |agg cs=>
   have e:cs.toList=i.zero:=q5
   have e2:Value.agg cs= .agg i.zero.toArray:=by rw[←e]
   rw[e2]at hrun
   exact⟨rfl,hrun,(plain_VRs (r:=r) hi.pl).agg⟩
  |_=>cases hz
 ·rw[if_neg hg]at h
  obtain⟨h1,rfl⟩:=ofOpt_some h
  have hz':aggV z'=false:=by rw[hz];simpa using hg
  have e:i.zero=[z']:=by
   rw[←q5]
   cases z'<;>first|rfl|cases hz'
  rw[e]at h1
  simp at h1
  subst h1
  exact⟨rfl,hrun, .of_plain (hi.pl _ (by rw[e];simp))⟩
theorem okV_some {c ok:Bool}{x v:Value}{s s':St}(h:okV c x ok s= .some v s'):s=s'∧((c=true∧v= .tuple #[x, .bool ok])∨(c=false∧ok=true∧v=x)):=by
 unfold okV at h
 cases c with
 |true=>obtain⟨rfl,rfl⟩:=pure_some h;exact⟨rfl, .inl ⟨rfl,rfl⟩⟩
 |false=>
  cases ok with
  |true=>obtain⟨rfl,rfl⟩:=pure_some h;exact⟨rfl, .inr ⟨rfl,rfl,rfl⟩⟩
  |false=>cases h
theorem VR.pair {a a' b b':Value}(h:VR r a a')(k:VR r b b'):VR r (.tuple #[a,b]) (.tuple #[a',b']):= .tuple rfl fun i v v' e e'=>by
 match i with
 |0=>simp at e e';subst e;subst e';exact h
 |1=>simp at e e';subst e;subst e';exact k
 |i+2=>simp at e
theorem kAssert_ok {a xt:Nat}{c:Bool}{x x' v:Value}{s s':St}(he:EnvTy E)(h:kAssert E a c x s= .some v s')(hr:Rel w0 r s.mem w)(hx:VR r x x'):Yields E w0 r s s' v w (Instr.typeAssert x' xt a c):=by
 obtain⟨i,s1,h1,h2⟩:=bind_some h
 obtain⟨hi,rfl⟩:=ti_some h1 he
 have hund:=hi.run_und (w:=w)
 generalize hu:i.u=u at h2 hund
 have fails: ∀{s' v},M.bind (zeroV i) (fun z=>okV c z false) s= .some v s'→s=s'∧c=true∧ ∃z,(zeroValue a).run E.P w= .ok z w∧v= .tuple #[z, .bool false]∧VR r z z:=by
  intro s' v h
  obtain⟨z,s1,h3,h4⟩:=bind_some h
  obtain⟨rfl,h5,h6⟩:=zeroV_ok (r:=r) (w:=w) hi h3
  obtain⟨rfl,⟨h7,h8⟩|⟨_,h8,_⟩⟩:=okV_some h4
  ·exact⟨rfl,h7,z,h5,h8,h6⟩
  ·cases h8
 split at h2
 ·rename_i want tt y
  obtain⟨it,h3,h4⟩:=on_some h2
  cases hx with
  | @iface _ _ y' hy=>
   generalize hm:Instr.missingMethod want it.methods=mm at h4
   cases mm with
   |none=>
    obtain⟨rfl,⟨rfl,rfl⟩|⟨rfl,_,rfl⟩⟩:=okV_some h4
    ·exact .pure (by simp[Instr.typeAssert,hund,typeInfo,program,Sem.run,h3,hm]) hr ((VR.iface hy).pair (.bool _))
    ·exact .pure (by simp[Instr.typeAssert,hund,typeInfo,program,Sem.run,h3,hm]) hr (.iface hy)
   |some m=>
    obtain⟨rfl,rfl,z,g1,rfl,g2⟩:=fails h4
    exact .pure (v':= .tuple #[z, .bool false]) (by simp[Instr.typeAssert,hund,typeInfo,program,Sem.run,h3,hm,g1]) hr (g2.pair (.bool _))
 ·obtain⟨rfl,rfl,z,g1,rfl,g2⟩:=fails h2
  cases hx
  refine .pure (v':= .tuple #[z, .bool false]) ?_ hr (g2.pair (.bool _))
  cases u<;>simp[Instr.typeAssert,hund,g1]
 ·rename_i tt y hn
  rw[if_eq]at h2
  cases hx with
  | @iface _ _ y' hy=>
   by_cases ht:Nat.beq tt a=true
   ·rw[if_pos ht]at h2
    have e:=Nat.eq_of_beq_eq_true ht
    subst e
    obtain⟨rfl,⟨rfl,rfl⟩|⟨rfl,_,rfl⟩⟩:=okV_some h2
    ·refine .pure (v':= .tuple #[y', .bool true]) ?_ hr (hy.pair (.bool _))
     cases u<;>first|(simp[Instr.typeAssert,hund];done)|exact(hn _ rfl).elim
    ·refine .pure (v':=y') ?_ hr hy
     cases u<;>first|(simp[Instr.typeAssert,hund];done)|exact(hn _ rfl).elim
   ·rw[if_neg ht]at h2
    have e:tt≠a:=fun e=>ht (by rw[e];exact Nat.beq_refl a)
    obtain⟨rfl,rfl,z,g1,rfl,g2⟩:=fails h2
    refine .pure (v':= .tuple #[z, .bool false]) ?_ hr (g2.pair (.bool _))
    cases u<;>first|(simp[Instr.typeAssert,hund,g1,e];done)|exact(hn _ rfl).elim
 ·cases h2
theorem min_ok {l l':List Value}{ts:Array TypeId}{ty:TypeId}{v:Value}{s s':St}(h:M.chk (l.all plain) (M.on (semP E.P (Builtin.min_ #[] 3 l.toArray)) pV) s= .some v s')(hr:Rel w0 r s.mem w)(hl:VRs r l l'):Yields E w0 r s s' v w (Builtin.min_ ts ty l'.toArray):=by
 obtain⟨hp,h⟩:=chk_some h
 obtain⟨rfl,h2,h3⟩:=onP_ok (w:=w) h
 rw[plain_VRs_eq hl hp]
 exact .pure h2 hr (.of_plain h3)
theorem max_ok {l l':List Value}{ts:Array TypeId}{ty:TypeId}{v:Value}{s s':St}(h:M.chk (l.all plain) (M.on (semP E.P (Builtin.max_ #[] 3 l.toArray)) pV) s= .some v s')(hr:Rel w0 r s.mem w)(hl:VRs r l l'):Yields E w0 r s s' v w (Builtin.max_ ts ty l'.toArray):=by
 obtain⟨hp,h⟩:=chk_some h
 obtain⟨rfl,h2,h3⟩:=onP_ok (w:=w) h
 rw[plain_VRs_eq hl hp]
 exact .pure h2 hr (.of_plain h3)
end
end Go.Proofs.YtapojfiplajfaaaGreatDoor.Am
