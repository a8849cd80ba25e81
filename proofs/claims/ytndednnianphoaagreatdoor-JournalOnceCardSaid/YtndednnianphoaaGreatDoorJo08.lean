import Derived.Test.YtndednnianphoaaGreatDoorJo07
import Derived.ChangeShapes
import Derived.ChangeSlices
import Derived.WideShapes
import Derived.OpenShut
import Derived.ChangeKeysEq
import Derived.Laws.Strings
noncomputable section
namespace Go.Proofs.YtndednnianphoaaGreatDoor.Am
section
variable {α β:Type}{s:St}{E:Env}{t:Nat}
abbrev u8 (n:Nat):Value:= .int .u8 (n:Int)
abbrev u8l (l:List Nat):List Value:=l.map λn:Nat=>Value.int .u8 (n:Int)
theorem BU (l:List Nat):(u8l l).length=l.length:=by simp
def Bs (s:St)(v:Value)(l:List Nat):Prop:=
 (v= .slice none 0 0/\l=[])\/ ∃b o c,v= .slice (some ⟨b,o,none⟩) l.length c/\l.length<=c%capU/\BH c 1=true/\Row s b o (u8l l)
def BsF (v:Value):Nat->Prop:=match v with
 | .slice (some ⟨b,o,_⟩) n _=>In b o n
 |_=>Non
theorem Bs.ext {F G:Nat->Prop}{s s':St}{v:Value}{l:List Nat}(h:Bs s v l)(e:Ext F G s s')(hG: ∀x,BsF v x-> ¬G x):Bs s' v l:=by
 rcases h with h|⟨b,o,c,rfl,h1,h2,h3⟩
 ·exact .inl h
 ·refine .inr ⟨b,o,c,rfl,h1,h2,h3.ext e λi hi=>hG _ ?_⟩
  rw[BU]at hi
  exact⟨by omega,by omega⟩
theorem Bs.ext0 {F:Nat->Prop}{s s':St}{v:Value}{l:List Nat}(h:Bs s v l)(e:Ext F Non s s'):Bs s' v l:=h.ext e λ_ _=>id
theorem Bs.same {s s':St}{v:Value}{l:List Nat}(h:Bs s v l)(hm:s'.mem=s.mem)(hn:s'.next=s.next):Bs s' v l:=by
 rcases h with h|⟨b,o,c,h0,h1,h2,h3⟩
 ·exact .inl h
 ·exact .inr ⟨b,o,c,h0,h1,h2,λi v e=>(h3 i v e).same hm hn⟩
theorem Bs.sl {v:Value}{l:List Nat}(h:Bs s v l): ∃p c,v= .slice p l.length c:=by
 rcases h with⟨rfl,rfl⟩|⟨b,o,c,rfl,_⟩
 ·exact⟨_,_,rfl⟩
 ·exact⟨_,_,rfl⟩
theorem Bs.len {v:Value}{l:List Nat}{sz:Nat}(h:Bs s v l)(ht:slN E t=some sz)(Q:Value->St->Prop):W (A8 E .len [t] [v]) s Q=Q (.int .i64 (l.length:Nat)) s:=by
 obtain⟨p,c,rfl⟩:=h.sl
 exact B0 ht Q
theorem Row.at {b o:Nat}{l:List Nat}(h:Row s b o (u8l l)){k x:Nat}(hk:l[k]?=some x):At s b (o+k) (u8 x):=h k _ (by rw[List.getElem?_map,hk];rfl)
theorem Row.take {b o n:Nat}{l:List Value}(h:Row s b o l):Row s b o (l.take n):=λi v e=>by
 rw[List.getElem?_take]at e
 split at e
 ·exact h i v e
 ·cases e
theorem Row.drop {b o n:Nat}{l:List Value}(h:Row s b o l):Row s b (o+n) (l.drop n):=λi v e=>by
 rw[List.getElem?_drop]at e
 have:=h _ v e
 rw[show o+n+i=o+(n+i) by omega]
 exact this
theorem An.take {b o n:Nat}{l:List Value}(h:An s b o l):An s b o (l.take n):=λi v e=>by
 rw[List.getElem?_take]at e
 split at e
 ·exact h i v e
 ·cases e
theorem An.drop {b o n:Nat}{l:List Value}(h:An s b o l):An s b (o+n) (l.drop n):=λi v e=>by
 rw[List.getElem?_drop]at e
 have:=h _ v e
 rw[show o+n+i=o+(n+i) by omega]
 exact this
theorem Gp_ {P:Program}{u:TypeDesc}(h:P.underlying t=some u):semP P (underlying t)=some u:=by
 unfold underlying program
 show semP P ((match P.underlying t with|some d=>pure d|none=>_):Sem TypeDesc)=_
 rw[h]
 rfl
end
def appT (E:Env)(t t2:Nat):Option (Nat×Nat×Bool×List Value):=match T.get E.ty t,T.get E.ty t2 with
 |some i,some i2=>(match i.u with| .slice e=>(match T.get E.ty e with|some ie=>some (ie.size,ie.bytes,Dc i2.u,ie.zero)|none=>none)|_=>none)
 |_,_=>none
def elT (E:Env)(t:Nat):Option (Nat×Nat×List Value):=match T.get E.ty t with
 |some i=>(match i.u with| .slice e=>(match T.get E.ty e with|some ie=>some (ie.size,ie.bytes,ie.zero)|none=>none)|_=>none)
 |none=>none
section
variable {α β:Type}{s:St}{E:Env}{t t2:Nat}
theorem Im {sz by':Nat}{g:Bool}{z:List Value}(h:appT E t t2=some (sz,by',g,z)): ∃i i2 e ie,T.get E.ty t=some i/\T.get E.ty t2=some i2/\i.u= .slice e/\T.get E.ty e=some ie/\ie.size=sz/\ie.bytes=by'/\Dc i2.u=g/\ie.zero=z:=by
 unfold appT at h
 split at h
 ·rename_i i i2 h1 h2
  split at h
  ·rename_i e hu
   split at h
   ·rename_i ie he
    cases h
    exact⟨i,i2,e,ie,h1,h2,hu,he,rfl,rfl,rfl,rfl⟩
   ·cases h
  ·cases h
 ·cases h
theorem PW {sz by':Nat}{z:List Value}(h:elT E t=some (sz,by',z)): ∃i e ie,T.get E.ty t=some i/\i.u= .slice e/\T.get E.ty e=some ie/\ie.size=sz/\ie.bytes=by'/\ie.zero=z:=by
 unfold elT at h
 split at h
 ·rename_i i h1
  split at h
  ·rename_i e hu
   split at h
   ·rename_i ie he
    cases h
    exact⟨i,e,ie,h1,hu,he,rfl,rfl,rfl⟩
   ·cases h
  ·cases h
 ·cases h
def Src (s:St)(sz:Nat)(x:Value)(n:Nat)(l:List Value)(F:Nat->Prop):Prop:=
 (∃p c,x= .slice p n c)/\ ∃s1,srcL sz x n s= .some l s1/\s1.mem=s.mem/\s1.next=s.next/\Ext F Non s s1
theorem XV {b o n c sz:Nat}{l:List Value}(h:Row s b o l)(hl:l.length=n*sz):Src s sz (.slice (some ⟨b,o,none⟩) n c) n l (In b o (n*sz)):=by
 refine⟨⟨_,_,rfl⟩, ?_⟩
 obtain⟨a,s1,e,rfl,h1,h2,h3⟩:=W.rdL (Q:=λa s1=>a=l/\s1.mem=s.mem/\s1.next=s.next/\Ext (λx=>b+o<=x/\x<b+o+l.length) Non s s1) h λs1 e1 e2 e3=>⟨rfl,e1,e2,e3⟩
 refine⟨s1, ?_,h1,h2, ?_⟩
 ·show rdL (n*sz) ⟨b,o,none⟩ s=_
  rw[<-hl]
  exact e
 ·rw[hl]at h3
  exact h3
theorem KI_ {sz:Nat}:Src s sz (.slice none 0 0) 0 [] Non:=⟨⟨_,_,rfl⟩,s,rfl,rfl,rfl,Ext.refl s⟩
def SrcG (s:St)(sz by':Nat)(g:Bool)(z:List Value)(x:Value)(n:Nat)(l:List Value)(F:Nat->Prop):Prop:=
 ∀ie:TI,ie.size=sz->ie.bytes=by'->ie.zero=z->(∀s':St,appN g ie.bytes x s'= .some n s')/\ ∃s1,appL g ie x n s= .some l s1/\s1.mem=s.mem/\s1.next=s.next/\Ext F Non s s1
theorem Src.g {sz by' n:Nat}{z l:List Value}{x:Value}{F:Nat->Prop}(h:Src s sz x n l F):SrcG s sz by' false z x n l F:=λie h1 _ _=>by
 obtain⟨⟨p,c,rfl⟩,s1,e,m1,n1,x1⟩:=h
 subst h1
 exact⟨λ_=>rfl,s1,e,m1,n1,x1⟩
theorem Lj_ {sz by' n:Nat}{z:List Value}(h:n*(by'+1)<=16777216):SrcG s sz by' true z (.int .i64 (n:Nat)) n (rep n z) Non:=λie _ h2 h3=>by
 subst h2;subst h3
 refine⟨λs'=> ?_,s,rfl,rfl,rfl,Ext.refl s⟩
 show M.chk (Nat.ble (n*(ie.bytes+1)) 16777216) (M.pure n) s'=_
 rw[Nat.ble_eq_true_of_le h]
 rfl
theorem W.appIn {sz by' len n b o c:Nat}{z l:List Value}{x:Value}{F:Nat->Prop}{Q:Value->St->Prop}{g:Bool}(ht:appT E t t2=some (sz,by',g,z))(hx:SrcG s sz by' g z x n l F)(hr:len+n<=c%capU)(hl:l.length=n*sz)(h1:l.all oneCell=true)
  (own: ∀i,i<n*sz-> ∃u,Own s b (o+len*sz+i) u)
  (q: ∀s2,s2.next=s.next->Ext (λx=>F x\/In b (o+len*sz) (n*sz) x) (In b (o+len*sz) (n*sz)) s s2->An s2 b (o+len*sz) l->Q (.slice (some ⟨b,o,none⟩) (len+n) c) s2):W (BS E t t2 (.slice (some ⟨b,o,none⟩) len c) x) s Q:=by
 obtain⟨i,i2,e,ie,g1,g2,g3,g4,g5,g6,g7,g8⟩:=Im ht
 obtain⟨hN,s1,e1,m1,n1,x1⟩:=hx ie g5 g6 g8
 subst g5
 refine W.bind (aR g1 (W.bind (aR g2 ?_)))
 rw[g3,g7]
 refine W.bind (aR g4 (W.bind (W.of (hN s) (W.bind ?_))))
 refine W.of e1 ?_
 show W (aN (Nat.ble (Nat.add len n) (Nat.mod c capU)) _ _) s1 Q
 rw[show Nat.ble (Nat.add len n) (Nat.mod c capU)=true from Nat.ble_eq_true_of_le hr]
 have own1: ∀i,i<l.length-> ∃u,Own s1 b (o+len*ie.size+i) u:=λi hi=>by
  obtain⟨u,hu⟩:=own i (by rw[<-hl];exact hi)
  exact⟨u,hu.same m1 n1⟩
 refine W.bind (m:=Am.wrL l (addA ⟨b,o,none⟩ (Nat.mul len ie.size))) (W.wrL own1 h1 λs2 n2 x2 r2=> ?_)
 show W (Am.fA (⟨b,o,none⟩:Addr) λa=>Am.fN (Nat.add len n) λl=>Am.fN c λc=>M.pure (.slice (some a) l c)) s2 Q
 refine W.fA (W.fN (W.fN (W.pure (q s2 (n2.trans n1) ?_ r2))))
 rw[hl]at x2
 obtain⟨d1,p1,p2⟩:=x1.rd
 obtain⟨d2,p3,p4⟩:=x2.rd
 obtain⟨d3,p5,p6⟩:=x1.wr
 obtain⟨d4,p7,p8⟩:=x2.wr
 refine⟨Nat.le_of_eq (n2.trans n1).symm,x2.lim.trans x1.lim,x2.cx.trans x1.cx,λy q1 q2=>by rw[x2.mem y (by rw[n1];exact q1) q2,m1],⟨d2++d1,by rw[p3,p1,List.append_assoc],λy hy=> ?_⟩,⟨d4++d3,by rw[p7,p5,List.append_assoc],λy hy=> ?_⟩⟩
 ·rcases List.mem_append.1 hy with hy|hy
  ·have:=p4 y hy
   rw[x1.lim]at this
   exact⟨this.1, .inr this.2⟩
  ·exact⟨(p2 y hy).1, .inl (p2 y hy).2⟩
 ·rcases List.mem_append.1 hy with hy|hy
  ·have:=p8 y hy
   rw[x1.lim]at this
   exact this
  ·exact(p6 y hy).2.elim
structure Fresh1 (s s':St)(sz n:Nat)(l:List Value)(v:Value)(b:Nat):Prop where
 val:v= .slice (some ⟨b,0,none⟩) n (capU*((b+n*sz)*1024+sz)+n)
 new:s.next<=b
 own:An s' b 0 l
 len:l.length=n*sz
 tok: ∃q,q%1024=sz/\T.get s'.mem (b+n*sz)=some (.O (.tok false q))
 lt:b+n*sz<s'.next
theorem W.appNilT (hbd:s.lim<=s.next){sz by' n:Nat}{z l:List Value}{x:Value}{F:Nat->Prop}{Q:Value->St->Prop}{g:Bool}(ht:appT E t t2=some (sz,by',g,z))(hx:SrcG s sz by' g z x n l F)(hn:0<n)(hs0:0<sz)(hs1:sz<1024)(hb:n*(by'+1)<=16777216)(hl:l.length=n*sz)(h1:l.all oneCell=true)
  (q: ∀s2 v b,Fresh1 s s2 sz n l v b->T.get s2.mem (b+n*sz)=some (.O (.tok false (flg sz 1 (C5 z))))->Ext F Non s s2->Q v s2):W (BS E t t2 (.slice none 0 0) x) s Q:=by
 obtain⟨i,i2,e,ie,g1,g2,g3,g4,g5,g6,g7,g8⟩:=Im ht
 obtain⟨hN,s1,e1,m1,n1,x1⟩:=hx ie g5 g6 g8
 subst g5;subst g6
 refine W.bind (aR g1 (W.bind (aR g2 ?_)))
 rw[g3,g7]
 refine W.bind (aR g4 (W.bind (W.of (hN s) (W.bind ?_))))
 refine W.of e1 ?_
 show W (aN (Nat.ble (Nat.add 0 n) (Nat.mod 0 capU)) _ _) s1 Q
 have hz:Nat.ble (Nat.add 0 n) (Nat.mod 0 capU)=false:=by
  cases hq:Nat.ble (Nat.add 0 n) (Nat.mod 0 capU)with
  |false=>rfl
  |true=>
   have h2:=Nat.le_of_ble_eq_true hq
   have h3:Nat.mod 0 capU=0:=Nat.zero_mod _
   rw[h3]at h2
   have h4:Nat.add 0 n=n:=Nat.zero_add n
   rw[h4]at h2
   omega
 rw[hz]
 show W (grow ie.size ie.bytes (C5 ie.zero) none 0 0 n l) s1 Q
 rw[g8]
 unfold grow
 refine W.chk ?_ (W.bind (W.pure (W.bind ?_)))
 ·rw[h1,hl,Nat.zero_add]
  simp only[Bool.and_true,Bool.and_eq_true,Bool.or_eq_true]
  refine⟨⟨⟨⟨Nat.ble_eq_true_of_le hb,Bv hs0⟩,Bv hs1⟩, .inr rfl⟩,Nat.beq_refl _⟩
 ·show W (CW ie.size none (Nat.mod 0 capU) (Nat.div 0 capU)) s1 _
  have hd:Nat.div 0 capU=0:=Nat.zero_div _
  rw[hd]
  show W (M.pure 1) s1 _
  refine W.pure (W.bind (W.newL λs2 n2 x2 r2=>W.fN (W.fN (W.bind (W.wrC ?_ ?_)))))
  ·rw[n2,n1]
   simp only[Nat.add_eq,Nat.mul_eq,Nat.zero_mul,List.take_zero,List.nil_append,hl,Nat.zero_add]
   omega
  ·show W (Am.fA (⟨s1.next,0,none⟩:Addr) λa=>Am.fN (Nat.add 0 n) λl=>Am.fN _ λc=>M.pure (.slice (some a) l c)) _ Q
   have hlen:([].take (Nat.mul 0 ie.size)++l:List Value)=l:=by simp
   rw[hlen]at n2 r2
   have hadd:Nat.add 0 n=n:=Nat.zero_add n
   have htok: ∀c:Cell,T.get (T.set s2.mem (Nat.add s1.next (Nat.mul (Nat.add 0 n) ie.size)) c) (s1.next+n*ie.size)=some c:=λc=>by
    rw[hadd,T.get_set]
    exact if_pos rfl
   refine W.fA (W.fN (W.fN (W.pure (q _ _ s1.next ⟨?_,Nat.le_of_eq n1.symm, ?_,hl,⟨_,HK hs1,htok _⟩, ?_⟩ (htok _) ?_))))
   ·rw[hadd]
    rfl
   ·intro k v hk
    have hk':=(List.getElem?_eq_some_iff.1 hk).1
    have:=r2 k v hk
    refine⟨this.1, ?_⟩
    show T.get (T.set s2.mem _ _) _=_
    rw[T.get_set,if_neg]
    ·exact this.2
    ·rw[hadd]
     show s1.next+(0+k)≠s1.next+n*ie.size
     omega
   ·show s1.next+n*ie.size<s2.next
    rw[n2,hl]
    omega
   ·obtain⟨d1,p1,p2⟩:=x1.rd
    obtain⟨d2,p3,p4⟩:=x2.rd
    obtain⟨d3,p5,p6⟩:=x1.wr
    obtain⟨d4,p7,p8⟩:=x2.wr
    obtain⟨d5,p9,p10⟩:=Gr (Nat.add s1.next (Nat.mul (Nat.add 0 n) ie.size)) s2.lim s2.wr
    refine⟨?_,x2.lim.trans x1.lim,x2.cx.trans x1.cx,λy q1 q2=> ?_,⟨d2++d1, ?_, ?_⟩,⟨[], ?_,λ_ h=>by cases h⟩⟩
    ·show s.next<=s2.next
     rw[n2,n1];omega
    ·show T.get (T.set s2.mem _ _) y=_
     rw[T.get_set,if_neg,x2.mem y (by rw[n1];exact q1) id,m1]
     rw[hadd]
     show y≠s1.next+n*ie.size
     rw[n1];omega
    ·show s2.rd=_
     rw[p3,p1,List.append_assoc]
    ·intro y hy
     rcases List.mem_append.1 hy with hy|hy
     ·exact(p4 y hy).2.elim
     ·exact p2 y hy
    ·show notes _ s2.lim s2.wr=s.wr
     have e1:s2.wr=s.wr:=by
      have h5:d3=[]:=by
       cases d3 with
       |nil=>rfl
       |cons y l=>exact(p6 y (by simp)).2.elim
      have h7:d4=[]:=by
       cases d4 with
       |nil=>rfl
       |cons y l=>exact(p8 y (by simp)).2.elim
      rw[p7,p5,h5,h7];rfl
     unfold notes
     rw[HI,e1]
     show s2.lim<=s1.next+Nat.mul (Nat.add 0 n) ie.size
     rw[x2.lim,x1.lim,n1]
     omega
theorem W.appNil (hbd:s.lim<=s.next){sz by' n:Nat}{z l:List Value}{x:Value}{F:Nat->Prop}{Q:Value->St->Prop}{g:Bool}(ht:appT E t t2=some (sz,by',g,z))(hx:SrcG s sz by' g z x n l F)(hn:0<n)(hs0:0<sz)(hs1:sz<1024)(hb:n*(by'+1)<=16777216)(hl:l.length=n*sz)(h1:l.all oneCell=true)
 (q: ∀s2 v b,Fresh1 s s2 sz n l v b->Ext F Non s s2->Q v s2):W (BS E t t2 (.slice none 0 0) x) s Q:=W.appNilT hbd ht hx hn hs0 hs1 hb hl h1 λs2 v b f _ x=>q s2 v b f x
theorem W.appEmpT (hbd:s.lim<=s.next){sz by' n b0 o0:Nat}{z l:List Value}{x:Value}{F:Nat->Prop}{Q:Value->St->Prop}{g:Bool}(ht:appT E t t2=some (sz,by',g,z))(hx:SrcG s sz by' g z x n l F)(hn:0<n)(hs0:0<sz)(hs1:sz<1024)(hb:n*(by'+1)<=16777216)(hl:l.length=n*sz)(h1:l.all oneCell=true)
  (q: ∀s2 v b,Fresh1 s s2 sz n l v b->T.get s2.mem (b+n*sz)=some (.O (.tok false (flg sz 1 (C5 z))))->Ext F Non s s2->Q v s2):W (BS E t t2 (.slice (some ⟨b0,o0,none⟩) 0 0) x) s Q:=by
 obtain⟨i,i2,e,ie,g1,g2,g3,g4,g5,g6,g7,g8⟩:=Im ht
 obtain⟨hN,s1,e1,m1,n1,x1⟩:=hx ie g5 g6 g8
 subst g5;subst g6
 refine W.bind (aR g1 (W.bind (aR g2 ?_)))
 rw[g3,g7]
 refine W.bind (aR g4 (W.bind (W.of (hN s) (W.bind ?_))))
 refine W.of e1 ?_
 show W (aN (Nat.ble (Nat.add 0 n) (Nat.mod 0 capU)) _ _) s1 Q
 have hz:Nat.ble (Nat.add 0 n) (Nat.mod 0 capU)=false:=by
  cases hq:Nat.ble (Nat.add 0 n) (Nat.mod 0 capU)with
  |false=>rfl
  |true=>
   have h2:=Nat.le_of_ble_eq_true hq
   have h3:Nat.mod 0 capU=0:=Nat.zero_mod _
   rw[h3]at h2
   have h4:Nat.add 0 n=n:=Nat.zero_add n
   rw[h4]at h2
   omega
 rw[hz]
 show W (grow ie.size ie.bytes (C5 ie.zero) (some ⟨b0,o0,none⟩) 0 0 n l) s1 Q
 rw[g8]
 unfold grow
 have hold:oldL ie.size (some ⟨b0,o0,none⟩) (Bool.rec (motive:=λ_=>Nat) (Nat.mod 0 capU) 0 (Nat.beq (Nat.div 0 capU) 0)) s1= .some [] s1:=by
  have hd:Nat.div 0 capU=0:=Nat.zero_div _
  rw[hd]
  show Am.rdL (0*ie.size) ⟨b0,o0,none⟩ s1=_
  rw[Nat.zero_mul]
  rfl
 refine W.chk ?_ (W.bind (W.of hold (W.bind ?_)))
 ·rw[h1,hl,Nat.zero_add]
  simp only[Bool.and_true,Bool.and_eq_true,Bool.or_eq_true]
  refine⟨⟨⟨⟨Nat.ble_eq_true_of_le hb,Bv hs0⟩,Bv hs1⟩, .inr rfl⟩,Nat.beq_refl _⟩
 ·show W (CW ie.size (some ⟨b0,o0,none⟩) (Nat.mod 0 capU) (Nat.div 0 capU)) s1 _
  have hd:Nat.div 0 capU=0:=Nat.zero_div _
  rw[hd]
  show W (M.pure 1) s1 _
  refine W.pure (W.bind (W.newL λs2 n2 x2 r2=>W.fN (W.fN (W.bind (W.wrC ?_ ?_)))))
  ·rw[n2,n1]
   simp only[Nat.add_eq,Nat.mul_eq,Nat.zero_mul,List.take_zero,List.nil_append,hl,Nat.zero_add]
   omega
  ·show W (Am.fA (⟨s1.next,0,none⟩:Addr) λa=>Am.fN (Nat.add 0 n) λl=>Am.fN _ λc=>M.pure (.slice (some a) l c)) _ Q
   have hlen:([].take (Nat.mul 0 ie.size)++l:List Value)=l:=by simp
   rw[hlen]at n2 r2
   have hadd:Nat.add 0 n=n:=Nat.zero_add n
   have htok: ∀c:Cell,T.get (T.set s2.mem (Nat.add s1.next (Nat.mul (Nat.add 0 n) ie.size)) c) (s1.next+n*ie.size)=some c:=λc=>by
    rw[hadd,T.get_set]
    exact if_pos rfl
   refine W.fA (W.fN (W.fN (W.pure (q _ _ s1.next ⟨?_,Nat.le_of_eq n1.symm, ?_,hl,⟨_,HK hs1,htok _⟩, ?_⟩ (htok _) ?_))))
   ·rw[hadd]
    rfl
   ·intro k v hk
    have hk':=(List.getElem?_eq_some_iff.1 hk).1
    have:=r2 k v hk
    refine⟨this.1, ?_⟩
    show T.get (T.set s2.mem _ _) _=_
    rw[T.get_set,if_neg]
    ·exact this.2
    ·rw[hadd]
     show s1.next+(0+k)≠s1.next+n*ie.size
     omega
   ·show s1.next+n*ie.size<s2.next
    rw[n2,hl]
    omega
   ·obtain⟨d1,p1,p2⟩:=x1.rd
    obtain⟨d2,p3,p4⟩:=x2.rd
    obtain⟨d3,p5,p6⟩:=x1.wr
    obtain⟨d4,p7,p8⟩:=x2.wr
    obtain⟨d5,p9,p10⟩:=Gr (Nat.add s1.next (Nat.mul (Nat.add 0 n) ie.size)) s2.lim s2.wr
    refine⟨?_,x2.lim.trans x1.lim,x2.cx.trans x1.cx,λy q1 q2=> ?_,⟨d2++d1, ?_, ?_⟩,⟨[], ?_,λ_ h=>by cases h⟩⟩
    ·show s.next<=s2.next
     rw[n2,n1];omega
    ·show T.get (T.set s2.mem _ _) y=_
     rw[T.get_set,if_neg,x2.mem y (by rw[n1];exact q1) id,m1]
     rw[hadd]
     show y≠s1.next+n*ie.size
     rw[n1];omega
    ·show s2.rd=_
     rw[p3,p1,List.append_assoc]
    ·intro y hy
     rcases List.mem_append.1 hy with hy|hy
     ·exact(p4 y hy).2.elim
     ·exact p2 y hy
    ·show notes _ s2.lim s2.wr=s.wr
     have e1:s2.wr=s.wr:=by
      have h5:d3=[]:=by
       cases d3 with
       |nil=>rfl
       |cons y l=>exact(p6 y (by simp)).2.elim
      have h7:d4=[]:=by
       cases d4 with
       |nil=>rfl
       |cons y l=>exact(p8 y (by simp)).2.elim
      rw[p7,p5,h5,h7];rfl
     unfold notes
     rw[HI,e1]
     show s2.lim<=s1.next+Nat.mul (Nat.add 0 n) ie.size
     rw[x2.lim,x1.lim,n1]
     omega
theorem W.appEmp (hbd:s.lim<=s.next){sz by' n b0 o0:Nat}{z l:List Value}{x:Value}{F:Nat->Prop}{Q:Value->St->Prop}{g:Bool}(ht:appT E t t2=some (sz,by',g,z))(hx:SrcG s sz by' g z x n l F)(hn:0<n)(hs0:0<sz)(hs1:sz<1024)(hb:n*(by'+1)<=16777216)(hl:l.length=n*sz)(h1:l.all oneCell=true)
 (q: ∀s2 v b,Fresh1 s s2 sz n l v b->Ext F Non s s2->Q v s2):W (BS E t t2 (.slice (some ⟨b0,o0,none⟩) 0 0) x) s Q:=W.appEmpT hbd ht hx hn hs0 hs1 hb hl h1 λs2 v b f _ x=>q s2 v b f x
end
def bndV (o:Option Value)(d:Nat):Option Nat:=match o with
 |none=>some d
 |some (.int _ (.ofNat n))=>some n
 |_=>none
section
variable {α β:Type}{s:St}{E:Env}{t t2:Nat}
theorem KB {o:Option Value}{top d n:Nat}(h:bndV o d=some n)(ht:n<=top):bnd o top d s= .some n s:=by
 unfold bndV at h
 split at h
 ·cases h;rfl
 ·cases h
  show M.chk (Nat.ble n top) (M.pure n) s=_
  rw[Nat.ble_eq_true_of_le ht]
  rfl
 ·cases h
theorem NH {sz len c b o l h:Nat}{lo hi:Option Value}(ht:slN E t=some sz)(hlo:bndV lo 0=some l)(hhi:bndV hi len=some h)(hl:l<=h)(hc:h<=c%capU)(hs:BH c sz=true)(Q:Value->St->Prop):
  W (Bz E t (.slice (some ⟨b,o,none⟩) len c) lo hi) s Q=Q (.slice (some ⟨b,if l<c%capU then o+l*sz else o,none⟩) (h-l) (c-l)) s:=by
 obtain⟨i,e,ie,h1,h2,h3,h4⟩:=Ge ht
 subst h4
 refine AJ ?_
 unfold Bz
 rw[Ba (show ti E t s= .some i s by unfold ti;rw[h1];rfl)]
 simp only[h2]
 rw[Ba (show ti E e s= .some ie s by unfold ti;rw[h3];rfl)]
 unfold slSl
 show M.bind (bnd hi (c%capU) len) _ s=_
 rw[Ba (KB hhi hc),Ba (KB hlo hl),hs]
 show pSl _ _ _ s=_
 unfold pSl
 rw[Cq,Ao,Ao]
 show R.some _ s=_
 by_cases hq:l<c%capU
 ·rw[if_pos hq,show Nat.blt l (Nat.mod c capU)=true from Bv hq]
  rfl
 ·rw[if_neg hq,show Nat.blt l (Nat.mod c capU)=false from HI (Nat.le_of_not_lt hq)]
  rfl
theorem Pj_ {c l sz:Nat}(h:l<=c%capU)(hs:BH c sz=true):BH (c-l) sz=true:=by
 unfold BH at *
 show Bool.rec (motive:=λ_=>Bool) (Nat.beq (Nat.mod ((c-l)/capU) 1024) sz) true (Nat.beq ((c-l)/capU) 0)=true
 rw[(Kq h).1]
 exact hs
theorem NE {c sz:Nat}(h:c<capU):BH c sz=true:=by
 unfold BH
 show Bool.rec (motive:=λ_=>Bool) (Nat.beq (Nat.mod (c/capU) 1024) sz) true (Nat.beq (c/capU) 0)=true
 rw[Nat.div_eq_of_lt h]
 rfl
theorem Bs.sub' {b o c i j:Nat}{l:List Nat}(hij:i<=j)(hj:j<=l.length)(h1:l.length<=c%capU)(h2:BH c 1=true)(h3:Row s b o (u8l l)):
  ∃o',(.slice (some ⟨b,if i<c%capU then o+i*1 else o,none⟩) (j-i) (c-i):Value)= .slice (some ⟨b,o',none⟩) ((l.take j).drop i).length (c-i)/\((l.take j).drop i).length<=(c-i)%capU/\BH (c-i) 1=true/\Row s b o' (u8l ((l.take j).drop i))/\(o'=o+i\/((l.take j).drop i).length=0):=by
 have hlen:((l.take j).drop i).length=j-i:=by rw[List.length_drop,List.length_take];omega
 refine⟨_,by rw[hlen], ?_,Pj_ (by omega) h2, ?_, ?_⟩
 ·rw[hlen,(Kq (by omega)).2]
  omega
 ·by_cases hq:i<c%capU
  ·rw[if_pos hq,Nat.mul_one]
   have:=(h3.take (n:=j)).drop (n:=i)
   rw[<-List.map_take,<-List.map_drop]at this
   exact this
  ·have h0:(l.take j).drop i=[]:=List.eq_nil_of_length_eq_zero (by rw[hlen];omega)
   rw[h0]
   intro k v e
   simp at e
 ·by_cases hq:i<c%capU
  ·left;rw[if_pos hq,Nat.mul_one]
  ·right;rw[hlen];omega
theorem aQ (hbd:s.lim<=s.next){sz by' len:Nat}{z r:List Value}{ps:List (Nat×Value)}{Q:Value->St->Prop}(ht:elT E t=some (sz,by',z))(h1:len*sz<=16777216)(hr:CK (λk=>some (k*sz,sz)) ps (rep len z)=some r)(h2:len<capU)
  (q: ∀s2,s2.next=s.next+r.length+1->Ext Non Non s s2->An s2 s.next 0 r->Q (.slice (some ⟨s.next,0,none⟩) len len) s2):W (BY E t len ps) s Q:=by
 obtain⟨i,e,ie,g1,g2,g3,g4,g5,g6⟩:=PW ht
 subst g4;subst g6
 refine W.bind (aR g1 ?_)
 rw[g2]
 refine W.bind (aR g3 (W.chk ?_ (W.bind (W.ofOpt hr (W.bind (W.newL λs2 n2 x2 r2=>W.bind (W.wrC ?_ (W.pure (q _ n2 ?_ ?_)))))))))
 ·rw[Bool.and_eq_true]
  exact⟨Nat.ble_eq_true_of_le h1,Bv h2⟩
 ·show s.next+r.length<s2.next
  omega
 ·obtain⟨d2,p3,p4⟩:=x2.rd
  obtain⟨d4,p7,p8⟩:=x2.wr
  refine⟨x2.nxt,x2.lim,x2.cx,λy q1 q2=> ?_,⟨d2,p3,p4⟩,⟨d4, ?_,p8⟩⟩
  ·show T.get (T.set s2.mem _ _) y=_
   rw[T.get_set,if_neg,x2.mem y q1 q2]
   show y≠s.next+r.length
   omega
  ·show notes _ s2.lim s2.wr=_
   unfold notes
   rw[HI]
   ·exact p7
   ·show s2.lim<=s.next+r.length
    rw[x2.lim];omega
 ·intro k v hk
  have hk':=(List.getElem?_eq_some_iff.1 hk).1
  have:=r2 k v hk
  refine⟨this.1, ?_⟩
  show T.get (T.set s2.mem _ _) _=_
  rw[T.get_set,if_neg]
  ·exact this.2
  ·show s.next+(0+k)≠s.next+r.length
   omega
theorem W.copy {sz by' b o n c m k:Nat}{z l:List Value}{p:Option Addr}{c2:Nat}{F:Nat->Prop}{Q:Value->St->Prop}(ht:elT E t=some (sz,by',z))(hk:k=Nat.min n m)
  (hx: ∃s1,srcL sz (.slice p m c2) k s= .some l s1/\s1.mem=s.mem/\s1.next=s.next/\Ext F Non s s1) (hl:l.length=k*sz) (h1:l.all oneCell=true) (own: ∀i,i<k*sz-> ∃u,Own s b (o+i) u)
  (q: ∀s2,s2.next=s.next->Ext (λx=>F x\/In b o (k*sz) x) (In b o (k*sz)) s s2->An s2 b o l->Q (.int .i64 (k:Nat)) s2):W (A8 E .copy [t,t2] [.slice (some ⟨b,o,none⟩) n c, .slice p m c2]) s Q:=by
 obtain⟨i,e,ie,g1,g2,g3,g4,g5,g6⟩:=PW ht
 obtain⟨s1,e1,m1,n1,x1⟩:=hx
 subst g4
 show W (ER E t (some ⟨b,o,none⟩) n (.slice p m c2)) s Q
 refine W.bind (aR g1 ?_)
 rw[g2]
 refine W.bind (aR g3 (W.bind (W.pure ?_)))
 refine W.fN ?_
 rw[<-hk]
 refine W.bind (W.of e1 ?_)
 have own1: ∀i,i<l.length-> ∃u,Own s1 b (o+i) u:=λi hi=>by
  obtain⟨u,hu⟩:=own i (by rw[<-hl];exact hi)
  exact⟨u,hu.same m1 n1⟩
 refine W.bind (m:=Am.wrL l ⟨b,o,none⟩) (W.wrL own1 h1 λs2 n2 x2 r2=> ?_)
 show W (Am.fN k λn=>M.pure (.int .i64 (.ofNat n))) s2 Q
 refine W.fN (W.pure (q s2 (n2.trans n1) ?_ r2))
 rw[hl]at x2
 obtain⟨d1,p1,p2⟩:=x1.rd
 obtain⟨d2,p3,p4⟩:=x2.rd
 obtain⟨d3,p5,p6⟩:=x1.wr
 obtain⟨d4,p7,p8⟩:=x2.wr
 refine⟨Nat.le_of_eq (n2.trans n1).symm,x2.lim.trans x1.lim,x2.cx.trans x1.cx,λy q1 q2=>by rw[x2.mem y (by rw[n1];exact q1) q2,m1],⟨d2++d1,by rw[p3,p1,List.append_assoc],λy hy=> ?_⟩,⟨d4++d3,by rw[p7,p5,List.append_assoc],λy hy=> ?_⟩⟩
 ·rcases List.mem_append.1 hy with hy|hy
  ·have:=p4 y hy
   rw[x1.lim]at this
   exact⟨this.1, .inr this.2⟩
  ·exact⟨(p2 y hy).1, .inl (p2 y hy).2⟩
 ·rcases List.mem_append.1 hy with hy|hy
  ·have:=p8 y hy
   rw[x1.lim]at this
   exact this
  ·exact(p6 y hy).2.elim
theorem TL {sz:Nat}{lo hi:Option Value}(ht:slN E t=some sz)(hlo:bndV lo 0=some 0)(hhi:bndV hi 0=some 0)(Q:Value->St->Prop):W (Bz E t (.slice none 0 0) lo hi) s Q=Q (.slice none 0 0) s:=by
 obtain⟨i,e,ie,h1,h2,h3,h4⟩:=Ge ht
 refine AJ ?_
 unfold Bz
 rw[Ba (show ti E t s= .some i s by unfold ti;rw[h1];rfl)]
 simp only[h2]
 rw[Ba (show ti E e s= .some ie s by unfold ti;rw[h3];rfl),Ba (KB hhi (Nat.le_refl 0)),Ba (KB hlo (Nat.le_refl 0))]
 rfl
theorem HP {q N:Nat}(h:N<capU):(capU*q+N)%capU=N:=(enc (q:=q) h).2
theorem FX {m sz N:Nat}(h:N<capU)(h1:sz<1024):BH (capU*(m*1024+sz)+N) sz=true:=by
 unfold BH
 show Bool.rec (motive:=λ_=>Bool) (Nat.beq (Nat.mod ((capU*(m*1024+sz)+N)/capU) 1024) sz) true (Nat.beq ((capU*(m*1024+sz)+N)/capU) 0)=true
 rw[(enc h).1]
 have:Nat.mod (m*1024+sz) 1024=sz:=by show(m*1024+sz)%1024=sz;omega
 rw[this,Nat.beq_refl]
 cases Nat.beq (m*1024+sz) 0<;>rfl
theorem H1 {v x:Value}(Q:Value->St->Prop):W (A8 E .append [t,t2] [v,x]) s Q=W (BS E t t2 v x) s Q:=propext Iff.rfl
theorem Ext.step {F F' G':Nat->Prop}{s s1 s2:St}(h:Ext F Non s s1)(k:Ext F' G' s1 s2)(hb:s.lim<=s.next)(hF: ∀l,l<s.lim->F' l->F l)(hG: ∀l,G' l->s.next<=l):Ext F Non s s2:=
 h.trans k hb hF λl hl hg=>absurd (hG l hg) (Nat.not_le_of_lt hl)
theorem An.append {b o:Nat}{l l':List Value}(h:An s b o l)(k:An s b (o+l.length) l'):An s b o (l++l'):=λi v e=>by
 by_cases hi:i<l.length
 ·rw[List.getElem?_append_left hi]at e
  exact h i v e
 ·rw[List.getElem?_append_right (by omega)]at e
  have:=k _ v e
  rw[show o+l.length+(i-l.length)=o+i by omega]at this
  exact this
def Fj (s:St)(b o n:Nat):Prop:= ∀j,j<n-> ∃u,Own s b (o+j) u
theorem An.owned {b o:Nat}{l:List Value}(h:An s b o l):Fj s b o l.length:=λj hj=>⟨l[j],h j _ (List.getElem?_eq_getElem hj)⟩
theorem Fj.ext {F:Nat->Prop}{b o n a:Nat}{l:List Value}{s2:St}(h:Fj s b o n)(e:Ext F (In b a l.length) s s2)(k:An s2 b a l):Fj s2 b o n:=λj hj=>by
 by_cases hq:In b a l.length (b+(o+j))
 ·obtain⟨h1,h2⟩:=hq
  have hi:o+j-a<l.length:=by omega
  refine⟨l[o+j-a], ?_⟩
  have:=k (o+j-a) (l[o+j-a]) (List.getElem?_eq_getElem hi)
  rw[show a+(o+j-a)=o+j by omega]at this
  exact this
 ·obtain⟨u,hu⟩:=h j hj
  exact⟨u,hu.ext e hq⟩
theorem Bs.src {v:Value}{l:List Nat}(h:Bs s v l):Src s 1 v l.length (u8l l) (BsF v):=by
 rcases h with⟨rfl,rfl⟩|⟨b,o,c,rfl,_,_,h3⟩
 ·exact KI_
 ·have:=XV (s:=s) (sz:=1) (n:=l.length) (c:=c) h3 (by rw[BU,Nat.mul_one])
  rw[Nat.mul_one]at this
  exact this
theorem FO (l:List Nat):(u8l l).all oneCell=true:=by
 rw[List.all_eq_true]
 intro x hx
 obtain⟨n,_,rfl⟩:=List.mem_map.1 hx
 rfl
theorem Of_ (k kk:IntKind)(m n:Nat)(hn:n<=btOf k)(xo yo:Operand):Cl.get (aBin E .shr t xo yo) (.int k (m:Nat)) (.int kk (n:Nat)) s= .some (.int k (m>>>n:Nat)) s:=by
 show int3 shrK (AS E .shr t xo yo) (.int k (.ofNat m)) (.int kk (.ofNat n)) s=_
 show Option.rec (motive:=λ_=>R Value) _ (λv=> .some v s) (shrK k kk m n)=_
 have:shrK k kk m n=some (.int k (m>>>n:Nat)):=by
  unfold shrK
  rw[Nat.ble_eq_true_of_le hn]
  show mkI k (Nat.shiftRight m n)=_
  unfold mkI
  rw[Ao]
  rfl
 rw[this]
theorem NQ {k kk:IntKind}{m n:Nat}{xo yo:Operand}(hn:n<=btOf k)(Q:Value->St->Prop):W (Cl.get (aBin E .shr t xo yo) (.int k (m:Nat)) (.int kk (n:Nat))) s Q=Q (.int k (m>>>n:Nat)) s:=AJ (Of_ k kk m n hn xo yo)
theorem Ye {k kk:IntKind}{m:Nat}{xo yo:Operand}(hn:8<=btOf k)(Q:Value->St->Prop):W (Cl.get (aBin E .shr t xo yo) (.int k (m:Nat)) (.int kk 8)) s Q=Q (.int k (m>>>8:Nat)) s:=NQ (n:=8) hn Q
theorem FL_ {k kk:IntKind}{m:Nat}{xo yo:Operand}(hn:16<=btOf k)(Q:Value->St->Prop):W (Cl.get (aBin E .shr t xo yo) (.int k (m:Nat)) (.int kk 16)) s Q=Q (.int k (m>>>16:Nat)) s:=NQ (n:=16) hn Q
theorem Ib_ {k kk:IntKind}{m:Nat}{xo yo:Operand}(hn:24<=btOf k)(Q:Value->St->Prop):W (Cl.get (aBin E .shr t xo yo) (.int k (m:Nat)) (.int kk 24)) s Q=Q (.int k (m>>>24:Nat)) s:=NQ (n:=24) hn Q
theorem wrap_u8 (n:Nat):IntKind.u8.wrap (n:Int)=((n%256:Nat):Int):=by
 have e:IntKind.u8.wrap (n:Int)=(n:Int)%256:=by unfold IntKind.wrap;simp[IntKind.bits,IntKind.signed]
 rw[e]
 omega
theorem An.bn {b:Nat}{l:List Nat}(h:An s b 0 (u8l l))(hl:l.length<capU):Bs s (.slice (some ⟨b,0,none⟩) l.length l.length) l:=
 .inr ⟨b,0,l.length,rfl,by rw[Nat.mod_eq_of_lt hl];exact Nat.le_refl _,NE hl,h.row⟩
theorem Af {γ:Type}(a:α)(f:α->M γ):oS (some a) f=f a:=rfl
theorem C6 {γ:Type}(a:α)(f:α->M γ):M.on (some a) f=f a:=rfl
theorem AcH_ {m:M α}{v:α}(h: ∀(s:St) (Q:α->St->Prop),W m s Q=Q v s)(s:St):m s= .some v s:=by
 have:W m s λa s'=>a=v/\s'=s:=by rw[h];exact⟨rfl,rfl⟩
 obtain⟨a,s',e,rfl,rfl⟩:=this
 exact e
theorem W_dq {γ:Type}{m:M α}{v:α}{f:α×OpLog->M γ}{mem:T Cell}{next:Nat}{Q:γ->St->Prop}(h: ∀(s:St) (Q:α->St->Prop),W m s Q=Q v s):W (M.bind (apartO m) f) (dSt mem next) Q=W (f (v,⟨next,next,[],[]⟩)) (dSt mem next) Q:=by
 rw[Jw]
 refine AJ ?_
 show Am.apartO m ⟨mem,next,0,[],[], .no⟩=_
 unfold Am.apartO
 have e:=AcH_ h ⟨mem,next,next,[],[], .no⟩
 simp only[e]
 rfl
theorem A6 {γ:Type}(v:α)(f:α×OpLog->M γ)(mem:T Cell)(next:Nat)(Q:γ->St->Prop):W (M.bind (apartO (M.pure v)) f) (dSt mem next) Q=W (f (v,⟨next,next,[],[]⟩)) (dSt mem next) Q:=W_dq λ_ _=>AY _ _
theorem aE {γ:Type}{b o:Nat}{v:Value}{f:Value×OpLog->M γ}{mem:T Cell}{next:Nat}{Q:γ->St->Prop}(ht:tyS E t=some (1,false))(h:At (dSt mem next) b o v)
  (k: ∀rd:List Nat,(∀x∈rd,x=b+o)->W (f (v,⟨next,next,rd,[]⟩)) (dSt mem next) Q):W (M.bind (apartO (AQ E t (.pointer (some ⟨b,o,none⟩)))) f) (dSt mem next) Q:=by
 refine aV (aB ht (h.same rfl rfl) ⟨λx=>x=b+o,Ext.rdN _ _ λ_=>rfl,λrd hr=>k rd λx hx=>(hr x hx).2⟩)
theorem Df {n0:Nat}{l:List OpLog}{bef:List Nat}(hl:l.length<=bef.length)(h: ∀m∈l,m.wr=[]/\m.lo=m.hi):Bt n0 l bef=true:=
 YC hl (λk m b e1 _=>⟨(h m (List.mem_of_getElem? e1)).1,λi a _ e3=> .inr λx _ _ hx=>by have:=(h a (List.mem_of_getElem? e3)).2;omega⟩) λm hm=>(h m hm).1
theorem neqU (k:IntKind)(hk:Dk k=false)(m n:Nat)(xo yo:Operand):Cl.get (aBin E .neq t xo yo) (.int k (m:Nat)) (.int k (n:Nat)) s= .some (.bool (!decide (m=n))) s:=by
 show int2 _ (int3 (cmpK λm n=> !Nat.beq m n) (AS E .neq t xo yo)) (.int k (.ofNat m)) (.int k (.ofNat n)) s=_
 unfold int2
 simp only[BR,hk]
 show Option.rec (motive:=λ_=>R Value) _ (λv=> .some v s) (cmpK (λm n=> !Nat.beq m n) k k m n)=_
 have:cmpK (λm n=> !Nat.beq m n) k k m n=some (.bool (!decide (m=n))):=by
  unfold cmpK Cg
  rw[Nat.beq_refl]
  show mkB (!Nat.beq m n)=_
  by_cases h:m=n
  ·rw[h,Nat.beq_refl];simp;rfl
  ·have:Nat.beq m n=false:=by
    cases e:Nat.beq m n with
    |false=>rfl
    |true=>exact absurd (Nat.eq_of_beq_eq_true e) h
   rw[this];simp[h];rfl
 rw[this]
theorem Sm_ {m n:Nat}{xo yo:Operand}(Q:Value->St->Prop):W (Cl.get (aBin E .neq t xo yo) (.int .u8 (m:Nat)) (.int .u8 (n:Nat))) s Q=Q (.bool (!decide (m=n))) s:=AJ (neqU .u8 rfl m n xo yo)
theorem AaP_ {sz n b o c:Nat}{xo yo:Operand}(h:slN E t=some sz):Cl.get (aBin E .eql t xo yo) (.slice (some ⟨b,o,none⟩) n c) (.slice none 0 0) s= .some (.bool false) s:=by
 obtain⟨i,e,ie,h1,h2,h3,h4⟩:=Ge h
 show CP E .eql t (.slice (some ⟨b,o,none⟩) n c) (.slice none 0 0) s=_
 unfold CP
 rw[Ba (show ti E t s= .some i s by unfold ti;rw[h1];rfl),h2]
 rfl
theorem Acz_ {sz n b o c:Nat}{xo yo:Operand}(h:slN E t=some sz)(Q:Value->St->Prop):W (Cl.get (aBin E .eql t xo yo) (.slice (some ⟨b,o,none⟩) n c) (.slice none 0 0)) s Q=Q (.bool false) s:=AJ (AaP_ h)
theorem BN (b:Bool)(P:Program)(Q:Value->St->Prop):W (kUn P .not (.bool b)) s Q=Q (.bool (!b)) s:=AJ (by show rB (!b) s=_;exact Fi _ _)
def ptrT (E:Env)(t:Nat):Bool:=match T.get E.ty t with|some i=>(match i.u with| .pointer _=>true|_=>false)|none=>false
theorem JE_ {a:Addr}{xo yo:Operand}(h:ptrT E t=true):Cl.get (aBin E .eql t xo yo) (.pointer (some a)) (.pointer none) s= .some (.bool false) s:=by
 unfold ptrT at h
 split at h
 ·rename_i i hi
  split at h
  ·rename_i e hu
   show CP E .eql t (.pointer (some a)) (.pointer none) s=_
   unfold CP
   rw[Ba (show ti E t s= .some i s by unfold ti;rw[hi];rfl),hu]
   rfl
  ·cases h
 ·cases h
theorem Dj {a:Addr}{xo yo:Operand}(h:ptrT E t=true)(Q:Value->St->Prop):W (Cl.get (aBin E .eql t xo yo) (.pointer (some a)) (.pointer none)) s Q=Q (.bool false) s:=AJ (JE_ h)
theorem Ox_ (m n:Nat)(hn:1<=n)(xo yo:Operand):Cl.get (aBin E .rem t xo yo) (.int .i64 (m:Nat)) (.int .i64 (n:Nat)) s= .some (.int .i64 (m%n:Nat)) s:=by
 show int3 remK (AS E .rem t xo yo) (.int .i64 (.ofNat m)) (.int .i64 (.ofNat n)) s=_
 show Option.rec (motive:=λ_=>R Value) _ (λv=> .some v s) (remK .i64 .i64 m n)=_
 have:remK .i64 .i64 m n=some (.int .i64 (m%n:Nat)):=by
  unfold remK Cg
  rw[Nat.beq_refl,Nat.ble_eq_true_of_le hn]
  show mkI .i64 (Nat.mod m n)=_
  unfold mkI
  rw[Ao]
  rfl
 rw[this]
theorem BW {n:Nat}(h:n<=1073741824):n<capU:=by unfold capU;omega
theorem KS {sz:Nat}(h:slN E t=some sz)(Q:Value->St->Prop):W (A8 E .cap [t] [.slice none 0 0]) s Q=Q (.int .i64 ((0:Nat):Int)) s:=by
 obtain⟨i,e,ie,h1,h2,h3,h4⟩:=Ge h
 refine AJ ?_
 show aCap E t (.slice none 0 0) s=_
 unfold aCap
 rw[Ba (show ti E t s= .some i s by unfold ti;rw[h1];rfl)]
 simp only[h2]
 rw[Bv KE]
 rfl
end
open Go.RowKit Go.ChangeShapes Go.WideShapes
structure OldSt (w:World)(m:T Cell)(nx:Nat)(r:Inj):Prop where
 ho: ∀loc c,T.get m loc=some c->loc<nx/\ ∃b v,c= .O (.old b v)/\ ∃b' d v',b<=loc/\r.blk b=some (b',d)/\w.cell? ⟨b',loc-b+d,none⟩=some v'/\VR r v v'
 hd: ∀b b' d,r.blk b=some (b',d)->b<nx/\b'<w.heap.size
 hx: ∀b,r.ext b=none
 hk:r.known= .no
structure Grow (m:T Cell)(nx:Nat)(r:Inj)(m':T Cell)(nx':Nat)(r':Inj):Prop where
 le:r.le r'
 nle:nx<=nx'
 mem: ∀l,l<nx->T.get m' l=T.get m l
theorem Grow.refl (m:T Cell)(nx:Nat)(r:Inj):Grow m nx r m nx r:=⟨Inj.le_refl r,Nat.le_refl _,λ_ _=>rfl⟩
theorem Grow.trans {m m' m'':T Cell}{nx nx' nx'':Nat}{r r' r'':Inj}(h:Grow m nx r m' nx' r')(k:Grow m' nx' r' m'' nx'' r''):Grow m nx r m'' nx'' r'':=
 ⟨Inj.le_trans h.le k.le,Nat.le_trans h.nle k.nle,λl hl=>(k.mem l (Nat.lt_of_lt_of_le hl h.nle)).trans (h.mem l hl)⟩
def stO (m:T Cell)(nx:Nat):St:=⟨m,nx,0,[],[], .no⟩
theorem Grow.row {m m':T Cell}{nx nx':Nat}{r r':Inj}(g:Grow m nx r m' nx' r'){b o:Nat}{l:List Value}(h:Row (stO m nx) b o l):Row (stO m' nx') b o l:=λi v e=>by
 have hl:b+(o+i)<nx:=(h i v e).1
 refine⟨Nat.lt_of_lt_of_le hl g.nle, ?_⟩
 show T.get m' (b+(o+i))=_\/T.get m' (b+(o+i))=_
 rw[g.mem _ hl]
 exact(h i v e).2
def Ax (P:Program)(N:Nat)(s:St):Nat->TypeId->List Value->Prop
 |0,_,_=>False
 |f+1,t,us=>match P.underlying t with
  |some .bool=> ∃b,us=[.bool b]
  |some (.int k)=> ∃n,us=[.int k n]/\(Lit.int k n).wf=true
  |some .string=> ∃x:ByteArray,us=[.string x]/\x.size<=maxLen/\x.size<=N
  |some (.slice e)=>us=[.slice none 0 0]\/us=[.slice (some ⟨0,0,none⟩) 0 (capU*P.cellsOf e)]\/ ∃b n c,us=[.slice (some ⟨b,0,none⟩) n c]/\0<n/\n<=c/\c<=maxLen/\n<=N/\ ∀i,i<n-> ∃es,es.length=P.cellsOf e/\Row s b (i*P.cellsOf e) es/\Ax P N s f e es
  |some (.struct fs)=>us.length=P.cellsOf t/\ ∀x∈fs.toList,Ax P N s f x.type ((us.drop x.offset).take (P.cellsOf x.type))
  |some (.array n e)=>us.length=P.cellsOf t/\ ∀i,i<n->Ax P N s f e ((us.drop (i*P.cellsOf e)).take (P.cellsOf e))
  |_=>False
theorem Ax.mono {P:Program}{N:Nat}{s s':St}(h: ∀b o l,Row s b o l->Row s' b o l): ∀(f:Nat) (t:TypeId) (us:List Value),Ax P N s f t us->Ax P N s' f t us
 |0,_,_,k=>k
 |f+1,t,us,k=>by
  unfold Ax at k ⊢
  cases hu:P.underlying t with
  |none=>rw[hu]at k;exact k
  |some u=>
   rw[hu]at k
   cases u<;>try exact k
   ·rename_i e
    rcases k with k|k|⟨b,n,c,k1,k2,k3,k4,k6,k5⟩
    ·exact .inl k
    ·exact .inr (.inl k)
    ·refine .inr (.inr ⟨b,n,c,k1,k2,k3,k4,k6,λi hi=> ?_⟩)
     obtain⟨es,e1,e2,e3⟩:=k5 i hi
     exact⟨es,e1,h _ _ _ e2,Ax.mono h f _ _ e3⟩
   ·exact⟨k.1,λx hx=>Ax.mono h f _ _ (k.2 x hx)⟩
   ·exact⟨k.1,λi hi=>Ax.mono h f _ _ (k.2 i hi)⟩
def D7 (P:Program):List Field->Nat->Nat->Bool
 |[],o,z=>Nat.beq o z
 |x::l,o,z=>Nat.beq x.offset o&&D7 P l (o+P.cellsOf x.type) z
def C9 (P:Program):Nat->TypeId->Bool
 |0,_=>false
 |f+1,t=>match P.underlying t with
  |some .bool|some (.int _)|some .string=>true
  |some (.slice e)=>Nat.blt 0 (P.cellsOf e)&&C9 P f e
  |some (.struct fs)=>D7 P fs.toList 0 (P.cellsOf t)&&fs.toList.all λx=>C9 P f x.type
  |some (.array n e)=>Nat.beq (n*P.cellsOf e) (P.cellsOf t)&&C9 P f e
  |_=>false
def Lay (w:World)(cs:List Value)(H:St->List Value->Prop):Prop:= ∀m nx r,OldSt w m nx r-> ∃m' nx' r' us,OldSt w m' nx' r'/\Grow m nx r m' nx' r'/\VRs r' us cs/\H (stO m' nx') us
theorem Lay.plain {w:World}{cs:List Value}{H:St->List Value->Prop}(h: ∀v∈cs,plain v=true)(k: ∀s,H s cs):Lay w cs H:=λm nx r ho=>⟨m,nx,r,cs,ho, .refl _ _ _,VRs.plains h,k _⟩
theorem Mh {w:World}{cs:List Value}{k:Nat}{H:St->List Value->Prop}(mono: ∀(s s':St) us,(∀b o l,Row s b o l->Row s' b o l)->H s us->H s' us): ∀n,n*k<=cs.length->(∀i,i<n->Lay w ((cs.drop (i*k)).take k) H)->Lay w (cs.take (n*k)) λs us=> ∀i,i<n->H s ((us.drop (i*k)).take k)
 |0,_,_=>λm nx r ho=>⟨m,nx,r,[],ho, .refl _ _ _,by rw[Nat.zero_mul];exact VRs.nil,λi hi=>absurd hi (Nat.not_lt_zero i)⟩
 |n+1,hl,h=>λm nx r ho=>by
  have hnk:(n+1)*k=n*k+k:=Nat.succ_mul n k
  obtain⟨m1,nx1,r1,us1,ho1,g1,v1,h1⟩:=Mh mono n (by omega) (λi hi=>h i (by omega)) m nx r ho
  obtain⟨m2,nx2,r2,us2,ho2,g2,v2,h2⟩:=h n (by omega) m1 nx1 r1 ho1
  have l1:us1.length=n*k:=by rw[v1.1,List.length_take];omega
  have l2:us2.length=k:=by rw[v2.1,List.length_take,List.length_drop];omega
  refine⟨m2,nx2,r2,us1++us2,ho2,g1.trans g2, ?_,λi hi=> ?_⟩
  ·have e:cs.take ((n+1)*k)=cs.take (n*k)++(cs.drop (n*k)).take k:=by
    rw[hnk,List.take_add]
   rw[e]
   exact(v1.mono g2.le).append v2
  ·rcases Nat.lt_or_ge i n with hin|hin
   ·have hik:i*k+k<=n*k:=by
     have:=Nat.mul_le_mul_right k (show i+1<=n by omega)
     rw[Nat.succ_mul]at this
     exact this
    have e:((us1++us2).drop (i*k)).take k=(us1.drop (i*k)).take k:=by
     rw[List.drop_append_of_le_length (by omega),List.take_append_of_le_length (by rw[List.length_drop];omega)]
    rw[e]
    exact mono _ _ _ (λb o l q=>g2.row q) (h1 i hin)
   ·have:i=n:=by omega
    subst this
    have e:((us1++us2).drop (i*k)).take k=us2:=by
     rw[List.drop_left' l1,List.take_of_length_le (by omega)]
    rw[e]
    exact h2
theorem AA_ {P:Program}: ∀{l:List Field} {o z:Nat},D7 P l o z=true->o<=z
 |[],o,z,h=>Nat.le_of_eq (Nat.eq_of_beq_eq_true h)
 |x::l,o,z,h=>by
  have h':(Nat.beq x.offset o&&D7 P l (o+P.cellsOf x.type) z)=true:=h
  rw[Bool.and_eq_true]at h'
  have:=AA_ h'.2
  omega
theorem FW_ {P:Program}: ∀{l:List Field} {o z:Nat},D7 P l o z=true-> ∀x∈l,o<=x.offset
 |[],_,_,_,x,hx=>by cases hx
 |y::l,o,z,h,x,hx=>by
  have h':(Nat.beq y.offset o&&D7 P l (o+P.cellsOf y.type) z)=true:=h
  rw[Bool.and_eq_true]at h'
  rcases List.mem_cons.1 hx with rfl|hx
  ·exact Nat.le_of_eq (Nat.eq_of_beq_eq_true h'.1).symm
  ·have:=FW_ h'.2 x hx
   omega
theorem Qi {P:Program}{N:Nat}{w:World}{cs:List Value}{F:Nat}: ∀(l:List Field) (o:Nat),D7 P l o cs.length=true->(∀x∈l,Lay w ((cs.drop x.offset).take (P.cellsOf x.type)) λs us=>Ax P N s F x.type us)->
  Lay w (cs.drop o) λs us=> ∀x∈l,Ax P N s F x.type ((us.drop (x.offset-o)).take (P.cellsOf x.type))
 |[],o,ht,_=>λm nx r ho=>by
  have:o=cs.length:=Nat.eq_of_beq_eq_true ht
  exact⟨m,nx,r,[],ho, .refl _ _ _,by rw[this,List.drop_length];exact VRs.nil,λx hx=>by cases hx⟩
 |x::l,o,ht,h=>λm nx r ho=>by
  have ht':(Nat.beq x.offset o&&D7 P l (o+P.cellsOf x.type) cs.length)=true:=ht
  rw[Bool.and_eq_true]at ht'
  have ho':x.offset=o:=Nat.eq_of_beq_eq_true ht'.1
  have hz:=AA_ ht'.2
  have hge:=FW_ ht'.2
  obtain⟨m1,nx1,r1,us1,ho1,g1,v1,h1⟩:=h x (by simp) m nx r ho
  obtain⟨m2,nx2,r2,us2,ho2,g2,v2,h2⟩:=Qi l (o+P.cellsOf x.type) ht'.2 (λy hy=>h y (by simp[hy])) m1 nx1 r1 ho1
  rw[ho']at v1
  have l1:us1.length=P.cellsOf x.type:=by rw[v1.1,List.length_take,List.length_drop];omega
  refine⟨m2,nx2,r2,us1++us2,ho2,g1.trans g2, ?_,λy hy=> ?_⟩
  ·have e:cs.drop o=(cs.drop o).take (P.cellsOf x.type)++cs.drop (o+P.cellsOf x.type):=by
    rw[<-List.drop_drop,List.take_append_drop]
   rw[e]
   exact(v1.mono g2.le).append v2
  ·rcases List.mem_cons.1 hy with rfl|hy
   ·have e:((us1++us2).drop (y.offset-o)).take (P.cellsOf y.type)=us1:=by
     rw[ho',Nat.sub_self,List.drop_zero,List.take_left' l1]
    rw[e]
    exact Ax.mono (λb o l q=>g2.row q) _ _ _ h1
   ·have hoy:=hge y hy
    have e:(us1++us2).drop (y.offset-o)=us2.drop (y.offset-(o+P.cellsOf x.type)):=by
     rw[List.drop_append,List.drop_of_length_le (by omega),List.nil_append,l1]
     congr 1
     omega
    rw[e]
    exact h2 y hy
theorem YX {α β:Type}{f:α->Option β}: ∀{xs:List α} {l:List β},xs.mapM f=some l->l.length=xs.length/\ ∀(i:Nat) (x:α),xs[i]?=some x->f x=l[i]?
 |[],l,h=>by
  have:l=[]:=by simpa using h.symm
  subst this
  exact⟨rfl,λi x e=>by simp at e⟩
 |x::xs,l,h=>by
  rw[List.mapM_cons]at h
  cases hf:f x with
  |none=>rw[hf]at h;cases h
  |some y=>
   rw[hf]at h
   cases hx:xs.mapM f with
   |none=>rw[hx]at h;cases h
   |some ys=>
    rw[hx]at h
    cases h
    obtain⟨h1,h2⟩:=YX hx
    refine⟨by simp[h1],λi z e=> ?_⟩
    cases i with
    |zero=>
     have:x=z:=by simpa using e
     subst this
     exact hf
    |succ i=>exact h2 i z (by simpa using e)
theorem MQ {w:World}{base k:Nat}{a:Addr}{l:List Value}(h:w.cells? base a k=some l):l.length=k/\ ∀j,j<k->w.cell? (a.add j)=l[j]?:=by
 unfold World.cells? at h
 split at h
 ·obtain⟨h1,h2⟩:=YX h
  rw[List.length_range]at h1
  exact⟨h1,λj hj=>h2 j j (by simp[hj])⟩
 ·cases h
theorem AbT_ {w:World}{a:Addr}{v:Value}(h:w.cell? a=some v):a.spot=none/\a.block<w.heap.size:=by
 unfold World.cell? at h
 cases hq:w.heap[a.block]? with
 |none=>simp only[hq]at h;cases h
 |some c=>
  refine⟨?_,(Array.getElem?_eq_some_iff.1 hq).1⟩
  cases hsp:a.spot with
  |none=>rfl
  |some x=>cases c<;>simp[hq,hsp]at h
theorem Nr (b o n:Nat):(⟨b,o,none⟩:Addr).add n=⟨b,o+n,none⟩:=by
 unfold Addr.add
 split
 ·rename_i h;rw[h];rfl
 ·rfl
theorem GE_ {a:Addr}{n:Nat}(hs:a.spot=none):a.add n=⟨a.block,a.off+n,none⟩:=by
 obtain⟨b,o,s⟩:=a
 cases hs
 exact Nr b o n
mutual
def Iv {H:Type}(N:Nat):DataW H->Prop
 | .lit (.string l)=>l.length<=N
 | .slice es _=>es.length<=N/\JX N es
 | .agg ps=>JX N ps
 |_=>True
def JX {H:Type}(N:Nat):List (DataW H)->Prop
 |[]=>True
 |d::r=>Iv N d/\JX N r
end
theorem Jo {H:Type}{N:Nat}: ∀{l:List (DataW H)},JX N l-> ∀d∈l,Iv N d
 |[],_,d,hd=>by cases hd
 |x::l,h,d,hd=>by
  rcases List.mem_cons.1 hd with rfl|hd
  ·exact h.1
  ·exact Jo h.2 d hd
theorem Kd {H:Type}{enc:TypeId×Value->H}{P:Program}{N:Nat}{w:World}{b0:Nat}{sp:Nat->Bool}{held:Bool}: ∀(F f:Nat) (t:TypeId) (cs:List Value) (y:DataW H×List MemPlace),C9 P F t=true->(maxLen<=N\/Iv N y.1)->DataW.trod enc P w b0 sp held f t cs=some y->Lay w cs λs us=>Ax P N s F t us
 |0,_,_,_,_,hf,_,_=>by cases hf
 |F+1,f,t,cs,y,hf,hN,h=>by
  unfold C9 at hf
  cases hu:P.underlying t with
  |none=>rw[hu]at hf;cases hf
  |some u=>
   rw[hu]at hf
   cases u<;>try (cases hf;done)
   case bool=>
    obtain⟨b,rfl,_⟩:=DataW.trod_bool hu h
    refine Lay.plain (λv hv=>by rw[List.mem_singleton.1 hv];rfl) λs=> ?_
    unfold Ax
    rw[hu]
    exact⟨b,rfl⟩
   case int k=>
    obtain⟨n,rfl,_,hw⟩:=DataW.trod_int hu h
    refine Lay.plain (λv hv=>by rw[List.mem_singleton.1 hv];rfl) λs=> ?_
    unfold Ax
    rw[hu]
    exact⟨n,rfl,hw⟩
   case string=>
    obtain⟨x,rfl,rfl,hs⟩:=DataW.trod_string hu h
    refine Lay.plain (λv hv=>by rw[List.mem_singleton.1 hv];rfl) λs=> ?_
    unfold Ax
    rw[hu]
    exact⟨x,rfl,hs,by
     rcases hN with hN|hN
     ·omega
     ·have:x.data.toList.length<=N:=hN
      simpa using this⟩
   case struct fs=>
    rw[Bool.and_eq_true]at hf
    obtain⟨xs,n,_,rfl,hl,_,hx⟩:=DataW.trod_struct hu h
    have hall: ∀x∈fs.toList,Lay w ((cs.drop x.offset).take (P.cellsOf x.type)) λs us=>Ax P N s F x.type us:=λx hxm=>by
     obtain⟨i,hi⟩:=List.getElem?_of_mem hxm
     have hi':fs[i]?=some x:=by rw[<-Array.getElem?_toList];exact hi
     have hd:=hx i x hi'
     have hfl:C9 P F x.type=true:=List.all_eq_true.1 hf.2 x hxm
     cases hz:DataW.trod enc P w b0 sp held n x.type ((cs.drop x.offset).take (P.cellsOf x.type))with
     |none=>
      rw[hz]at hd
      have h1:=(Array.getElem?_eq_some_iff.1 hi').1
      have h2:=List.getElem?_eq_none_iff.1 hd.symm
      omega
     |some z=>
      rw[hz]at hd
      exact Kd F n _ _ z hfl (hN.imp id λq=>Jo q _ (List.mem_map.2 ⟨z,List.mem_of_getElem? hd.symm,rfl⟩)) hz
    intro m nx r ho
    obtain⟨m',nx',r',us,k1,k2,k3,k4⟩:=Qi (F:=F) fs.toList 0 (by rw[hl];exact hf.1) hall m nx r ho
    rw[List.drop_zero]at k3
    refine⟨m',nx',r',us,k1,k2,k3, ?_⟩
    unfold Ax
    rw[hu]
    exact⟨by rw[k3.1,hl],λx hx=>by have:=k4 x hx;rwa [Nat.sub_zero]at this⟩
   case array n e=>
    rw[Bool.and_eq_true]at hf
    have hsz:n*P.cellsOf e=P.cellsOf t:=Nat.eq_of_beq_eq_true hf.1
    obtain⟨xs,m1,_,rfl,hl,hxl,hx⟩:=DataW.trod_array hu h
    intro m nx r ho
    obtain⟨m',nx',r',us,k1,k2,k3,k4⟩:=Mh (w:=w) (cs:=cs) (k:=P.cellsOf e) (H:=λs us=>Ax P N s F e us) (λs s' us hr hh=>Ax.mono hr _ _ _ hh) n (by rw[hsz,hl];exact Nat.le_refl _) (λi hi=>by
     have hd:=hx i hi
     cases hz:DataW.trod enc P w b0 sp held m1 e ((cs.drop (i*P.cellsOf e)).take (P.cellsOf e))with
     |none=>
      rw[hz]at hd
      have h2:=List.getElem?_eq_none_iff.1 hd.symm
      omega
     |some z=>
      rw[hz]at hd
      exact Kd F m1 _ _ z hf.2 (hN.imp id λq=>Jo q _ (List.mem_map.2 ⟨z,List.mem_of_getElem? hd.symm,rfl⟩)) hz) m nx r ho
    rw[hsz,<-hl,List.take_length]at k3
    refine⟨m',nx',r',us,k1,k2,k3, ?_⟩
    unfold Ax
    rw[hu]
    exact⟨by rw[k3.1,hl],k4⟩
   case slice e=>
    rw[Bool.and_eq_true]at hf
    have hk:0<P.cellsOf e:=A5 hf.1
    rcases DataW.trod_slice hu h with⟨rfl,_⟩|⟨a,len,cap,elems,rest,n,_,rfl,rfl,_,hlc,hcm,hel,hx,_,_⟩
    ·refine λm nx r ho=>⟨m,nx,r,[.slice none 0 0],ho, .refl _ _ _, .cons .slNil .nil, ?_⟩
     unfold Ax
     rw[hu]
     exact .inl rfl
    ·by_cases h0:len=0
     ·subst h0
      refine λm nx r ho=>⟨m,nx,r,[.slice (some ⟨0,0,none⟩) 0 (capU*P.cellsOf e)],ho, .refl _ _ _, .cons (.slEnd (by rw[Nat.mul_div_cancel_left _ (by unfold capU;decide)];omega) (Nat.mul_mod_right _ _)) .nil, ?_⟩
      unfold Ax
      rw[hu]
      exact .inr (.inl rfl)
     ·have hlN:len<=N:=by
       rcases hN with hN|hN
       ·omega
       ·have:=hN.1
        rw[List.length_map,hel]at this
        exact this
      have cells: ∀i,i<len-> ∃l z,w.cells? b0 (a.add (i*P.cellsOf e)) (P.cellsOf e)=some l/\DataW.trod enc P w b0 sp held n e l=some z/\z∈elems:=λi hi=>by
       have:=hx i hi
       rw[List.getElem?_eq_getElem (by omega),Option.bind_eq_some_iff]at this
       obtain⟨l,h1,h2⟩:=this
       exact⟨l,_,h1,h2,List.getElem_mem _⟩
      have hspot:a.spot=none/\a.block<w.heap.size:=by
       obtain⟨l,z,h1,_⟩:=cells 0 (by omega)
       obtain⟨q1,q2⟩:=MQ h1
       have:=q2 0 hk
       rw[List.getElem?_eq_getElem (by omega)]at this
       rw[Nat.zero_mul]at this
       exact AbT_ this
      have each: ∀j,∃v:Value,j<len*P.cellsOf e->w.cell? ⟨a.block,a.off+j,none⟩=some v:=λj=>by
       by_cases hj:j<len*P.cellsOf e
       ·have hi:j/P.cellsOf e<len:=by rw[Nat.div_lt_iff_lt_mul hk];exact hj
        obtain⟨l,z,h1,_⟩:=cells _ hi
        obtain⟨q1,q2⟩:=MQ h1
        have hm:j%P.cellsOf e<P.cellsOf e:=Nat.mod_lt _ hk
        have:=q2 _ hm
        rw[List.getElem?_eq_getElem (by omega),GE_ hspot.1,Nr]at this
        refine⟨l[j%P.cellsOf e]'(by omega),λ_=> ?_⟩
        rw[<-this]
        have hdm:=Nat.div_add_mod j (P.cellsOf e)
        rw[Nat.mul_comm]at hdm
        congr 2
        omega
       ·exact⟨undef,λh=>absurd h hj⟩
      obtain⟨g,hg⟩:=Classical.axiomOfChoice each
      obtain⟨cs,hcs⟩: ∃cs:List Value,cs=(List.range (len*P.cellsOf e)).map g:=⟨_,rfl⟩
      have hcl:cs.length=len*P.cellsOf e:=by rw[hcs];simp
      have hcg: ∀j v,cs[j]?=some v->w.cell? ⟨a.block,a.off+j,none⟩=some v:=λj v e=>by
       rw[hcs,List.getElem?_map,Option.map_eq_some_iff]at e
       obtain⟨j',e1,e2⟩:=e
       have hj:=(List.getElem?_eq_some_iff.1 e1).1
       rw[List.length_range]at hj
       rw[List.getElem?_range hj]at e1
       cases e1
       rw[<-e2]
       exact hg _ hj
      intro m nx r ho
      obtain⟨m',nx',r',us,k1,k2,k3,k4⟩:=Mh (w:=w) (cs:=cs) (k:=P.cellsOf e) (H:=λs us=>Ax P N s F e us) (λs s' us hr hh=>Ax.mono hr _ _ _ hh) len (by omega) (λi hi=>by
       obtain⟨l,z,h1,h2,h3⟩:=cells i hi
       obtain⟨q1,q2⟩:=MQ h1
       have el:(cs.drop (i*P.cellsOf e)).take (P.cellsOf e)=l:=by
        apply List.ext_getElem?
        intro j
        by_cases hj:j<P.cellsOf e
        ·have hjj:i*P.cellsOf e+j<cs.length:=by
          have:=Nat.mul_le_mul_right (P.cellsOf e) (show i+1<=len by omega)
          rw[Nat.succ_mul]at this
          omega
         rw[List.getElem?_take,if_pos hj,List.getElem?_drop,List.getElem?_eq_getElem hjj,<-q2 j hj,GE_ hspot.1,Nr]
         have:=hcg _ _ (List.getElem?_eq_getElem hjj)
         rw[<-Nat.add_assoc]at this
         exact this.symm
        ·rw[List.getElem?_take,if_neg hj,List.getElem?_eq_none (by omega)]
       rw[el]
       exact Kd F n _ _ z hf.2 (hN.imp id λq=>Jo q.2 _ (List.mem_map.2 ⟨z,h3,rfl⟩)) h2) m nx r ho
      rw[<-hcl,List.take_length]at k3
      have hul:us.length=len*P.cellsOf e:=by rw[k3.1,hcl]
      have hpos:0<us.length:=by rw[hul];exact Nat.mul_pos (by omega) hk
      obtain⟨r2,hr2⟩: ∃r2:Inj,r2=⟨λb=>if b=nx' then some (a.block,a.off)else r'.blk b,r'.ext,r'.known⟩:=⟨_,rfl⟩
      have hb2: ∀b,r2.blk b=if b=nx' then some (a.block,a.off)else r'.blk b:=λb=>by rw[hr2]
      have hle:r'.le r2:=⟨λb x e=>by
       rw[hb2,if_neg]
       ·exact e
       ·intro hb
        have:=(k1.hd b x.1 x.2 e).1
        omega,λt x e=>by rw[hr2];exact e,by rw[hr2]⟩
      have hget: ∀j,T.get (layT nx' us nx' m') j=if nx'<=j/\j<nx'+us.length then(us[j-nx']?).map (λv=> .O (.old nx' v))else T.get m' j:=λj=>AN_ _ _ _ _ _
      have hgrow:Grow m' nx' r' (layT nx' us nx' m') (nx'+us.length+1) r2:=⟨hle,by omega,λl hl=>by rw[hget,if_neg (by omega)]⟩
      refine⟨layT nx' us nx' m',nx'+us.length+1,r2,[.slice (some ⟨nx',0,none⟩) len cap],⟨λloc c e=> ?_,λb b' d e=> ?_,λb=>by rw[hr2];exact k1.hx b,by rw[hr2];exact k1.hk⟩,k2.trans hgrow, ?_, ?_⟩
      ·rw[hget]at e
       split at e
       ·rename_i hin
        rw[Option.map_eq_some_iff]at e
        obtain⟨v,e1,rfl⟩:=e
        obtain⟨v',e2,e3⟩:=k3.get e1
        refine⟨by omega,nx',v,rfl,a.block,a.off,v',hin.1,by rw[hb2,if_pos rfl], ?_,e3.mono hle⟩
        have:=hcg _ _ e2
        rwa [Nat.add_comm a.off]at this
       ·obtain⟨h1,b,v,rfl,b',d,v',h2,h3,h4,h5⟩:=k1.ho loc c e
        exact⟨by omega,b,v,rfl,b',d,v',h2,hle.1 _ _ h3,h4,h5.mono hle⟩
      ·rw[hb2]at e
       split at e
       ·rename_i hb
        cases e
        exact⟨by omega,hspot.2⟩
       ·have:=k1.hd b b' d e
        exact⟨by omega,this.2⟩
      ·refine .cons ?_ .nil
       have hcu:cap<capU:=by
        have:cap<=9223372036854775807:=hcm
        unfold capU
        omega
       have:=VR.sl (r:=r2) (b:=nx') (o:=0) (b':=a.block) (d:=a.off) (l:=len) (c:=cap) (c':=cap) (by rw[hb2,if_pos rfl]) (.inl ⟨Nat.div_eq_of_lt hcu,rfl⟩) (by rw[Nat.mod_eq_of_lt hcu];exact hlc)
       rw[Nat.zero_add]at this
       obtain⟨b,o,s⟩:=a
       have hs:s=none:=hspot.1
       subst hs
       exact this
      ·unfold Ax
       rw[hu]
       refine .inr (.inr ⟨nx',len,cap,rfl,by omega,hlc,hcm,hlN,λi hi=>⟨(us.drop (i*P.cellsOf e)).take (P.cellsOf e), ?_,λj v ej=> ?_,Ax.mono (λb o l q=>hgrow.row q) _ _ _ (k4 i hi)⟩⟩)
       ·have:=Nat.mul_le_mul_right (P.cellsOf e) (show i+1<=len by omega)
        rw[Nat.succ_mul]at this
        rw[List.length_take,List.length_drop]
        omega
       ·have hj:=(List.getElem?_eq_some_iff.1 ej).1
        rw[List.length_take]at hj
        rw[List.getElem?_take,if_pos (by omega),List.getElem?_drop]at ej
        have hjl:=(List.getElem?_eq_some_iff.1 ej).1
        refine⟨?_, .inr ?_⟩
        ·show nx'+(i*P.cellsOf e+j)<nx'+us.length+1
         omega
        ·show T.get (layT nx' us nx' m') (nx'+(i*P.cellsOf e+j))=_
         rw[hget,if_pos (by omega),Nat.add_sub_cancel_left,ej]
         rfl
def aggT (P:Program)(t:TypeId):Bool:=match P.underlying t with
 |some (.struct _)|some (.array _ _)=>true
 |_=>false
def F3 (P:Program)(N:Nat)(s:St)(F:Nat)(t:TypeId)(u:Value):Prop:= ∃us,Ax P N s F t us/\((aggT P t=true/\u= .agg us.toArray)\/(aggT P t=false/\us=[u]))
theorem Acr_ {P:Program}{w:World}{rc:Reach}{base F:Nat}{t:TypeId}{v:Value}(hf:C9 P F t=true)(h:Value.okWide P w rc base t v):(aggT P t=true/\v= .agg v.cells)\/(aggT P t=false/\v.cells= #[v]):=by
 cases F with
 |zero=>cases hf
 |succ F=>
  unfold C9 at hf
  unfold aggT
  cases hu:P.underlying t with
  |none=>rw[hu]at hf;cases hf
  |some u=>
   rw[hu]at hf
   unfold Value.okWide at h
   rw[hu]at h
   cases u<;>try (cases hf;done)
   case struct fs=>
    obtain⟨cs,rfl,_⟩:=h
    exact .inl ⟨rfl,rfl⟩
   case array n e=>
    obtain⟨cs,rfl,_⟩:=h
    exact .inl ⟨rfl,rfl⟩
   all_goals
    refine .inr ⟨rfl, ?_⟩
    simp only at h
    unfold Cell.okWide Cell.ok at h
    rw[hu]at h
    cases v<;>first|rfl|(simp at h)
theorem AX_ {H:Type}{enc:TypeId×Value->H}{P:Program}{w:World}{b0 base F N:Nat}{sp:Nat->Bool}{held:Bool}: ∀(ts:List TypeId) (vs:List Value) (ds:List (DataW H)) (ps:List MemPlace),DataW.TrodAll enc P w b0 sp held ts vs ds ps->(∀(j:Nat) t v,ts[j]?=some t->vs[j]?=some v->Value.okWide P w .any base t v)->ts.all (C9 P F)=true->(maxLen<=N\/ ∀d∈ds,Iv N d)->
  ∀m nx r,OldSt w m nx r-> ∃m' nx' r' us,OldSt w m' nx' r'/\Grow m nx r m' nx' r'/\VRs r' us vs/\us.length=ts.length/\ ∀(j:Nat) t u,ts[j]?=some t->us[j]?=some u->F3 P N (stO m' nx') F t u
 |[],[],_,_,_,_,_,_=>λm nx r ho=>⟨m,nx,r,[],ho, .refl _ _ _, .nil,rfl,λj t u e=>by simp at e⟩
 |[],_::_,ds,_,h,_,_,_=>by cases ds<;>exact h.elim
 |_::_,[],ds,_,h,_,_,_=>by cases ds<;>exact h.elim
 |t::ts,v::vs,[],_,h,_,_,_=>h.elim
 |t::ts,v::vs,d::ds,_,⟨p,q,⟨fuel,h1⟩,h2,_⟩,hv,hf,hN=>λm nx r ho=>by
  rw[List.all_cons,Bool.and_eq_true]at hf
  obtain⟨m1,nx1,r1,us,o1,g1,v1,k1⟩:=Kd (N:=N) F fuel t _ _ hf.1 (hN.imp id λz=>z d (by simp)) h1 m nx r ho
  obtain⟨m2,nx2,r2,us2,o2,g2,v2,l2,k2⟩:=AX_ ts vs ds q h2 (λj t v e1 e2=>hv (j+1) t v e1 e2) hf.2 (hN.imp id λz d' hd=>z d' (by simp[hd])) m1 nx1 r1 o1
  have k1':=Ax.mono (λb o l z=>g2.row z) _ _ _ k1
  rcases Acr_ hf.1 (hv 0 t v rfl rfl)with⟨ha,hc⟩|⟨ha,hc⟩
  ·refine⟨m2,nx2,r2, .agg us.toArray::us2,o2,g1.trans g2, .cons ?_ v2,by simp[l2],λj t' u e1 e2=> ?_⟩
   ·rw[hc]
    have:=(v1.mono g2.le).agg
    simpa using this
   ·cases j with
    |zero=>
     cases e1
     cases e2
     exact⟨us,k1', .inl ⟨ha,rfl⟩⟩
    |succ j=>exact k2 j t' u e1 e2
  ·rw[hc]at v1
   have hl:us.length=1:=v1.1
   obtain⟨u0,rfl⟩: ∃u0,us=[u0]:=by
    match us,hl with
    |[x],_=>exact⟨x,rfl⟩
   obtain⟨v',l',e0,e1,_⟩:=v1.inv
   have hv':v=v':=by
    have:[v]=v'::l':=e0
    cases this
    rfl
   subst hv'
   refine⟨m2,nx2,r2,u0::us2,o2,g1.trans g2, .cons (e1.mono g2.le) v2,by simp[l2],λj t' u e1 e2=> ?_⟩
   cases j with
   |zero=>
    cases e1
    cases e2
    exact⟨[u0],k1', .inr ⟨ha,rfl⟩⟩
   |succ j=>exact k2 j t' u e1 e2
theorem Vq_ {H:Type}{enc:TypeId×Value->H}{E:Env}(he:EnvOK E){fuel f F N base:Nat}{args:Array Value}{v:Value}{ts:List TypeId}{sp:Nat->Bool}{held:Bool}{ds:List (DataW H)}{ps:List MemPlace}{w:World}(ho:E.orc.get f=none)(hx:E.ext.get f=none)(hp:plain v=true)
  (hA:DataW.TrodAll enc E.P w 0 sp held ts args.toList ds ps) (hv: ∀(j:Nat) t v,ts[j]?=some t->args.toList[j]?=some v->Value.okWide E.P w .any base t v) (hf:ts.all (C9 E.P F)=true) (hN:maxLen<=N\/ ∀d∈ds,Iv N d)
  (run: ∀m nx us,us.length=ts.length->(∀(j:Nat) t u,ts[j]?=some t->us[j]?=some u->F3 E.P N (stO m nx) F t u)->W (Ab E (runF E fuel) f us) (stO m nx) λu _=>u=v):
  Calls E.P f args w λe w'=>e= .returned v/\Below w.heap.size w w':=by
 have h0:OldSt w .E 0 ⟨λ_=>none,λ_=>none, .no⟩:=⟨λloc c e=>(by cases e),λb b' d e=>(by cases e),λ_=>rfl,rfl⟩
 obtain⟨m,nx,r,us,o1,_,v1,l1,k1⟩:=AX_ ts args.toList ds ps hA hv hf hN .E 0 _ h0
 refine MX_ (r:=r) (s0:=stO m nx) he ho hx (run m nx us l1 k1) hp v1 (Rel.ofOld (by rw[o1.hk];exact aY w) (λb b' d e=>(o1.hd b b' d e).2) λloc c e=>(o1.ho loc c e).2) (Nat.zero_le _) λb hb=>⟨?_,o1.hx b⟩
 cases hq:r.blk b with
 |none=>rfl
 |some x=>
  have:=(o1.hd b x.1 x.2 hq).1
  have hb':nx<=b:=hb
  omega
theorem O1 {α:Type}{n:Nat}{p:Nat->α->Prop}(h: ∀i,i<n-> ∃x,p i x): ∃l:List α,l.length=n/\ ∀i x,l[i]?=some x->p i x:=by
 induction n with
 |zero=>exact⟨[],rfl,λi x e=>by simp at e⟩
 |succ n ih=>
  obtain⟨l,h1,h2⟩:=ih λi hi=>h i (by omega)
  obtain⟨x,hx⟩:=h n (by omega)
  refine⟨l++[x],by simp[h1],λi y e=> ?_⟩
  rcases Nat.lt_or_ge i n with hi|hi
  ·rw[List.getElem?_append_left (by omega)]at e
   exact h2 i y e
  ·rw[List.getElem?_append_right (by omega),h1]at e
   have:i=n:=by
    have:=(List.getElem?_eq_some_iff.1 e).1
    simp at this
    omega
   subst this
   rw[Nat.sub_self]at e
   cases e
   exact hx
theorem Acv_ {k:Nat}(hk:k<1024):BH (capU*k) k=true:=by
 unfold BH
 have hd:Nat.div (capU*k) capU=k:=Nat.mul_div_cancel_left k (by unfold capU;decide)
 have hm:Nat.mod k 1024=k:=Nat.mod_eq_of_lt hk
 rw[hd,hm,Nat.beq_refl]
 cases Nat.beq k 0<;>rfl
section
variable {P:Program}{s:St}{F N:Nat}{t e:TypeId}{us:List Value}
def ElS (s:St)(k:Nat)(v:Value)(es:List (List Value)):Prop:=(v= .slice none 0 0/\es=[])\/ ∃b c,v= .slice (some ⟨b,0,none⟩) es.length c/\es.length<=c%capU/\BH c k=true/\ ∀i x,es[i]?=some x->Row s b (i*k) x
theorem Ax.slice (ht:P.underlying t=some (.slice e))(hk:P.cellsOf e<1024)(h:Ax P N s (F+1) t us): ∃v es,us=[v]/\ElS s (P.cellsOf e) v es/\es.length<=9223372036854775807/\es.length<=N/\ ∀x∈es,x.length=P.cellsOf e/\Ax P N s F e x:=by
 unfold Ax at h
 rw[ht]at h
 rcases h with rfl|rfl|⟨b,n,c,rfl,h1,h2,h3,h5,h4⟩
 ·exact⟨_,[],rfl, .inl ⟨rfl,rfl⟩,by simp,by simp,λx hx=>by cases hx⟩
 ·exact⟨_,[],rfl, .inr ⟨0,_,rfl,Nat.zero_le _,Acv_ hk,λi x e=>by simp at e⟩,by simp,by simp,λx hx=>by cases hx⟩
 ·obtain⟨l,l1,l2⟩:=O1 h4
  have h3':c<=9223372036854775807:=h3
  have hcu:c<capU:=by unfold capU;omega
  refine⟨_,l,rfl, .inr ⟨b,c,by rw[l1],by rw[l1,Nat.mod_eq_of_lt hcu];exact h2,NE hcu,λi x e=>(l2 i x e).2.1⟩,by omega,by omega,λx hx=> ?_⟩
  obtain⟨i,hi⟩:=List.getElem?_of_mem hx
  exact⟨(l2 i x hi).1,(l2 i x hi).2.2⟩
end
open Go.RowKit
section
variable {E:Env}{s:St}{t:Nat}
def E2 (E:Env)(t:Nat)(ps:List (Nat×Value)):Option (List Value):=
 match T.get E.ty t with
 |some i=>(match i.u with
  | .struct fs=>CK (Ht E fs) ps i.zero
  | .array _ e=>(match T.get E.ty e with
   |some ie=>CK (λk=>some (k*ie.size,ie.size)) ps i.zero
   |none=>none)
  |_=>none)
 |none=>none
theorem Ek {ps:List (Nat×Value)}{r:List Value}(h:E2 E t ps=some r)(Q:Value->St->Prop):W (BP E t ps) s Q=Q (.agg r.toArray) s:=by
 unfold E2 at h
 split at h
 ·rename_i i hi
  split at h
  ·rename_i fs hu
   refine AJ ?_
   unfold BP
   rw[Ba (show ti E t s= .some i s by unfold ti;rw[hi];rfl)]
   rw[hu]
   simp only[h]
   rfl
  ·rename_i e hu
   split at h
   ·rename_i ie he
    refine AJ ?_
    unfold BP
    rw[Ba (show ti E t s= .some i s by unfold ti;rw[hi];rfl)]
    rw[hu]
    simp only
    rw[Ba (show ti E _ s= .some ie s by unfold ti;rw[he];rfl),h]
    rfl
   ·cases h
  ·cases h
 ·cases h
end
section
variable {E:Env}{s:St}{t:Nat}
end
section
variable {E:Env}{s:St}{t:Nat}
theorem W.resNil {tm:T Value}{Q:List Value->St->Prop}(q:Q [] s):W (resL E tm []) s Q:=W.pure q
theorem W.resTmp {tm:T Value}{r:Nat}{v:Value}{rs:List ResultVar}{Q:List Value->St->Prop}(h:Am.T.get tm r=some v)(q:W (resL E tm rs) s λl s1=>Q (v::l) s1):W (resL E tm (.tmp r::rs)) s Q:=by
 show W (M.bind (M.ofOpt (Am.T.get tm r)) λv=>M.bind (resL E tm rs) λl=>M.pure (v::l)) s Q
 rw[h]
 exact W.bind (W.pure (W.bind (q.mono λl s1 q=>W.pure q)))
end
section
variable {E:Env}{s:St}{t:Nat}
theorem Zn {m:Nat}(h:m<=9223372036854775807):fitI .i64 m=some (.int .i64 (m:Nat)):=by
 unfold fitI
 rw[Nat.ble_eq_true_of_le (show m<=mxOf .i64 from h)]
 show mkI .i64 m=_
 unfold mkI
 rw[Ao]
 rfl
end
section
variable {α β:Type}{s:St}{E:Env}{t t2:Nat}
theorem Ext.delC {F G:Nat->Prop}(s:St)(l:Nat)(hG:G l):Ext F G s ⟨T.del s.mem l,s.next,s.lim,s.rd,notes l s.lim s.wr,s.cx⟩:=by
 obtain⟨d,e,q⟩:=Gr l s.lim s.wr
 refine⟨Nat.le_refl _,rfl,rfl,λx _ hx=> ?_,⟨[],rfl,λ_ h=>by cases h⟩,⟨d,e,λx hx=>⟨(q x hx).1,by rw[(q x hx).2];exact hG⟩⟩⟩
 show T.get (T.del s.mem l) x=_
 rw[aP,if_neg]
 intro h
 exact hx (by rw[h];exact hG)
theorem Hz_: ∀(n l:Nat) (s:St),s.lim<=s.next->l+n<=s.next-> ∃s',Cm n l s= .some () s'/\s'.next=s.next/\Ext Non (λx=>l<=x/\x<l+n) s s'
 |0,_,s,_,_=>⟨s,rfl,rfl,Ext.refl s⟩
 |n+1,l,s,hb,h=>by
  have x1:Ext Non (λx=>l<=x/\x<l+(n+1)) s ⟨T.del s.mem l,s.next,s.lim,s.rd,notes l s.lim s.wr,s.cx⟩:=Ext.delC s l ⟨Nat.le_refl _,by omega⟩
  obtain⟨s2,e2,n2,x2⟩:=Hz_ n (l+1) ⟨T.del s.mem l,s.next,s.lim,s.rd,notes l s.lim s.wr,s.cx⟩ hb (by show l+1+n<=s.next;omega)
  refine⟨s2, ?_,n2,x1.trans x2 hb (λ_ _ h=>h) λx _ h=>⟨by have:=h.1;omega,by have:=h.2;omega⟩⟩
  show M.bind (Am.delC l) (λ_=>Cm n (l+1)) s=_
  have e1:Am.delC l s= .some () ⟨T.del s.mem l,s.next,s.lim,s.rd,notes l s.lim s.wr,s.cx⟩:=by
   obtain⟨mem,next,lim,rd,wr,cx⟩:=s
   show Bool.rec (motive:=λ_=>R Unit) .none (R.some () (St.mk (T.del mem l) next lim rd (notes l lim wr) cx)) (Nat.blt l next)=_
   rw[Bv (show l<next from Nat.lt_of_lt_of_le (by omega) h)]
  rw[Ba e1]
  exact e2
structure Marked (s:St)(sz n:Nat)(l:List Value)(v:Value)(b:Nat):Prop where
 val:v= .slice (some ⟨b,0,none⟩) n (capU*((b+n*sz)*1024+sz)+n)
 own:An s b 0 l
 len:l.length=n*sz
 tok: ∃q,q%1024=sz/\T.get s.mem (b+n*sz)=some (.O (.tok false q))
 lt:b+n*sz<s.next
theorem Fresh1.marked {s s':St}{sz n:Nat}{l:List Value}{v:Value}{b:Nat}(h:Fresh1 s s' sz n l v b):Marked s' sz n l v b:=⟨h.val,h.own,h.len,h.tok,h.lt⟩
theorem Marked.ext {F G:Nat->Prop}{s s':St}{sz n:Nat}{l:List Value}{v:Value}{b:Nat}(h:Marked s sz n l v b)(e:Ext F G s s')(hG: ∀x,In b 0 (n*sz+1) x-> ¬G x):Marked s' sz n l v b:=
 ⟨h.val,h.own.ext e λi hi=>hG _ ⟨by omega,by rw[h.len]at hi;omega⟩,h.len,let ⟨q,h1,h2⟩:=h.tok;⟨q,h1,by rw[e.mem _ h.lt (hG _ ⟨by omega,by omega⟩)];exact h2⟩,Nat.lt_of_lt_of_le h.lt e.nxt⟩
theorem Marked.same {s s':St}{sz n:Nat}{l:List Value}{v:Value}{b:Nat}(h:Marked s sz n l v b)(hm:s'.mem=s.mem)(hn:s'.next=s.next):Marked s' sz n l v b:=
 ⟨h.val,λi v e=>(h.own i v e).same hm hn,h.len,by rw[hm];exact h.tok,by rw[hn];exact h.lt⟩
theorem W.appMark (hbd:s.lim<=s.next){sz by' n len b:Nat}{z l old:List Value}{v x:Value}{F:Nat->Prop}{Q:Value->St->Prop}{g:Bool}(ht:appT E t t2=some (sz,by',g,z))(hm:Marked s sz len old v b)(hx:SrcG s sz by' g z x n l F)(hn:0<n)(hlen:0<len)(hs0:0<sz)(hs1:sz<1024)
  (hb:(len+n)*(by'+1)<=16777216) (hl:l.length=n*sz) (h1:l.all oneCell=true)
  (q: ∀s2 v2 b2,Fresh1 s s2 sz (len+n) (old++l) v2 b2->Ext (λx=>F x\/In b 0 (len*sz+1) x) (In b 0 (len*sz+1)) s s2->Q v2 s2):W (BS E t t2 v x) s Q:=by
 obtain⟨i,i2,e,ie,g1,g2,g3,g4,g5,g6,g7,g8⟩:=Im ht
 obtain⟨hN,s1,e1,m1,n1,x1⟩:=hx ie g5 g6 g8
 subst g5;subst g6
 rw[hm.val]
 have hle:len<capU:=by
  have:len<=16777216:=by
   have h2:len*1<=(len+n)*(ie.bytes+1):=Nat.mul_le_mul (by omega) (by omega)
   omega
  unfold capU
  omega
 have hmod:(capU*((b+len*ie.size)*1024+ie.size)+len)%capU=len:=by
  rw[Nat.mul_add_mod,Nat.mod_eq_of_lt hle]
 have hdiv:(capU*((b+len*ie.size)*1024+ie.size)+len)/capU=(b+len*ie.size)*1024+ie.size:=by
  rw[Nat.mul_add_div (by decide),Nat.div_eq_of_lt hle,Nat.add_zero]
 generalize hc:capU*((b+len*ie.size)*1024+ie.size)+len=c at *
 refine W.bind (aR g1 (W.bind (aR g2 ?_)))
 rw[g3,g7]
 refine W.bind (aR g4 (W.bind (W.of (hN s) (W.bind ?_))))
 refine W.of e1 ?_
 show W (aN (Nat.ble (Nat.add len n) (c%capU)) _ _) s1 Q
 have hz:Nat.ble (Nat.add len n) (c%capU)=false:=by
  cases hq:Nat.ble (Nat.add len n) (c%capU)with
  |false=>rfl
  |true=>
   have h2:=Nat.le_of_ble_eq_true hq
   rw[hmod]at h2
   have h3:Nat.add len n=len+n:=rfl
   omega
 rw[hz]
 show W (grow ie.size ie.bytes (C5 ie.zero) (some ⟨b,0,none⟩) len c n l) s1 Q
 unfold grow
 have hm1:Marked s1 ie.size len old v b:=hm.same m1 n1
 have hb1:s1.lim<=s1.next:=x1.bnd hbd
 refine W.chk ?_ (W.bind ?_)
 ·rw[h1,hl,hmod]
  simp only[Bool.and_true,Bool.and_eq_true,Bool.or_eq_true]
  refine⟨⟨⟨⟨Nat.ble_eq_true_of_le hb,Bv hs0⟩,Bv hs1⟩, .inl (Bv hlen)⟩,Nat.beq_refl _⟩
 ·show W (oldL ie.size (some ⟨b,0,none⟩) (Bool.rec (motive:=λ_=>Nat) (c%capU) len (Nat.beq (c/capU) 0))) s1 _
  rw[hmod,hdiv]
  have hb0:Nat.beq ((b+len*ie.size)*1024+ie.size) 0=false:=by
   cases hq:Nat.beq ((b+len*ie.size)*1024+ie.size) 0 with
   |false=>rfl
   |true=>have:=Nat.eq_of_beq_eq_true hq;omega
  rw[hb0]
  show W (Am.rdL (len*ie.size) ⟨b,0,none⟩) s1 _
  rw[<-hm1.len]
  refine W.rdL hm1.own.row λs2 m2 n2 x2=>W.bind ?_
  have hm2:Marked s2 ie.size len old v b:=hm1.same m2 n2
  have hb2:s2.lim<=s2.next:=x2.bnd hb1
  show W (CW ie.size (some ⟨b,0,none⟩) (c%capU) (c/capU)) s2 _
  rw[hmod,hdiv]
  unfold CW
  show W (aN (Nat.beq ((b+len*ie.size)*1024+ie.size) 0) _ _) s2 _
  rw[hb0]
  have hd1:((b+len*ie.size)*1024+ie.size)/1024=b+len*ie.size:=by omega
  have hd2:((b+len*ie.size)*1024+ie.size)%1024=ie.size:=by omega
  show W (M.bind (Am.rdC (((b+len*ie.size)*1024+ie.size)/1024)) _) s2 _
  rw[hd1]
  obtain⟨qo,hqo,htok⟩:=hm2.tok
  refine W.bind (W.rdC htok hm2.lt ?_)
  show W (M.chk (Nat.beq (qo%1024) ie.size&&Nat.beq (((b+len*ie.size)*1024+ie.size)%1024) ie.size) (M.bind (Am.wrC (((b+len*ie.size)*1024+ie.size)/1024) (.O (.tok true ie.size))) λ_=>M.bind (E3 ie.size (some ⟨b,0,none⟩) len) λ_=>Am.fN (qo/1024) λf=>M.pure f)) _ _
  rw[hd2,hd1,hqo]
  refine W.chk (by rw[Nat.beq_refl];rfl) (W.bind (W.wrC hm2.lt ?_))
  refine W.bind ?_
  show W (Cm (len*ie.size) (b+0)) _ _
  generalize hs3:((s2.rdN (b+len*ie.size)).wrN (b+len*ie.size) (.O (.tok true ie.size)))=s3
  have x3:Ext (In b 0 (len*ie.size+1)) (In b 0 (len*ie.size+1)) s2 s3:=by
   rw[<-hs3]
   have a1:Ext (In b 0 (len*ie.size+1)) (In b 0 (len*ie.size+1)) s2 (s2.rdN (b+len*ie.size)):=Ext.rdN s2 _ λ_=>⟨by omega,by omega⟩
   exact a1.trans (Ext.wrN (F:=In b 0 (len*ie.size+1)) (s2.rdN (b+len*ie.size)) _ _ ⟨by omega,by omega⟩) hb2 (λ_ _ h=>h) λ_ _ h=>h
  have n3:s3.next=s2.next:=by rw[<-hs3];rfl
  have hb3:s3.lim<=s3.next:=x3.bnd hb2
  obtain⟨s4,e4,n4,x4⟩:=Hz_ (len*ie.size) (b+0) s3 hb3 (by have:=hm2.lt;omega)
  refine W.of e4 (W.fN (W.pure (W.bind (W.newL λs5 n5 x5 r5=>W.fN (W.fN (W.bind (W.wrC ?_ ?_)))))))
  ·rw[n5]
   simp only[Nat.add_eq,Nat.mul_eq,List.length_append,List.length_take,hm.len,hl,Nat.min_self]
   rw[Nat.add_mul]
   omega
  ·show W (Am.fA (⟨s4.next,0,none⟩:Addr) λa=>Am.fN (Nat.add len n) λl=>Am.fN _ λc=>M.pure (.slice (some a) l c)) _ Q
   have htake:old.take (Nat.mul len ie.size)=old:=List.take_of_length_le (by rw[hm.len];exact Nat.le_refl _)
   rw[htake]at n5 r5
   have hadd:Nat.add len n=len+n:=rfl
   have hmul:Nat.mul (len+n) ie.size=(len+n)*ie.size:=rfl
   have hal:(old++l).length=(len+n)*ie.size:=by rw[List.length_append,hm.len,hl,Nat.add_mul]
   have nn:s.next<=s4.next:=by rw[n4,n3,n2,n1];exact Nat.le_refl _
   have xall:Ext (λx=>F x\/In b 0 (len*ie.size+1) x) (In b 0 (len*ie.size+1)) s s5:=by
    have y1:Ext (λx=>F x\/In b 0 (len*ie.size+1) x) (In b 0 (len*ie.size+1)) s s1:=x1.weak hbd (λ_ _ h=> .inl h) λ_ _ h=>h.elim
    have y2:=y1.trans x2 hbd (λx _ h=> .inr ⟨h.1,by have:=h.2;rw[hm.len]at this;omega⟩) λ_ _ h=>h.elim
    have y3:=y2.trans x3 hbd (λx _ h=> .inr h) λ_ _ h=>h
    have y4:=y3.trans x4 hbd (λ_ _ h=>h.elim) λx _ h=>⟨by have:=h.1;omega,by have:=h.2;omega⟩
    exact y4.trans x5 hbd (λ_ _ h=>h.elim) λ_ _ h=>h.elim
   have hb5:s5.lim<=s5.next:=xall.bnd hbd
   refine W.fA (W.fN (W.fN (W.pure (q _ _ s4.next ⟨?_,nn, ?_,hal, ?_, ?_⟩ ?_))))
   ·rfl
   ·intro k v hk
    have hk':=(List.getElem?_eq_some_iff.1 hk).1
    have:=r5 k v hk
    refine⟨this.1, ?_⟩
    show T.get (T.set s5.mem _ _) _=_
    rw[T.get_set,if_neg]
    ·exact this.2
    ·rw[hadd,hmul]
     show s4.next+(0+k)≠s4.next+(len+n)*ie.size
     omega
   ·refine⟨flg ie.size (qo/1024) (C5 ie.zero),HK hs1, ?_⟩
    show T.get (T.set s5.mem (Nat.add s4.next (Nat.mul (Nat.add len n) ie.size)) _) _=_
    rw[hadd,hmul,T.get_set]
    exact if_pos rfl
   ·show s4.next+(len+n)*ie.size<s5.next
    rw[n5,hal]
    omega
   ·refine xall.trans (Ext.wrN (F:=Non) (G:=λx=>s4.next<=x) s5 _ _ ?_) hbd (λ_ _ h=>h.elim) λx hx h=> ?_
    ·show s4.next<=s4.next+Nat.mul (Nat.add len n) ie.size
     omega
    ·omega
end
section
variable {s s':St}{E:Env}{t t2:Nat}
def MkS (s:St)(sz n:Nat)(l:List Value)(v:Value)(b:Nat):Prop:=(v= .slice none 0 0/\n=0/\l=[])\/(Marked s sz n l v b/\0<n)
def MkF (sz n b:Nat)(x:Nat):Prop:=0<n/\In b 0 (n*sz+1) x
theorem MkS.ext {F G:Nat->Prop}{sz n:Nat}{l:List Value}{v:Value}{b:Nat}(h:MkS s sz n l v b)(e:Ext F G s s')(hG: ∀x,MkF sz n b x-> ¬G x):MkS s' sz n l v b:=by
 rcases h with h|⟨h,h0⟩
 ·exact .inl h
 ·exact .inr ⟨h.ext e λx hx=>hG x ⟨h0,hx⟩,h0⟩
theorem MkS.ext0 {F:Nat->Prop}{sz n:Nat}{l:List Value}{v:Value}{b:Nat}(h:MkS s sz n l v b)(e:Ext F Non s s'):MkS s' sz n l v b:=h.ext e λ_ _=>id
theorem MkS.same {sz n:Nat}{l:List Value}{v:Value}{b:Nat}(h:MkS s sz n l v b)(hm:s'.mem=s.mem)(hn:s'.next=s.next):MkS s' sz n l v b:=by
 rcases h with h|⟨h,h0⟩
 ·exact .inl h
 ·exact .inr ⟨h.same hm hn,h0⟩
theorem MkS.lt {sz n:Nat}{l:List Value}{v:Value}{b:Nat}(h:MkS s sz n l v b): ∀x,MkF sz n b x->x<s.next:=by
 intro x hx
 rcases h with⟨_,h0,_⟩|⟨h,_⟩
 ·have:=hx.1;omega
 ·have h1:=h.lt
  have h2:x<b+0+(n*sz+1):=hx.2.2
  omega
theorem MkS.sl {sz n:Nat}{l:List Value}{v:Value}{b:Nat}(h:MkS s sz n l v b): ∃p c,v= .slice p n c:=by
 rcases h with⟨rfl,rfl,_⟩|⟨h,_⟩
 ·exact⟨_,_,rfl⟩
 ·exact⟨_,_,h.val⟩
theorem MkS.len {sz n:Nat}{l:List Value}{v:Value}{b:Nat}(h:MkS s sz n l v b){z:Nat}(ht:slN E t=some z)(Q:Value->St->Prop):W (A8 E .len [t] [v]) s' Q=Q (.int .i64 (n:Nat)) s':=by
 obtain⟨p,c,rfl⟩:=h.sl
 exact B0 ht Q
theorem W.appU (hbd:s.lim<=s.next){sz by' n len b:Nat}{z l old:List Value}{v x:Value}{F:Nat->Prop}{Q:Value->St->Prop}{g:Bool}(ht:appT E t t2=some (sz,by',g,z))(hm:MkS s sz len old v b)(hx:SrcG s sz by' g z x n l F)(hn:0<n)(hs0:0<sz)(hs1:sz<1024)
  (hb:(len+n)*(by'+1)<=16777216) (hl:l.length=n*sz) (h1:l.all oneCell=true)
  (q: ∀s2 v2 b2,s.next<=b2->MkS s2 sz (len+n) (old++l) v2 b2->Ext (λx=>F x\/MkF sz len b x) (MkF sz len b) s s2->Q v2 s2):W (BS E t t2 v x) s Q:=by
 rcases hm with⟨rfl,rfl,rfl⟩|⟨hm,h0⟩
 ·rw[Nat.zero_add]at hb
  refine W.appNil hbd ht hx hn hs0 hs1 hb hl h1 λs2 v2 b2 hf xf=> ?_
  refine q s2 v2 b2 hf.new (.inr ⟨?_,by omega⟩) (xf.weak hbd (λ_ _ h=> .inl h) λ_ _ h=>h.elim)
  rw[Nat.zero_add]
  exact hf.marked
 ·refine W.appMark hbd ht hm hx hn h0 hs0 hs1 hb hl h1 λs2 v2 b2 hf xf=> ?_
  exact q s2 v2 b2 hf.new (.inr ⟨hf.marked,by omega⟩) (xf.weak hbd (λ_ _ h=>h.elim .inl λh=> .inr ⟨h0,h⟩) λ_ _ h=>⟨h0,h⟩)
end
section
variable {s s':St}{E:Env}{t t2:Nat}{xo yo:Operand}
def EmS (s:St)(sz n:Nat)(l:List Value)(v:Value)(b:Nat):Prop:=(v= .slice (some ⟨b,0,none⟩) 0 0/\n=0/\l=[])\/(Marked s sz n l v b/\0<n)
theorem EmS.same {sz n:Nat}{l:List Value}{v:Value}{b:Nat}(h:EmS s sz n l v b)(hm:s'.mem=s.mem)(hn:s'.next=s.next):EmS s' sz n l v b:=by
 rcases h with h|⟨h,h0⟩
 ·exact .inl h
 ·exact .inr ⟨h.same hm hn,h0⟩
theorem EmS.row {sz n:Nat}{l:List Value}{v:Value}{b:Nat}(h:EmS s sz n l v b): ∃c,v= .slice (some ⟨b,0,none⟩) n c/\Row s b 0 l:=by
 rcases h with⟨rfl,rfl,rfl⟩|⟨h,_⟩
 ·exact⟨_,rfl,λi u e=>by simp at e⟩
 ·exact⟨_,h.val,h.own.row⟩
theorem W.appE (hbd:s.lim<=s.next){sz by' n len b:Nat}{z l old:List Value}{v x:Value}{F:Nat->Prop}{Q:Value->St->Prop}{g:Bool}(ht:appT E t t2=some (sz,by',g,z))(hm:EmS s sz len old v b)(hx:SrcG s sz by' g z x n l F)(hs0:0<sz)(hs1:sz<1024)
  (hb:(len+n)*(by'+1)<=16777216) (hl:l.length=n*sz) (h1:l.all oneCell=true)
  (q: ∀s2 v2 b2,(b2=b\/s.next<=b2)->EmS s2 sz (len+n) (old++l) v2 b2->Ext (λx=>F x\/MkF sz len b x) (MkF sz len b) s s2->Q v2 s2):W (BS E t t2 v x) s Q:=by
 by_cases hn:n=0
 ·subst hn
  have hl0:l=[]:=List.eq_nil_of_length_eq_zero (by rw[hl,Nat.zero_mul])
  subst hl0
  have hno: ∀(o:Nat) x,In b o (0*sz) x->False:=λo x h=>by
   have h1:=h.1
   have h2:=h.2
   rw[Nat.zero_mul]at h2
   omega
  have hle: ∀c,v= .slice (some ⟨b,0,none⟩) len c->len<=c%capU:=λc hc=>by
   rcases hm with⟨e,rfl,_⟩|⟨hm,_⟩
   ·exact Nat.zero_le _
   ·have e:=hm.val
    rw[e]at hc
    have h2:len<capU:=by
     have:len*1<=(len+0)*(by'+1):=Nat.mul_le_mul (by omega) (by omega)
     unfold capU
     omega
    injection hc with _ _ hc
    rw[<-hc,Nat.mul_add_mod,Nat.mod_eq_of_lt h2]
    exact Nat.le_refl _
  obtain⟨c,rfl,_⟩:=hm.row
  refine W.appIn ht hx (by have:=hle c rfl;omega) hl h1 (λi hi=>by rw[Nat.zero_mul]at hi;omega) λs2 n2 x2 _=> ?_
  have x3:Ext (λx=>F x\/MkF sz len b x) (MkF sz len b) s s2:=x2.weak hbd (λy _ h=>h.elim .inl λh=>(hno _ y h).elim) λy _ h=>(hno _ y h).elim
  refine q s2 _ b (.inl rfl) ?_ x3
  rw[List.append_nil,Nat.add_zero]
  have x4:Ext (λx=>F x\/MkF sz len b x) Non s s2:=x2.weak hbd (λy _ h=>h.elim .inl λh=>(hno _ y h).elim) λy _ h=>hno _ y h
  rcases hm with hm|⟨hm,h0⟩
  ·exact .inl hm
  ·exact .inr ⟨hm.ext x4 λ_ _=>id,h0⟩
 ·have hn0:0<n:=by omega
  rcases hm with⟨rfl,rfl,rfl⟩|⟨hm,h0⟩
  ·rw[Nat.zero_add]at hb
   refine W.appEmp hbd ht hx hn0 hs0 hs1 hb hl h1 λs2 v2 b2 hf xf=> ?_
   refine q s2 v2 b2 (.inr hf.new) (.inr ⟨?_,by omega⟩) (xf.weak hbd (λ_ _ h=> .inl h) λ_ _ h=>h.elim)
   rw[Nat.zero_add]
   exact hf.marked
  ·refine W.appMark hbd ht hm hx hn0 h0 hs0 hs1 hb hl h1 λs2 v2 b2 hf xf=> ?_
   exact q s2 v2 b2 (.inr hf.new) (.inr ⟨hf.marked,by omega⟩) (xf.weak hbd (λ_ _ h=>h.elim .inl λh=> .inr ⟨h0,h⟩) λ_ _ h=>⟨h0,h⟩)
end
section
variable {P:Program}{E:Env}{s:St}{t:Nat}
theorem YL {op:BinOp}{xo yo:Operand}{a b:ByteArray}{v:Value}(hc: ∀s,Cl.get (aBin E op t xo yo) (.string a) (.string b) s=AS E op t xo yo (.string a) (.string b) s)(hg:semP E.P (eqGuard op t xo yo (.string a) (.string b))=some ())(hb:semP E.P (binOp op t (.string a) (.string b))=some v)(hv: ∀s:St,pV v s= .some v s):
  Cl.get (aBin E op t xo yo) (.string a) (.string b) s= .some v s:=by
 rw[hc]
 unfold AS
 show M.on (semP E.P (do eqGuard op t xo yo (.string a) (.string b);binOp op t (.string a) (.string b))) pV s=_
 rw[Fu,hg]
 show M.on (semP E.P (binOp op t (.string a) (.string b))) pV s=_
 rw[hb]
 exact hv s
theorem AaC_ {xo yo:Operand}(a b:ByteArray)(Q:Value->St->Prop):W (Cl.get (aBin E .eql t xo yo) (.string a) (.string b)) s Q=Q (.bool (a.data.toList==b.data.toList)) s:=
 AJ (YL (λ_=>rfl) rfl (by rw[<-ByteArray.toList_eq,<-ByteArray.toList_eq];rfl) λ_=>rfl)
theorem LW {xo yo:Operand}{a b:ByteArray}(h:a.size+b.size<=9223372036854775807)(Q:Value->St->Prop):W (Cl.get (aBin E .add t xo yo) (.string a) (.string b)) s Q=Q (.string (a++b)) s:=
 AJ (YL (λ_=>rfl) rfl (by
  show semP E.P (if((a.size+b.size:Nat):Int)>IntKind.i64.max then _ else _)=_
  rw[if_neg (by show ¬((a.size+b.size:Nat):Int)>9223372036854775807;omega)]
  rfl) λ_=>rfl)
end
theorem E9 (l:List Value):cellsOf (.agg l.toArray)=l:=rfl
abbrev Any:Nat->Prop:=λ_=>True
theorem Ext.any {F G:Nat->Prop}{s s1:St}(h:Ext F G s s1)(hb:s.lim<=s.next):Ext Any G s s1:=h.weak hb (λ_ _ _=>trivial) λ_ _ h=>h
theorem Ext.then0 {F:Nat->Prop}{s s1 s2:St}(h:Ext Any Non s s1)(k:Ext F Non s1 s2)(hb:s.lim<=s.next):Ext Any Non s s2:=h.trans k hb (λ_ _ _=>trivial) λ_ _ h=>h
theorem Ext.thenRd {s s1:St}(h:Ext Any Non s s1)(hb:s.lim<=s.next)(l:Nat):Ext Any Non s (s1.rdN l):=h.then0 (Ext.rdN (F:=Any) s1 l λ_=>trivial) hb
theorem Ext.cx' {F G:Nat->Prop}{s s1:St}{c:Ctx}(x:Ext F G (s.cxN c) s1):Ext F G s (s1.cxN s.cx):=⟨x.nxt,x.lim,rfl,x.mem,x.rd,x.wr⟩
section
variable {E:Env}{t:Nat}{s:St}{xo yo:Operand}
theorem neSN {a:Addr}(h:ptrT E t=true):Cl.get (aBin E .neq t xo yo) (.pointer (some a)) (.pointer none) s= .some (.bool true) s:=by
 unfold ptrT at h
 split at h
 ·rename_i i hi
  split at h
  ·rename_i e hu
   show CP E .neq t (.pointer (some a)) (.pointer none) s=_
   unfold CP
   rw[Ba (show ti E t s= .some i s by unfold ti;rw[hi];rfl),hu]
   rfl
  ·cases h
 ·cases h
theorem WN_ {a:Addr}(h:ptrT E t=true)(Q:Value->St->Prop):W (Cl.get (aBin E .neq t xo yo) (.pointer (some a)) (.pointer none)) s Q=Q (.bool true) s:=AJ (neSN h)
end
def Nt (P:Program)(t:TypeId)(l:List (TypeId×Nat)):Bool:=match P.underlying t with
 |some (.struct fs)=>decide (fs.toList.map (λx=>(x.type,x.offset))=l)
 |_=>false
theorem Ax.struct {P:Program}{N F:Nat}{s:St}{t:TypeId}{us:List Value}{l:List (TypeId×Nat)}(hb:Nt P t l=true)(h:Ax P N s (F+1) t us):us.length=P.cellsOf t/\ ∀x∈l,Ax P N s F x.1 ((us.drop x.2).take (P.cellsOf x.1)):=by
 unfold Nt at hb
 unfold Ax at h
 cases hu:P.underlying t with
 |none=>rw[hu]at hb;cases hb
 |some u=>
  rw[hu]at hb h
  cases u<;>try (cases hb;done)
  have e:=of_decide_eq_true hb
  refine⟨h.1,λx hx=> ?_⟩
  rw[<-e]at hx
  obtain⟨y,hy,rfl⟩:=List.mem_map.1 hx
  exact h.2 y hy
theorem Ax.int' {P:Program}{N F:Nat}{s:St}{t:TypeId}{k:IntKind}{us:List Value}(hu:P.underlying t=some (.int k))(h:Ax P N s (F+1) t us): ∃n,us=[.int k n]/\(Lit.int k n).wf=true:=by
 unfold Ax at h
 rw[hu]at h
 exact h
theorem F3.one {P:Program}{N F:Nat}{s:St}{t:TypeId}{u:Value}(hb:aggT P t=false)(h:F3 P N s F t u):Ax P N s F t [u]:=by
 obtain⟨us,h1,⟨h2,_⟩|⟨_,rfl⟩⟩:=h
 ·rw[hb]at h2;cases h2
 ·exact h1
theorem F3.agg {P:Program}{N F:Nat}{s:St}{t:TypeId}{u:Value}(hb:aggT P t=true)(h:F3 P N s F t u): ∃us,u= .agg us.toArray/\Ax P N s F t us:=by
 obtain⟨us,h1,⟨_,h2⟩|⟨h2,_⟩⟩:=h
 ·exact⟨us,h2,h1⟩
 ·rw[hb]at h2;cases h2
