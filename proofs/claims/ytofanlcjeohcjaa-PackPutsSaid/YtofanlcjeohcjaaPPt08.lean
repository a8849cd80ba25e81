import Derived.Test.YtofanlcjeohcjaaPPt07
import Derived.ChangeKeysEq
import Derived.Laws.Strings
import GoSem.ClaimWide
import Derived.ChangeShapes
import Derived.ChangeSlices
import Derived.WideShapes
noncomputable section
namespace Go.Proofs.Ytofanlcjeohcjaa.Am
section
variable {α β:Type}{s:St}{E:Env}{t:Nat}
abbrev u8 (n:Nat):Value:= .int .u8 (n:Int)
abbrev u8l (l:List Nat):List Value:=l.map fun n:Nat=>Value.int .u8 (n:Int)
theorem Be (l:List Nat):(u8l l).length=l.length:=by simp
def Bs (s:St)(v:Value)(l:List Nat):Prop:=
 (v= .slice none 0 0∧l=[])∨ ∃b o c,v= .slice (some ⟨b,o,none⟩) l.length c∧l.length≤c%capU∧Cr c 1=true∧Row s b o (u8l l)
def BsF (v:Value):Nat→Prop:=match v with
 | .slice (some ⟨b,o,_⟩) n _=>In b o n
 |_=>Non
theorem Bs.ext {F G:Nat→Prop}{s s':St}{v:Value}{l:List Nat}(h:Bs s v l)(e:Ext F G s s')(hG: ∀x,BsF v x→ ¬G x):Bs s' v l:=by
 rcases h with h|⟨b,o,c,rfl,h1,h2,h3⟩
 ·exact .inl h
 ·refine .inr ⟨b,o,c,rfl,h1,h2,h3.ext e fun i hi=>hG _ ?_⟩
  rw[Be]at hi
  exact⟨by omega,by omega⟩
theorem Bs.ext0 {F:Nat→Prop}{s s':St}{v:Value}{l:List Nat}(h:Bs s v l)(e:Ext F Non s s'):Bs s' v l:=h.ext e fun _ _=>id
theorem Bs.same {s s':St}{v:Value}{l:List Nat}(h:Bs s v l)(hm:s'.mem=s.mem)(hn:s'.next=s.next):Bs s' v l:=by
 rcases h with h|⟨b,o,c,h0,h1,h2,h3⟩
 ·exact .inl h
 ·exact .inr ⟨b,o,c,h0,h1,h2,fun i v e=>(h3 i v e).same hm hn⟩
theorem Bs.sl {v:Value}{l:List Nat}(h:Bs s v l): ∃p c,v= .slice p l.length c:=by
 rcases h with⟨rfl,rfl⟩|⟨b,o,c,rfl,_⟩
 ·exact⟨_,_,rfl⟩
 ·exact⟨_,_,rfl⟩
theorem Bs.len {v:Value}{l:List Nat}{sz:Nat}(h:Bs s v l)(ht:slN E t=some sz)(Q:Value→St→Prop):W (A6 E .len [t] [v]) s Q=Q (.int .i64 (l.length:Nat)) s:=by
 obtain⟨p,c,rfl⟩:=h.sl
 exact Ch ht Q
theorem Row.at {b o:Nat}{l:List Nat}(h:Row s b o (u8l l)){k x:Nat}(hk:l[k]?=some x):At s b (o+k) (u8 x):=h k _ (by rw[List.getElem?_map,hk];rfl)
theorem Row.take {b o n:Nat}{l:List Value}(h:Row s b o l):Row s b o (l.take n):=fun i v e=>by
 rw[List.getElem?_take]at e
 split at e
 ·exact h i v e
 ·cases e
theorem Row.drop {b o n:Nat}{l:List Value}(h:Row s b o l):Row s b (o+n) (l.drop n):=fun i v e=>by
 rw[List.getElem?_drop]at e
 have:=h _ v e
 rw[show o+n+i=o+(n+i) by omega]
 exact this
theorem Ah.take {b o n:Nat}{l:List Value}(h:Ah s b o l):Ah s b o (l.take n):=fun i v e=>by
 rw[List.getElem?_take]at e
 split at e
 ·exact h i v e
 ·cases e
theorem Ah.drop {b o n:Nat}{l:List Value}(h:Ah s b o l):Ah s b (o+n) (l.drop n):=fun i v e=>by
 rw[List.getElem?_drop]at e
 have:=h _ v e
 rw[show o+n+i=o+(n+i) by omega]
 exact this
def txt (l:List Nat):ByteArray:=⟨(l.map UInt8.ofNat).toArray⟩
theorem YT: ∀(l:List Nat),HG (u8l l)=some (l.map UInt8.ofNat)
 |[]=>rfl
 |n::l=>by
  show onO (some (UInt8.ofNat n)) (fun b=>onO (HG (u8l l)) fun l=>some (b::l))=_
  rw[YT l]
  rfl
def Ot (E:Env)(t:Nat):Bool:=match T.get E.ty t with|some i=>(match i.u with| .string=>true|_=>false)|none=>false
def Pl (E:Env)(t:Nat):Bool:=match T.get E.ty t with
 |some i=>(match i.u with| .slice e=>(match T.get E.ty e with|some ie=>(match ie.u with| .int .u8=>true|_=>false)|none=>false)|_=>false)
 |none=>false
theorem W.str {d:Nat}{v:Value}{l:List Nat}{Q:Value→St→Prop}(h:Bs s v l)(hz:l≠[]∨ ∃b o c,v= .slice (some ⟨b,o,none⟩) l.length c)(h1:Pl E t=true)(h2:Ot E d=true)
  (q: ∀s1,s1.mem=s.mem→s1.next=s.next→Ext (BsF v) Non s s1→Q (.string (txt l)) s1):W (Bu E t d v) s Q:=by
 have h': ∃b o c,v= .slice (some ⟨b,o,none⟩) l.length c∧Row s b o (u8l l):=by
  rcases h with⟨rfl,rfl⟩|⟨b,o,c,rfl,_,_,h3⟩
  ·rcases hz with hz|⟨b,o,c,hz⟩
   ·exact absurd rfl hz
   ·cases hz
  ·exact⟨b,o,c,rfl,h3⟩
 obtain⟨b,o,c,rfl,h3⟩:=h'
 unfold Pl at h1
 split at h1
 ·rename_i i hi
  split at h1
  ·rename_i e hu
   split at h1
   ·rename_i ie he
    split at h1
    ·rename_i hk
     unfold Ot at h2
     split at h2
     ·rename_i id hd
      split at h2
      ·rename_i hs
       have conv: ∀s:St,Bu E t d (.slice (some ⟨b,o,none⟩) l.length c) s=strOf ⟨b,o,none⟩ l.length s:=fun s=>by
        show D6 E t d ⟨b,o,none⟩ l.length c s=_
        unfold D6
        rw[Bw (show Am.ti E t s= .some i s by unfold Am.ti;rw[hi];rfl),Bw (show Am.ti E d s= .some id s by unfold Am.ti;rw[hd];rfl)]
        simp only[hu,hs]
        show D0 E t d (.slice (some ⟨b,o,none⟩) l.length c) s=_
        show EX E t d ⟨b,o,none⟩ l.length s=_
        unfold EX
        rw[Bw (show Am.ti E t s= .some i s by unfold Am.ti;rw[hi];rfl),Bw (show Am.ti E d s= .some id s by unfold Am.ti;rw[hd];rfl)]
        simp only[hu,hs]
        rw[Bw (show Am.ti E e s= .some ie s by unfold Am.ti;rw[he];rfl)]
        simp only[hk]
       refine W.cast (conv s) ?_
       have hl:l.length=(u8l l).length:=(Be l).symm
       show W (M.bind (Am.rdL l.length ⟨b,o,none⟩) fun x=>M.on (HG x) fun bs=>M.pure (.string ⟨bs.toArray⟩)) s Q
       rw[hl]
       refine W.bind (W.rdL h3 fun s1 e1 e2 e3=>W.on (YT l) (W.pure (q s1 e1 e2 ?_)))
       rw[Be]at e3
       exact e3
      ·cases h2
     ·cases h2
    ·cases h1
   ·cases h1
  ·cases h1
 ·cases h1
theorem NH {P:Program}{u:TypeDesc}(h:P.underlying t=some u):semP P (underlying t)=some u:=by
 unfold underlying program
 show semP P ((match P.underlying t with|some d=>pure d|none=>_):Sem TypeDesc)=_
 rw[h]
 rfl
end
def appT (E:Env)(t t2:Nat):Option (Nat×Nat×Bool×List Value):=match T.get E.ty t,T.get E.ty t2 with
 |some i,some i2=>(match i.u with| .slice e=>(match T.get E.ty e with|some ie=>some (ie.size,ie.bytes,DD i2.u,ie.zero)|none=>none)|_=>none)
 |_,_=>none
def elT (E:Env)(t:Nat):Option (Nat×Nat×List Value):=match T.get E.ty t with
 |some i=>(match i.u with| .slice e=>(match T.get E.ty e with|some ie=>some (ie.size,ie.bytes,ie.zero)|none=>none)|_=>none)
 |none=>none
section
variable {α β:Type}{s:St}{E:Env}{t t2:Nat}
theorem JC {sz by':Nat}{g:Bool}{z:List Value}(h:appT E t t2=some (sz,by',g,z)): ∃i i2 e ie,T.get E.ty t=some i∧T.get E.ty t2=some i2∧i.u= .slice e∧T.get E.ty e=some ie∧ie.size=sz∧ie.bytes=by'∧DD i2.u=g∧ie.zero=z:=by
 unfold appT at h
 split at h
 ·rename_i i i2 h1 h2
  split at h
  ·rename_i e hu
   split at h
   ·rename_i ie he
    cases h
    exact⟨i,i2,e,ie,h1,h2,hu,he,rfl,rfl,rfl,rfl⟩
   ·cases h
  ·cases h
 ·cases h
theorem Qe {sz by':Nat}{z:List Value}(h:elT E t=some (sz,by',z)): ∃i e ie,T.get E.ty t=some i∧i.u= .slice e∧T.get E.ty e=some ie∧ie.size=sz∧ie.bytes=by'∧ie.zero=z:=by
 unfold elT at h
 split at h
 ·rename_i i h1
  split at h
  ·rename_i e hu
   split at h
   ·rename_i ie he
    cases h
    exact⟨i,e,ie,h1,hu,he,rfl,rfl,rfl⟩
   ·cases h
  ·cases h
 ·cases h
def Src (s:St)(sz:Nat)(x:Value)(n:Nat)(l:List Value)(F:Nat→Prop):Prop:=
 (∃p c,x= .slice p n c)∧ ∃s1,srcL sz x n s= .some l s1∧s1.mem=s.mem∧s1.next=s.next∧Ext F Non s s1
theorem HN_ {b o n c sz:Nat}{l:List Value}(h:Row s b o l)(hl:l.length=n*sz):Src s sz (.slice (some ⟨b,o,none⟩) n c) n l (In b o (n*sz)):=by
 refine⟨⟨_,_,rfl⟩, ?_⟩
 obtain⟨a,s1,e,rfl,h1,h2,h3⟩:=W.rdL (Q:=fun a s1=>a=l∧s1.mem=s.mem∧s1.next=s.next∧Ext (fun x=>b+o≤x∧x<b+o+l.length) Non s s1) h fun s1 e1 e2 e3=>⟨rfl,e1,e2,e3⟩
 refine⟨s1, ?_,h1,h2, ?_⟩
 ·show rdL (n*sz) ⟨b,o,none⟩ s=_
  rw[←hl]
  exact e
 ·rw[hl]at h3
  exact h3
theorem Lh_ {sz:Nat}:Src s sz (.slice none 0 0) 0 [] Non:=⟨⟨_,_,rfl⟩,s,rfl,rfl,rfl,Ext.refl s⟩
def SrcG (s:St)(sz by':Nat)(g:Bool)(z:List Value)(x:Value)(n:Nat)(l:List Value)(F:Nat→Prop):Prop:=
 ∀ie:TI,ie.size=sz→ie.bytes=by'→ie.zero=z→(∀s':St,appN g ie.bytes x s'= .some n s')∧ ∃s1,appL g ie x n s= .some l s1∧s1.mem=s.mem∧s1.next=s.next∧Ext F Non s s1
theorem Src.g {sz by' n:Nat}{z l:List Value}{x:Value}{F:Nat→Prop}(h:Src s sz x n l F):SrcG s sz by' false z x n l F:=fun ie h1 _ _=>by
 obtain⟨⟨p,c,rfl⟩,s1,e,m1,n1,x1⟩:=h
 subst h1
 exact⟨fun _=>rfl,s1,e,m1,n1,x1⟩
theorem Gh_ {sz by' n:Nat}{z:List Value}(h:n*(by'+1)≤16777216):SrcG s sz by' true z (.int .i64 (n:Nat)) n (rep n z) Non:=fun ie _ h2 h3=>by
 subst h2;subst h3
 refine⟨fun s'=> ?_,s,rfl,rfl,rfl,Ext.refl s⟩
 show M.chk (Nat.ble (n*(ie.bytes+1)) 16777216) (M.pure n) s'=_
 rw[Nat.ble_eq_true_of_le h]
 rfl
theorem W.appIn {sz by' len n b o c:Nat}{z l:List Value}{x:Value}{F:Nat→Prop}{Q:Value→St→Prop}{g:Bool}(ht:appT E t t2=some (sz,by',g,z))(hx:SrcG s sz by' g z x n l F)(hr:len+n≤c%capU)(hl:l.length=n*sz)(h1:l.all oneCell=true)
  (own: ∀i,i<n*sz→ ∃u,Own s b (o+len*sz+i) u)
  (q: ∀s2,s2.next=s.next→Ext (fun x=>F x∨In b (o+len*sz) (n*sz) x) (In b (o+len*sz) (n*sz)) s s2→Ah s2 b (o+len*sz) l→Q (.slice (some ⟨b,o,none⟩) (len+n) c) s2):W (CS E t t2 (.slice (some ⟨b,o,none⟩) len c) x) s Q:=by
 obtain⟨i,i2,e,ie,g1,g2,g3,g4,g5,g6,g7,g8⟩:=JC ht
 obtain⟨hN,s1,e1,m1,n1,x1⟩:=hx ie g5 g6 g8
 subst g5
 refine W.bind (W.ti g1 (W.bind (W.ti g2 ?_)))
 rw[g3,g7]
 refine W.bind (W.ti g4 (W.bind (W.of (hN s) (W.bind ?_))))
 refine W.of e1 ?_
 show W (M.if (Nat.ble (Nat.add len n) (Nat.mod c capU)) _ _) s1 Q
 rw[show Nat.ble (Nat.add len n) (Nat.mod c capU)=true from Nat.ble_eq_true_of_le hr]
 have own1: ∀i,i<l.length→ ∃u,Own s1 b (o+len*ie.size+i) u:=fun i hi=>by
  obtain⟨u,hu⟩:=own i (by rw[←hl];exact hi)
  exact⟨u,hu.same m1 n1⟩
 refine W.bind (m:=Am.wrL l (addA ⟨b,o,none⟩ (Nat.mul len ie.size))) (W.wrL own1 h1 fun s2 n2 x2 r2=> ?_)
 show W (Am.fA (⟨b,o,none⟩:Addr) fun a=>Am.fN (Nat.add len n) fun l=>Am.fN c fun c=>M.pure (.slice (some a) l c)) s2 Q
 refine W.fA (W.fN (W.fN (W.pure (q s2 (n2.trans n1) ?_ r2))))
 rw[hl]at x2
 obtain⟨d1,p1,p2⟩:=x1.rd
 obtain⟨d2,p3,p4⟩:=x2.rd
 obtain⟨d3,p5,p6⟩:=x1.wr
 obtain⟨d4,p7,p8⟩:=x2.wr
 refine⟨Nat.le_of_eq (n2.trans n1).symm,x2.lim.trans x1.lim,x2.cx.trans x1.cx,fun y q1 q2=>by rw[x2.mem y (by rw[n1];exact q1) q2,m1],⟨d2++d1,by rw[p3,p1,List.append_assoc],fun y hy=> ?_⟩,⟨d4++d3,by rw[p7,p5,List.append_assoc],fun y hy=> ?_⟩⟩
 ·rcases List.mem_append.1 hy with hy|hy
  ·have:=p4 y hy
   rw[x1.lim]at this
   exact⟨this.1, .inr this.2⟩
  ·exact⟨(p2 y hy).1, .inl (p2 y hy).2⟩
 ·rcases List.mem_append.1 hy with hy|hy
  ·have:=p8 y hy
   rw[x1.lim]at this
   exact this
  ·exact(p6 y hy).2.elim
structure Fresh1 (s s':St)(sz n:Nat)(l:List Value)(v:Value)(b:Nat):Prop where
 val:v= .slice (some ⟨b,0,none⟩) n (capU*((b+n*sz)*1024+sz)+n)
 new:s.next≤b
 own:Ah s' b 0 l
 len:l.length=n*sz
 tok: ∃q,q%1024=sz∧T.get s'.mem (b+n*sz)=some (.O (.tok false q))
 lt:b+n*sz<s'.next
theorem W.appNilT (hbd:s.lim≤s.next){sz by' n:Nat}{z l:List Value}{x:Value}{F:Nat→Prop}{Q:Value→St→Prop}{g:Bool}(ht:appT E t t2=some (sz,by',g,z))(hx:SrcG s sz by' g z x n l F)(hn:0<n)(hs0:0<sz)(hs1:sz<1024)(hb:n*(by'+1)≤16777216)(hl:l.length=n*sz)(h1:l.all oneCell=true)
  (q: ∀s2 v b,Fresh1 s s2 sz n l v b→T.get s2.mem (b+n*sz)=some (.O (.tok false (flg sz 1 (C9 z))))→Ext F Non s s2→Q v s2):W (CS E t t2 (.slice none 0 0) x) s Q:=by
 obtain⟨i,i2,e,ie,g1,g2,g3,g4,g5,g6,g7,g8⟩:=JC ht
 obtain⟨hN,s1,e1,m1,n1,x1⟩:=hx ie g5 g6 g8
 subst g5;subst g6
 refine W.bind (W.ti g1 (W.bind (W.ti g2 ?_)))
 rw[g3,g7]
 refine W.bind (W.ti g4 (W.bind (W.of (hN s) (W.bind ?_))))
 refine W.of e1 ?_
 show W (M.if (Nat.ble (Nat.add 0 n) (Nat.mod 0 capU)) _ _) s1 Q
 have hz:Nat.ble (Nat.add 0 n) (Nat.mod 0 capU)=false:=by
  cases hq:Nat.ble (Nat.add 0 n) (Nat.mod 0 capU)with
  |false=>rfl
  |true=>
   have h2:=Nat.le_of_ble_eq_true hq
   have h3:Nat.mod 0 capU=0:=Nat.zero_mod _
   rw[h3]at h2
   have h4:Nat.add 0 n=n:=Nat.zero_add n
   rw[h4]at h2
   omega
 rw[hz]
 show W (grow ie.size ie.bytes (C9 ie.zero) none 0 0 n l) s1 Q
 rw[g8]
 unfold grow
 refine W.chk ?_ (W.bind (W.pure (W.bind ?_)))
 ·rw[h1,hl,Nat.zero_add]
  simp only[Bool.and_true,Bool.and_eq_true,Bool.or_eq_true]
  refine⟨⟨⟨⟨Nat.ble_eq_true_of_le hb,BU hs0⟩,BU hs1⟩, .inr rfl⟩,Nat.beq_refl _⟩
 ·show W (Df ie.size none (Nat.mod 0 capU) (Nat.div 0 capU)) s1 _
  have hd:Nat.div 0 capU=0:=Nat.zero_div _
  rw[hd]
  show W (M.pure 1) s1 _
  refine W.pure (W.bind (W.newL fun s2 n2 x2 r2=>W.fN (W.fN (W.bind (W.wrC ?_ ?_)))))
  ·rw[n2,n1]
   simp only[Nat.add_eq,Nat.mul_eq,Nat.zero_mul,List.take_zero,List.nil_append,hl,Nat.zero_add]
   omega
  ·show W (Am.fA (⟨s1.next,0,none⟩:Addr) fun a=>Am.fN (Nat.add 0 n) fun l=>Am.fN _ fun c=>M.pure (.slice (some a) l c)) _ Q
   have hlen:([].take (Nat.mul 0 ie.size)++l:List Value)=l:=by simp
   rw[hlen]at n2 r2
   have hadd:Nat.add 0 n=n:=Nat.zero_add n
   have htok: ∀c:Cell,T.get (T.set s2.mem (Nat.add s1.next (Nat.mul (Nat.add 0 n) ie.size)) c) (s1.next+n*ie.size)=some c:=fun c=>by
    rw[hadd,T.get_set]
    exact if_pos rfl
   refine W.fA (W.fN (W.fN (W.pure (q _ _ s1.next ⟨?_,Nat.le_of_eq n1.symm, ?_,hl,⟨_,GV hs1,htok _⟩, ?_⟩ (htok _) ?_))))
   ·rw[hadd]
    rfl
   ·intro k v hk
    have hk':=(List.getElem?_eq_some_iff.1 hk).1
    have:=r2 k v hk
    refine⟨this.1, ?_⟩
    show T.get (T.set s2.mem _ _) _=_
    rw[T.get_set,if_neg]
    ·exact this.2
    ·rw[hadd]
     show s1.next+(0+k)≠s1.next+n*ie.size
     omega
   ·show s1.next+n*ie.size<s2.next
    rw[n2,hl]
    omega
   ·obtain⟨d1,p1,p2⟩:=x1.rd
    obtain⟨d2,p3,p4⟩:=x2.rd
    obtain⟨d3,p5,p6⟩:=x1.wr
    obtain⟨d4,p7,p8⟩:=x2.wr
    obtain⟨d5,p9,p10⟩:=Gu (Nat.add s1.next (Nat.mul (Nat.add 0 n) ie.size)) s2.lim s2.wr
    refine⟨?_,x2.lim.trans x1.lim,x2.cx.trans x1.cx,fun y q1 q2=> ?_,⟨d2++d1, ?_, ?_⟩,⟨[], ?_,fun _ h=>by cases h⟩⟩
    ·show s.next≤s2.next
     rw[n2,n1];omega
    ·show T.get (T.set s2.mem _ _) y=_
     rw[T.get_set,if_neg,x2.mem y (by rw[n1];exact q1) id,m1]
     rw[hadd]
     show y≠s1.next+n*ie.size
     rw[n1];omega
    ·show s2.rd=_
     rw[p3,p1,List.append_assoc]
    ·intro y hy
     rcases List.mem_append.1 hy with hy|hy
     ·exact(p4 y hy).2.elim
     ·exact p2 y hy
    ·show notes _ s2.lim s2.wr=s.wr
     have e1:s2.wr=s.wr:=by
      have h5:d3=[]:=by
       cases d3 with
       |nil=>rfl
       |cons y l=>exact(p6 y (by simp)).2.elim
      have h7:d4=[]:=by
       cases d4 with
       |nil=>rfl
       |cons y l=>exact(p8 y (by simp)).2.elim
      rw[p7,p5,h5,h7];rfl
     unfold notes
     rw[GM,e1]
     show s2.lim≤s1.next+Nat.mul (Nat.add 0 n) ie.size
     rw[x2.lim,x1.lim,n1]
     omega
theorem W.appEmpT (hbd:s.lim≤s.next){sz by' n b0 o0:Nat}{z l:List Value}{x:Value}{F:Nat→Prop}{Q:Value→St→Prop}{g:Bool}(ht:appT E t t2=some (sz,by',g,z))(hx:SrcG s sz by' g z x n l F)(hn:0<n)(hs0:0<sz)(hs1:sz<1024)(hb:n*(by'+1)≤16777216)(hl:l.length=n*sz)(h1:l.all oneCell=true)
  (q: ∀s2 v b,Fresh1 s s2 sz n l v b→T.get s2.mem (b+n*sz)=some (.O (.tok false (flg sz 1 (C9 z))))→Ext F Non s s2→Q v s2):W (CS E t t2 (.slice (some ⟨b0,o0,none⟩) 0 0) x) s Q:=by
 obtain⟨i,i2,e,ie,g1,g2,g3,g4,g5,g6,g7,g8⟩:=JC ht
 obtain⟨hN,s1,e1,m1,n1,x1⟩:=hx ie g5 g6 g8
 subst g5;subst g6
 refine W.bind (W.ti g1 (W.bind (W.ti g2 ?_)))
 rw[g3,g7]
 refine W.bind (W.ti g4 (W.bind (W.of (hN s) (W.bind ?_))))
 refine W.of e1 ?_
 show W (M.if (Nat.ble (Nat.add 0 n) (Nat.mod 0 capU)) _ _) s1 Q
 have hz:Nat.ble (Nat.add 0 n) (Nat.mod 0 capU)=false:=by
  cases hq:Nat.ble (Nat.add 0 n) (Nat.mod 0 capU)with
  |false=>rfl
  |true=>
   have h2:=Nat.le_of_ble_eq_true hq
   have h3:Nat.mod 0 capU=0:=Nat.zero_mod _
   rw[h3]at h2
   have h4:Nat.add 0 n=n:=Nat.zero_add n
   rw[h4]at h2
   omega
 rw[hz]
 show W (grow ie.size ie.bytes (C9 ie.zero) (some ⟨b0,o0,none⟩) 0 0 n l) s1 Q
 rw[g8]
 unfold grow
 have hold:oldL ie.size (some ⟨b0,o0,none⟩) (Bool.rec (motive:=fun _=>Nat) (Nat.mod 0 capU) 0 (Nat.beq (Nat.div 0 capU) 0)) s1= .some [] s1:=by
  have hd:Nat.div 0 capU=0:=Nat.zero_div _
  rw[hd]
  show Am.rdL (0*ie.size) ⟨b0,o0,none⟩ s1=_
  rw[Nat.zero_mul]
  rfl
 refine W.chk ?_ (W.bind (W.of hold (W.bind ?_)))
 ·rw[h1,hl,Nat.zero_add]
  simp only[Bool.and_true,Bool.and_eq_true,Bool.or_eq_true]
  refine⟨⟨⟨⟨Nat.ble_eq_true_of_le hb,BU hs0⟩,BU hs1⟩, .inr rfl⟩,Nat.beq_refl _⟩
 ·show W (Df ie.size (some ⟨b0,o0,none⟩) (Nat.mod 0 capU) (Nat.div 0 capU)) s1 _
  have hd:Nat.div 0 capU=0:=Nat.zero_div _
  rw[hd]
  show W (M.pure 1) s1 _
  refine W.pure (W.bind (W.newL fun s2 n2 x2 r2=>W.fN (W.fN (W.bind (W.wrC ?_ ?_)))))
  ·rw[n2,n1]
   simp only[Nat.add_eq,Nat.mul_eq,Nat.zero_mul,List.take_zero,List.nil_append,hl,Nat.zero_add]
   omega
  ·show W (Am.fA (⟨s1.next,0,none⟩:Addr) fun a=>Am.fN (Nat.add 0 n) fun l=>Am.fN _ fun c=>M.pure (.slice (some a) l c)) _ Q
   have hlen:([].take (Nat.mul 0 ie.size)++l:List Value)=l:=by simp
   rw[hlen]at n2 r2
   have hadd:Nat.add 0 n=n:=Nat.zero_add n
   have htok: ∀c:Cell,T.get (T.set s2.mem (Nat.add s1.next (Nat.mul (Nat.add 0 n) ie.size)) c) (s1.next+n*ie.size)=some c:=fun c=>by
    rw[hadd,T.get_set]
    exact if_pos rfl
   refine W.fA (W.fN (W.fN (W.pure (q _ _ s1.next ⟨?_,Nat.le_of_eq n1.symm, ?_,hl,⟨_,GV hs1,htok _⟩, ?_⟩ (htok _) ?_))))
   ·rw[hadd]
    rfl
   ·intro k v hk
    have hk':=(List.getElem?_eq_some_iff.1 hk).1
    have:=r2 k v hk
    refine⟨this.1, ?_⟩
    show T.get (T.set s2.mem _ _) _=_
    rw[T.get_set,if_neg]
    ·exact this.2
    ·rw[hadd]
     show s1.next+(0+k)≠s1.next+n*ie.size
     omega
   ·show s1.next+n*ie.size<s2.next
    rw[n2,hl]
    omega
   ·obtain⟨d1,p1,p2⟩:=x1.rd
    obtain⟨d2,p3,p4⟩:=x2.rd
    obtain⟨d3,p5,p6⟩:=x1.wr
    obtain⟨d4,p7,p8⟩:=x2.wr
    obtain⟨d5,p9,p10⟩:=Gu (Nat.add s1.next (Nat.mul (Nat.add 0 n) ie.size)) s2.lim s2.wr
    refine⟨?_,x2.lim.trans x1.lim,x2.cx.trans x1.cx,fun y q1 q2=> ?_,⟨d2++d1, ?_, ?_⟩,⟨[], ?_,fun _ h=>by cases h⟩⟩
    ·show s.next≤s2.next
     rw[n2,n1];omega
    ·show T.get (T.set s2.mem _ _) y=_
     rw[T.get_set,if_neg,x2.mem y (by rw[n1];exact q1) id,m1]
     rw[hadd]
     show y≠s1.next+n*ie.size
     rw[n1];omega
    ·show s2.rd=_
     rw[p3,p1,List.append_assoc]
    ·intro y hy
     rcases List.mem_append.1 hy with hy|hy
     ·exact(p4 y hy).2.elim
     ·exact p2 y hy
    ·show notes _ s2.lim s2.wr=s.wr
     have e1:s2.wr=s.wr:=by
      have h5:d3=[]:=by
       cases d3 with
       |nil=>rfl
       |cons y l=>exact(p6 y (by simp)).2.elim
      have h7:d4=[]:=by
       cases d4 with
       |nil=>rfl
       |cons y l=>exact(p8 y (by simp)).2.elim
      rw[p7,p5,h5,h7];rfl
     unfold notes
     rw[GM,e1]
     show s2.lim≤s1.next+Nat.mul (Nat.add 0 n) ie.size
     rw[x2.lim,x1.lim,n1]
     omega
theorem W.appEmp (hbd:s.lim≤s.next){sz by' n b0 o0:Nat}{z l:List Value}{x:Value}{F:Nat→Prop}{Q:Value→St→Prop}{g:Bool}(ht:appT E t t2=some (sz,by',g,z))(hx:SrcG s sz by' g z x n l F)(hn:0<n)(hs0:0<sz)(hs1:sz<1024)(hb:n*(by'+1)≤16777216)(hl:l.length=n*sz)(h1:l.all oneCell=true)
 (q: ∀s2 v b,Fresh1 s s2 sz n l v b→Ext F Non s s2→Q v s2):W (CS E t t2 (.slice (some ⟨b0,o0,none⟩) 0 0) x) s Q:=W.appEmpT hbd ht hx hn hs0 hs1 hb hl h1 fun s2 v b f _ x=>q s2 v b f x
end
def bndV (o:Option Value)(d:Nat):Option Nat:=match o with
 |none=>some d
 |some (.int _ (.ofNat n))=>some n
 |_=>none
section
variable {α β:Type}{s:St}{E:Env}{t t2:Nat}
theorem G8 {o:Option Value}{top d n:Nat}(h:bndV o d=some n)(ht:n≤top):bnd o top d s= .some n s:=by
 unfold bndV at h
 split at h
 ·cases h;rfl
 ·cases h
  show M.chk (Nat.ble n top) (M.pure n) s=_
  rw[Nat.ble_eq_true_of_le ht]
  rfl
 ·cases h
theorem IG {sz len c b o l h:Nat}{lo hi:Option Value}(ht:slN E t=some sz)(hlo:bndV lo 0=some l)(hhi:bndV hi len=some h)(hl:l≤h)(hc:h≤c%capU)(hs:Cr c sz=true)(Q:Value→St→Prop):
  W (BW E t (.slice (some ⟨b,o,none⟩) len c) lo hi) s Q=Q (.slice (some ⟨b,if l<c%capU then o+l*sz else o,none⟩) (h-l) (c-l)) s:=by
 obtain⟨i,e,ie,h1,h2,h3,h4⟩:=Hb ht
 subst h4
 refine By ?_
 unfold BW
 rw[Bw (show ti E t s= .some i s by unfold ti;rw[h1];rfl)]
 simp only[h2]
 rw[Bw (show ti E e s= .some ie s by unfold ti;rw[h3];rfl)]
 unfold slSl
 show M.bind (bnd hi (c%capU) len) _ s=_
 rw[Bw (G8 hhi hc),Bw (G8 hlo hl),hs]
 show pSl _ _ _ s=_
 unfold pSl
 rw[CU,AY,AY]
 show R.some _ s=_
 by_cases hq:l<c%capU
 ·rw[if_pos hq,show Nat.blt l (Nat.mod c capU)=true from BU hq]
  rfl
 ·rw[if_neg hq,show Nat.blt l (Nat.mod c capU)=false from GM (Nat.le_of_not_lt hq)]
  rfl
theorem Fc {n sz b o l h:Nat}{lo hi:Option Value}(ht:arrN E t=some (n,sz))(hn:n<capU)(hlo:bndV lo 0=some l)(hhi:bndV hi n=some h)(hl:l≤h)(hc:h≤n)(Q:Value→St→Prop):
  W (BW E t (.pointer (some ⟨b,o,none⟩)) lo hi) s Q=Q (.slice (some ⟨b,if n=l then o else o+l*sz,none⟩) (h-l) (n-l)) s:=by
 obtain⟨i,e,ie,h1,h2,h3,h4⟩:=Oa ht
 subst h4
 refine By ?_
 unfold BW
 rw[Bw (show ti E t s= .some i s by unfold ti;rw[h1];rfl)]
 simp only[h2]
 rw[Bw (show ti E e s= .some ie s by unfold ti;rw[h3];rfl)]
 unfold FE
 rw[BU hn]
 show M.bind (bnd hi n n) _ s=_
 rw[Bw (G8 hhi hc),Bw (G8 hlo hl)]
 unfold pSl
 rw[CU,AY,AY]
 show R.some _ s=_
 by_cases hq:n=l
 ·rw[if_pos hq,show Nat.beq n l=true by rw[hq];exact Nat.beq_refl l]
  rfl
 ·rw[if_neg hq,show Nat.beq n l=false by
   cases e:Nat.beq n l with
   |false=>rfl
   |true=>exact absurd (Nat.eq_of_beq_eq_true e) hq]
  rfl
theorem CJ_ {c l sz:Nat}(h:l≤c%capU)(hs:Cr c sz=true):Cr (c-l) sz=true:=by
 unfold Cr at *
 show Bool.rec (motive:=fun _=>Bool) (Nat.beq (Nat.mod ((c-l)/capU) 1024) sz) true (Nat.beq ((c-l)/capU) 0)=true
 rw[(LA h).1]
 exact hs
theorem D3 {c sz:Nat}(h:c<capU):Cr c sz=true:=by
 unfold Cr
 show Bool.rec (motive:=fun _=>Bool) (Nat.beq (Nat.mod (c/capU) 1024) sz) true (Nat.beq (c/capU) 0)=true
 rw[Nat.div_eq_of_lt h]
 rfl
theorem Bs.sub' {b o c i j:Nat}{l:List Nat}(hij:i≤j)(hj:j≤l.length)(h1:l.length≤c%capU)(h2:Cr c 1=true)(h3:Row s b o (u8l l)):
  ∃o',(.slice (some ⟨b,if i<c%capU then o+i*1 else o,none⟩) (j-i) (c-i):Value)= .slice (some ⟨b,o',none⟩) ((l.take j).drop i).length (c-i)∧((l.take j).drop i).length≤(c-i)%capU∧Cr (c-i) 1=true∧Row s b o' (u8l ((l.take j).drop i))∧(o'=o+i∨((l.take j).drop i).length=0):=by
 have hlen:((l.take j).drop i).length=j-i:=by rw[List.length_drop,List.length_take];omega
 refine⟨_,by rw[hlen], ?_,CJ_ (by omega) h2, ?_, ?_⟩
 ·rw[hlen,(LA (by omega)).2]
  omega
 ·by_cases hq:i<c%capU
  ·rw[if_pos hq,Nat.mul_one]
   have:=(h3.take (n:=j)).drop (n:=i)
   rw[←List.map_take,←List.map_drop]at this
   exact this
  ·have h0:(l.take j).drop i=[]:=List.eq_nil_of_length_eq_zero (by rw[hlen];omega)
   rw[h0]
   intro k v e
   simp at e
 ·by_cases hq:i<c%capU
  ·left;rw[if_pos hq,Nat.mul_one]
  ·right;rw[hlen];omega
theorem W.buildS (hbd:s.lim≤s.next){sz by' len:Nat}{z r:List Value}{ps:List (Nat×Value)}{Q:Value→St→Prop}(ht:elT E t=some (sz,by',z))(h1:len*sz≤16777216)(hr:DJ (fun k=>some (k*sz,sz)) ps (rep len z)=some r)(h2:len<capU)
  (q: ∀s2,s2.next=s.next+r.length+1→Ext Non Non s s2→Ah s2 s.next 0 r→Q (.slice (some ⟨s.next,0,none⟩) len len) s2):W (BX E t len ps) s Q:=by
 obtain⟨i,e,ie,g1,g2,g3,g4,g5,g6⟩:=Qe ht
 subst g4;subst g6
 refine W.bind (W.ti g1 ?_)
 rw[g2]
 refine W.bind (W.ti g3 (W.chk ?_ (W.bind (W.ofOpt hr (W.bind (W.newL fun s2 n2 x2 r2=>W.bind (W.wrC ?_ (W.pure (q _ n2 ?_ ?_)))))))))
 ·rw[Bool.and_eq_true]
  exact⟨Nat.ble_eq_true_of_le h1,BU h2⟩
 ·show s.next+r.length<s2.next
  omega
 ·obtain⟨d2,p3,p4⟩:=x2.rd
  obtain⟨d4,p7,p8⟩:=x2.wr
  refine⟨x2.nxt,x2.lim,x2.cx,fun y q1 q2=> ?_,⟨d2,p3,p4⟩,⟨d4, ?_,p8⟩⟩
  ·show T.get (T.set s2.mem _ _) y=_
   rw[T.get_set,if_neg,x2.mem y q1 q2]
   show y≠s.next+r.length
   omega
  ·show notes _ s2.lim s2.wr=_
   unfold notes
   rw[GM]
   ·exact p7
   ·show s2.lim≤s.next+r.length
    rw[x2.lim];omega
 ·intro k v hk
  have hk':=(List.getElem?_eq_some_iff.1 hk).1
  have:=r2 k v hk
  refine⟨this.1, ?_⟩
  show T.get (T.set s2.mem _ _) _=_
  rw[T.get_set,if_neg]
  ·exact this.2
  ·show s.next+(0+k)≠s.next+r.length
   omega
theorem W.mkSl {sz by' l c:Nat}{k1 k2:IntKind}{z:List Value}{Q:Value→St→Prop}(ht:elT E t=some (sz,by',z))(h1:l≤c)(h2:c*(by'+1)≤16777216)
  (q: ∀s2,s2.next=s.next+(rep c z).length+1→Ext Non Non s s2→Ah s2 s.next 0 (rep c z)→Q (.slice (some ⟨s.next,0,none⟩) l c) s2):W (DX E t (.int k1 (l:Nat)) (.int k2 (c:Nat))) s Q:=by
 obtain⟨i,e,ie,g1,g2,g3,g4,g5,g6⟩:=Qe ht
 subst g5;subst g6
 refine W.bind (W.ti g1 (W.bind (W.pure (W.bind (W.pure ?_)))))
 unfold Am.mkSl
 rw[g2]
 refine W.bind (W.ti g3 (W.chk ?_ (W.bind (W.newL fun s2 n2 x2 r2=>W.pure (q _ n2 x2 r2)))))
 rw[Bool.and_eq_true]
 exact⟨Nat.ble_eq_true_of_le h1,Nat.ble_eq_true_of_le h2⟩
theorem W.copy {sz by' b o n c m k:Nat}{z l:List Value}{p:Option Addr}{c2:Nat}{F:Nat→Prop}{Q:Value→St→Prop}(ht:elT E t=some (sz,by',z))(hk:k=Nat.min n m)
  (hx: ∃s1,srcL sz (.slice p m c2) k s= .some l s1∧s1.mem=s.mem∧s1.next=s.next∧Ext F Non s s1) (hl:l.length=k*sz) (h1:l.all oneCell=true) (own: ∀i,i<k*sz→ ∃u,Own s b (o+i) u)
  (q: ∀s2,s2.next=s.next→Ext (fun x=>F x∨In b o (k*sz) x) (In b o (k*sz)) s s2→Ah s2 b o l→Q (.int .i64 (k:Nat)) s2):W (A6 E .copy [t,t2] [.slice (some ⟨b,o,none⟩) n c, .slice p m c2]) s Q:=by
 obtain⟨i,e,ie,g1,g2,g3,g4,g5,g6⟩:=Qe ht
 obtain⟨s1,e1,m1,n1,x1⟩:=hx
 subst g4
 show W (Fk E t (some ⟨b,o,none⟩) n (.slice p m c2)) s Q
 refine W.bind (W.ti g1 ?_)
 rw[g2]
 refine W.bind (W.ti g3 (W.bind (W.pure ?_)))
 refine W.fN ?_
 rw[←hk]
 refine W.bind (W.of e1 ?_)
 have own1: ∀i,i<l.length→ ∃u,Own s1 b (o+i) u:=fun i hi=>by
  obtain⟨u,hu⟩:=own i (by rw[←hl];exact hi)
  exact⟨u,hu.same m1 n1⟩
 refine W.bind (m:=Am.wrL l ⟨b,o,none⟩) (W.wrL own1 h1 fun s2 n2 x2 r2=> ?_)
 show W (Am.fN k fun n=>M.pure (.int .i64 (.ofNat n))) s2 Q
 refine W.fN (W.pure (q s2 (n2.trans n1) ?_ r2))
 rw[hl]at x2
 obtain⟨d1,p1,p2⟩:=x1.rd
 obtain⟨d2,p3,p4⟩:=x2.rd
 obtain⟨d3,p5,p6⟩:=x1.wr
 obtain⟨d4,p7,p8⟩:=x2.wr
 refine⟨Nat.le_of_eq (n2.trans n1).symm,x2.lim.trans x1.lim,x2.cx.trans x1.cx,fun y q1 q2=>by rw[x2.mem y (by rw[n1];exact q1) q2,m1],⟨d2++d1,by rw[p3,p1,List.append_assoc],fun y hy=> ?_⟩,⟨d4++d3,by rw[p7,p5,List.append_assoc],fun y hy=> ?_⟩⟩
 ·rcases List.mem_append.1 hy with hy|hy
  ·have:=p4 y hy
   rw[x1.lim]at this
   exact⟨this.1, .inr this.2⟩
  ·exact⟨(p2 y hy).1, .inl (p2 y hy).2⟩
 ·rcases List.mem_append.1 hy with hy|hy
  ·have:=p8 y hy
   rw[x1.lim]at this
   exact this
  ·exact(p6 y hy).2.elim
theorem Rd_ {sz:Nat}{lo hi:Option Value}(ht:slN E t=some sz)(hlo:bndV lo 0=some 0)(hhi:bndV hi 0=some 0)(Q:Value→St→Prop):W (BW E t (.slice none 0 0) lo hi) s Q=Q (.slice none 0 0) s:=by
 obtain⟨i,e,ie,h1,h2,h3,h4⟩:=Hb ht
 refine By ?_
 unfold BW
 rw[Bw (show ti E t s= .some i s by unfold ti;rw[h1];rfl)]
 simp only[h2]
 rw[Bw (show ti E e s= .some ie s by unfold ti;rw[h3];rfl),Bw (G8 hhi (Nat.le_refl 0)),Bw (G8 hlo (Nat.le_refl 0))]
 rfl
theorem Mj {q N:Nat}(h:N<capU):(capU*q+N)%capU=N:=(enc (q:=q) h).2
theorem Gc {m sz N:Nat}(h:N<capU)(h1:sz<1024):Cr (capU*(m*1024+sz)+N) sz=true:=by
 unfold Cr
 show Bool.rec (motive:=fun _=>Bool) (Nat.beq (Nat.mod ((capU*(m*1024+sz)+N)/capU) 1024) sz) true (Nat.beq ((capU*(m*1024+sz)+N)/capU) 0)=true
 rw[(enc h).1]
 have:Nat.mod (m*1024+sz) 1024=sz:=by show(m*1024+sz)%1024=sz;omega
 rw[this,Nat.beq_refl]
 cases Nat.beq (m*1024+sz) 0<;>rfl
theorem Jp {v x:Value}(Q:Value→St→Prop):W (A6 E .append [t,t2] [v,x]) s Q=W (CS E t t2 v x) s Q:=propext Iff.rfl
theorem Ext.step {F F' G':Nat→Prop}{s s1 s2:St}(h:Ext F Non s s1)(k:Ext F' G' s1 s2)(hb:s.lim≤s.next)(hF: ∀l,l<s.lim→F' l→F l)(hG: ∀l,G' l→s.next≤l):Ext F Non s s2:=
 h.trans k hb hF fun l hl hg=>absurd (hG l hg) (Nat.not_le_of_lt hl)
theorem Ah.append {b o:Nat}{l l':List Value}(h:Ah s b o l)(k:Ah s b (o+l.length) l'):Ah s b o (l++l'):=fun i v e=>by
 by_cases hi:i<l.length
 ·rw[List.getElem?_append_left hi]at e
  exact h i v e
 ·rw[List.getElem?_append_right (by omega)]at e
  have:=k _ v e
  rw[show o+l.length+(i-l.length)=o+i by omega]at this
  exact this
def Bb (s:St)(b o n:Nat):Prop:= ∀j,j<n→ ∃u,Own s b (o+j) u
theorem Ah.owned {b o:Nat}{l:List Value}(h:Ah s b o l):Bb s b o l.length:=fun j hj=>⟨l[j],h j _ (List.getElem?_eq_getElem hj)⟩
theorem Bb.ext {F:Nat→Prop}{b o n a:Nat}{l:List Value}{s2:St}(h:Bb s b o n)(e:Ext F (In b a l.length) s s2)(k:Ah s2 b a l):Bb s2 b o n:=fun j hj=>by
 by_cases hq:In b a l.length (b+(o+j))
 ·obtain⟨h1,h2⟩:=hq
  have hi:o+j-a<l.length:=by omega
  refine⟨l[o+j-a], ?_⟩
  have:=k (o+j-a) (l[o+j-a]) (List.getElem?_eq_getElem hi)
  rw[show a+(o+j-a)=o+j by omega]at this
  exact this
 ·obtain⟨u,hu⟩:=h j hj
  exact⟨u,hu.ext e hq⟩
theorem Bs.src {v:Value}{l:List Nat}(h:Bs s v l):Src s 1 v l.length (u8l l) (BsF v):=by
 rcases h with⟨rfl,rfl⟩|⟨b,o,c,rfl,_,_,h3⟩
 ·exact Lh_
 ·have:=HN_ (s:=s) (sz:=1) (n:=l.length) (c:=c) h3 (by rw[Be,Nat.mul_one])
  rw[Nat.mul_one]at this
  exact this
theorem BY (l:List Nat):(u8l l).all oneCell=true:=by
 rw[List.all_eq_true]
 intro x hx
 obtain⟨n,_,rfl⟩:=List.mem_map.1 hx
 rfl
theorem Tq (k kk:IntKind)(m n:Nat)(hn:n≤btOf k)(xo yo:Operand):Cl.get (aBin E .shr t xo yo) (.int k (m:Nat)) (.int kk (n:Nat)) s= .some (.int k (m>>>n:Nat)) s:=by
 show int3 shrK (Bx E .shr t xo yo) (.int k (.ofNat m)) (.int kk (.ofNat n)) s=_
 show Option.rec (motive:=fun _=>R Value) _ (fun v=> .some v s) (shrK k kk m n)=_
 have:shrK k kk m n=some (.int k (m>>>n:Nat)):=by
  unfold shrK
  rw[Nat.ble_eq_true_of_le hn]
  show mkI k (Nat.shiftRight m n)=_
  unfold mkI
  rw[AY]
  rfl
 rw[this]
theorem EO {k kk:IntKind}{m n:Nat}{xo yo:Operand}(hn:n≤btOf k)(Q:Value→St→Prop):W (Cl.get (aBin E .shr t xo yo) (.int k (m:Nat)) (.int kk (n:Nat))) s Q=Q (.int k (m>>>n:Nat)) s:=By (Tq k kk m n hn xo yo)
theorem Hm {k kk:IntKind}{m:Nat}{xo yo:Operand}(hn:8≤btOf k)(Q:Value→St→Prop):W (Cl.get (aBin E .shr t xo yo) (.int k (m:Nat)) (.int kk 8)) s Q=Q (.int k (m>>>8:Nat)) s:=EO (n:=8) hn Q
theorem Pp {k kk:IntKind}{m:Nat}{xo yo:Operand}(hn:16≤btOf k)(Q:Value→St→Prop):W (Cl.get (aBin E .shr t xo yo) (.int k (m:Nat)) (.int kk 16)) s Q=Q (.int k (m>>>16:Nat)) s:=EO (n:=16) hn Q
theorem QD {k kk:IntKind}{m:Nat}{xo yo:Operand}(hn:24≤btOf k)(Q:Value→St→Prop):W (Cl.get (aBin E .shr t xo yo) (.int k (m:Nat)) (.int kk 24)) s Q=Q (.int k (m>>>24:Nat)) s:=EO (n:=24) hn Q
theorem wrap_u8 (n:Nat):IntKind.u8.wrap (n:Int)=((n%256:Nat):Int):=by
 have e:IntKind.u8.wrap (n:Int)=(n:Int)%256:=by unfold IntKind.wrap;simp[IntKind.bits,IntKind.signed]
 rw[e]
 omega
theorem Ah.bn {b:Nat}{l:List Nat}(h:Ah s b 0 (u8l l))(hl:l.length<capU):Bs s (.slice (some ⟨b,0,none⟩) l.length l.length) l:=
 .inr ⟨b,0,l.length,rfl,by rw[Nat.mod_eq_of_lt hl];exact Nat.le_refl _,D3 hl,h.row⟩
theorem Bq {γ:Type}(a:α)(f:α→M γ):oS (some a) f=f a:=rfl
theorem BL {γ:Type}(a:α)(f:α→M γ):M.on (some a) f=f a:=rfl
theorem Lk_ {m:M α}{v:α}(h: ∀(s:St) (Q:α→St→Prop),W m s Q=Q v s)(s:St):m s= .some v s:=by
 have:W m s fun a s'=>a=v∧s'=s:=by rw[h];exact⟨rfl,rfl⟩
 obtain⟨a,s',e,rfl,rfl⟩:=this
 exact e
theorem W_dq {γ:Type}{m:M α}{v:α}{f:α×OpLog→M γ}{mem:T Cell}{next:Nat}{Q:γ→St→Prop}(h: ∀(s:St) (Q:α→St→Prop),W m s Q=Q v s):W (M.bind (apartO m) f) (dSt mem next) Q=W (f (v,⟨next,next,[],[]⟩)) (dSt mem next) Q:=by
 rw[Ac]
 refine By ?_
 show Am.apartO m ⟨mem,next,0,[],[], .no⟩=_
 unfold Am.apartO
 have e:=Lk_ h ⟨mem,next,next,[],[], .no⟩
 simp only[e]
 rfl
theorem Bh {γ:Type}(v:α)(f:α×OpLog→M γ)(mem:T Cell)(next:Nat)(Q:γ→St→Prop):W (M.bind (apartO (M.pure v)) f) (dSt mem next) Q=W (f (v,⟨next,next,[],[]⟩)) (dSt mem next) Q:=W_dq fun _ _=>Ab _ _
theorem W.dload {γ:Type}{b o:Nat}{v:Value}{f:Value×OpLog→M γ}{mem:T Cell}{next:Nat}{Q:γ→St→Prop}(ht:tyS E t=some (1,false))(h:At (dSt mem next) b o v)
  (k: ∀rd:List Nat,(∀x∈rd,x=b+o)→W (f (v,⟨next,next,rd,[]⟩)) (dSt mem next) Q):W (M.bind (apartO (A5 E t (.pointer (some ⟨b,o,none⟩)))) f) (dSt mem next) Q:=by
 refine W.dop (W.load1 ht (h.same rfl rfl) ⟨fun x=>x=b+o,Ext.rdN _ _ fun _=>rfl,fun rd hr=>k rd fun x hx=>(hr x hx).2⟩)
theorem Pz {n0:Nat}{l:List OpLog}{bef:List Nat}(hl:l.length≤bef.length)(h: ∀m∈l,m.wr=[]∧m.lo=m.hi):Cu n0 l bef=true:=
 Bb_ hl (fun k m b e1 _=>⟨(h m (List.mem_of_getElem? e1)).1,fun i a _ e3=> .inr fun x _ _ hx=>by have:=(h a (List.mem_of_getElem? e3)).2;omega⟩) fun m hm=>(h m hm).1
theorem neqU (k:IntKind)(hk:DR k=false)(m n:Nat)(xo yo:Operand):Cl.get (aBin E .neq t xo yo) (.int k (m:Nat)) (.int k (n:Nat)) s= .some (.bool (!decide (m=n))) s:=by
 show int2 _ (int3 (cmpK fun m n=> !Nat.beq m n) (Bx E .neq t xo yo)) (.int k (.ofNat m)) (.int k (.ofNat n)) s=_
 unfold int2
 simp only[CI,hk]
 show Option.rec (motive:=fun _=>R Value) _ (fun v=> .some v s) (cmpK (fun m n=> !Nat.beq m n) k k m n)=_
 have:cmpK (fun m n=> !Nat.beq m n) k k m n=some (.bool (!decide (m=n))):=by
  unfold cmpK Cb
  rw[Nat.beq_refl]
  show mkB (!Nat.beq m n)=_
  by_cases h:m=n
  ·rw[h,Nat.beq_refl];simp;rfl
  ·have:Nat.beq m n=false:=by
    cases e:Nat.beq m n with
    |false=>rfl
    |true=>exact absurd (Nat.eq_of_beq_eq_true e) h
   rw[this];simp[h];rfl
 rw[this]
theorem Y6 (b:Bool)(P:Program)(Q:Value→St→Prop):W (kUn P .not (.bool b)) s Q=Q (.bool (!b)) s:=By (by show rB (!b) s=_;exact Fx _ _)
def ptrT (E:Env)(t:Nat):Bool:=match T.get E.ty t with|some i=>(match i.u with| .pointer _=>true|_=>false)|none=>false
theorem JB_ {a:Addr}{xo yo:Operand}(h:ptrT E t=true):Cl.get (aBin E .eql t xo yo) (.pointer (some a)) (.pointer none) s= .some (.bool false) s:=by
 unfold ptrT at h
 split at h
 ·rename_i i hi
  split at h
  ·rename_i e hu
   show FA E .eql t (.pointer (some a)) (.pointer none) s=_
   unfold FA
   rw[Bw (show ti E t s= .some i s by unfold ti;rw[hi];rfl),hu]
   rfl
  ·cases h
 ·cases h
theorem YN {a:Addr}{xo yo:Operand}(h:ptrT E t=true)(Q:Value→St→Prop):W (Cl.get (aBin E .eql t xo yo) (.pointer (some a)) (.pointer none)) s Q=Q (.bool false) s:=By (JB_ h)
theorem Hm_ (m n:Nat)(hn:1≤n)(xo yo:Operand):Cl.get (aBin E .rem t xo yo) (.int .i64 (m:Nat)) (.int .i64 (n:Nat)) s= .some (.int .i64 (m%n:Nat)) s:=by
 show int3 remK (Bx E .rem t xo yo) (.int .i64 (.ofNat m)) (.int .i64 (.ofNat n)) s=_
 show Option.rec (motive:=fun _=>R Value) _ (fun v=> .some v s) (remK .i64 .i64 m n)=_
 have:remK .i64 .i64 m n=some (.int .i64 (m%n:Nat)):=by
  unfold remK Cb
  rw[Nat.beq_refl,Nat.ble_eq_true_of_le hn]
  show mkI .i64 (Nat.mod m n)=_
  unfold mkI
  rw[AY]
  rfl
 rw[this]
theorem KF {m n:Nat}{xo yo:Operand}(hn:1≤n)(Q:Value→St→Prop):W (Cl.get (aBin E .rem t xo yo) (.int .i64 (m:Nat)) (.int .i64 (n:Nat))) s Q=Q (.int .i64 (m%n:Nat)) s:=By (Hm_ m n hn xo yo)
theorem LE {m:Nat}{xo yo:Operand}(Q:Value→St→Prop):W (Cl.get (aBin E .rem t xo yo) (.int .i64 (m:Nat)) (.int .i64 64)) s Q=Q (.int .i64 (m%64:Nat)) s:=KF (n:=64) (by decide) Q
theorem W.dloadA {γ:Type}{b o n:Nat}{l:List Value}{f:Value×OpLog→M γ}{mem:T Cell}{next:Nat}{Q:γ→St→Prop}(ht:tyS E t=some (n,true))(h:Row (dSt mem next) b o l)(hl:l.length=n)
  (k: ∀(mem1:T Cell) (rd:List Nat),mem1=mem→(∀x∈rd,In b o n x)→W (f (.agg l.toArray,⟨next,next,rd,[]⟩)) (dSt mem1 next) Q):W (M.bind (apartO (A5 E t (.pointer (some ⟨b,o,none⟩)))) f) (dSt mem next) Q:=by
 refine W.dop (W.loadA ht (fun i v e=>(h i v e).same rfl rfl) hl fun s1 m1 n1 x1=>⟨In b o n,x1,fun rd hr=> ?_⟩)
 rw[show s1.next=next from n1]
 exact k s1.mem rd m1 fun x hx=>(hr x hx).2
theorem Bt {n:Nat}(h:n≤1073741824):n<capU:=by unfold capU;omega
theorem T1 {sz:Nat}(h:slN E t=some sz)(Q:Value→St→Prop):W (A6 E .cap [t] [.slice none 0 0]) s Q=Q (.int .i64 ((0:Nat):Int)) s:=by
 obtain⟨i,e,ie,h1,h2,h3,h4⟩:=Hb h
 refine By ?_
 show aCap E t (.slice none 0 0) s=_
 unfold aCap
 rw[Bw (show ti E t s= .some i s by unfold ti;rw[h1];rfl)]
 simp only[h2]
 rw[BU KP]
 rfl
end
open Go.RowKit
section
variable {E:Env}{s:St}{t:Nat}
theorem W.endC {n f nt g r:Nat}{tm:T Value}{todo P:List Item}{ki:CallKind}{fn:Func}{a:Addr}{up:Option FrameMode}{Q:Value×FrameMode→St→Prop}(ht:skim 64 todo=P)(hP:(∃k,P= .code .ret::k)∨P=[])(hn:2≤n)
  (hf:E.fn.get f=some fn) (hr:fn.results.toList=[.cell r t]) (hc:s.cx= .cx up (some [])) (hv:Am.T.get tm r=some (.pointer (some a))) (q:W (A5 E t (.pointer (some a))) s fun v s1=>Q (v,up.getD .run) s1):W (runF E n ⟨f,nt,g,tm,todo, .run,ki,none⟩) s Q:=by
 obtain⟨m,rfl⟩: ∃m,n=m+2:=⟨n-2,by omega⟩
 subst ht
 have h1:W (runF E (m+1) ⟨f,nt,g,tm,skim 64 todo, .returning,ki,none⟩) s Q:=by
  refine W.run ?_
  show W (DT E (Ey E (runF E m)) ⟨f,nt,g,tm,skim 64 todo, .returning,ki,none⟩) s _
  refine W.bind (W.of (a:=s.cx) (s':=s) (by obtain⟨mem,next,lim,rd,wr,cx⟩:=s;rfl) ?_)
  rw[hc]
  show W (outF E ⟨f,nt,g,tm,skim 64 todo, .returning,ki,none⟩ up) s _
  refine W.on hf (W.bind ?_)
  show W (M.bind (resL E tm fn.results.toList) fun l=>M.pure (tupV l)) s _
  rw[hr]
  refine W.bind ?_
  show W (M.bind (M.on (Am.T.get tm r) fun a=>M.bind (asA a) fun a=>D2 E t a) fun v=>M.bind (M.pure []) fun l=>M.pure (v::l)) s _
  rw[hv]
  refine W.bind ?_
  show W (A5 E t (.pointer (some a))) s _
  refine q.mono fun v s1 q=> ?_
  exact W.bind (W.pure (W.pure (W.pure (W.pure (W.pure q)))))
 rcases hP with⟨k,ht⟩|ht
 ·refine W.code ht ?_
  rw[ht]at h1
  exact W.pure h1
 ·refine W.run ?_
  show W (noP (Ew E (AJ E (runF E (m+1))) (Ca (runF E (m+1))) ⟨f,nt,g,tm,skim 64 todo, .run,ki,none⟩ (skim 64 todo))) s _
  rw[ht]at h1 ⊢
  exact W.np (W.pure h1)
def EC (E:Env)(t:Nat)(ps:List (Nat×Value)):Option (List Value):=
 match T.get E.ty t with
 |some i=>(match i.u with
  | .struct fs=>DJ (Jy E fs) ps i.zero
  | .array _ e=>(match T.get E.ty e with
   |some ie=>DJ (fun k=>some (k*ie.size,ie.size)) ps i.zero
   |none=>none)
  |_=>none)
 |none=>none
theorem Ej {ps:List (Nat×Value)}{r:List Value}(h:EC E t ps=some r)(Q:Value→St→Prop):W (Cn E t ps) s Q=Q (.agg r.toArray) s:=by
 unfold EC at h
 split at h
 ·rename_i i hi
  split at h
  ·rename_i fs hu
   refine By ?_
   unfold Cn
   rw[Bw (show ti E t s= .some i s by unfold ti;rw[hi];rfl)]
   rw[hu]
   simp only[h]
   rfl
  ·rename_i e hu
   split at h
   ·rename_i ie he
    refine By ?_
    unfold Cn
    rw[Bw (show ti E t s= .some i s by unfold ti;rw[hi];rfl)]
    rw[hu]
    simp only
    rw[Bw (show ti E _ s= .some ie s by unfold ti;rw[he];rfl),h]
    rfl
   ·cases h
  ·cases h
 ·cases h
end
section
variable {E:Env}{s:St}{t:Nat}
theorem Jt_ (m n:Nat)(hn:m*n≤9223372036854775807)(xo yo:Operand):Cl.get (aBin E .mul t xo yo) (.int .i64 (m:Nat)) (.int .i64 (n:Nat)) s= .some (.int .i64 (m*n:Nat)) s:=by
 show int3 mulK (Bx E .mul t xo yo) (.int .i64 (.ofNat m)) (.int .i64 (.ofNat n)) s=_
 show Option.rec (motive:=fun _=>R Value) _ (fun v=> .some v s) (mulK .i64 .i64 m n)=_
 have:mulK .i64 .i64 m n=some (.int .i64 (m*n:Nat)):=by
  unfold mulK Cb fitI
  rw[Nat.beq_refl]
  show(Bool.rec (motive:=fun _=>Option Value) _ (mkI .i64 (m*n)) (Nat.ble (m*n) (mxOf .i64)):Option Value)=_
  rw[Nat.ble_eq_true_of_le (show m*n≤mxOf .i64 from hn)]
  show mkI .i64 (m*n)=_
  unfold mkI
  rw[AY]
  rfl
 rw[this]
theorem Wk {m n:Nat}{xo yo:Operand}(hn:m*n≤9223372036854775807)(Q:Value→St→Prop):W (Cl.get (aBin E .mul t xo yo) (.int .i64 (m:Nat)) (.int .i64 (n:Nat))) s Q=Q (.int .i64 (m*n:Nat)) s:=By (Jt_ m n hn xo yo)
theorem Zb {n:Nat}{xo yo:Operand}(hn:4*n≤9223372036854775807)(Q:Value→St→Prop):W (Cl.get (aBin E .mul t xo yo) (.int .i64 4) (.int .i64 (n:Nat))) s Q=Q (.int .i64 (4*n:Nat)) s:=Wk (m:=4) hn Q
theorem Ll {n:Nat}{xo yo:Operand}(hn:8*n≤9223372036854775807)(Q:Value→St→Prop):W (Cl.get (aBin E .mul t xo yo) (.int .i64 8) (.int .i64 (n:Nat))) s Q=Q (.int .i64 (8*n:Nat)) s:=Wk (m:=8) hn Q
def arrU (E:Env)(t:Nat):Option Nat:=match T.get E.ty t with
 |some i=>(match i.u with| .array n e=>(match T.get E.ty e with|some ie=>bif Nat.beq ie.size 1&& !ie.agg then some n else none|none=>none)|_=>none)
 |none=>none
theorem IK_ {n:Nat}(h:arrU E t=some n): ∃i e ie,T.get E.ty t=some i∧i.u= .array n e∧T.get E.ty e=some ie∧ie.size=1∧ie.agg=false:=by
 unfold arrU at h
 split at h
 ·rename_i i e
  split at h
  ·rename_i n2 e2 q
   split at h
   ·rename_i ie q2
    cases hc:(Nat.beq ie.size 1&& !ie.agg)
    ·rw[hc]at h
     cases h
    ·rw[hc]at h
     cases h
     rw[Bool.and_eq_true]at hc
     exact⟨i,e2,ie,e,q,q2,Nat.eq_of_beq_eq_true hc.1,by simpa using hc.2⟩
   ·cases h
  ·cases h
 ·cases h
theorem Jd_ {n k:Nat}{kd:IntKind}{cs:Array Value}{v:Value}(h:arrU E t=some n)(hk:k<n)(hv:cs.toList[k]?=some v)(Q:Value→St→Prop):W (kIdx E t (.agg cs) (.int kd (k:Nat))) s Q=Q v s:=by
 obtain⟨i,e,ie,h1,h2,h3,h4,h5⟩:=IK_ h
 refine By ?_
 unfold kIdx
 rw[Bw (show ti E t s= .some i s by unfold ti;rw[h1];rfl),Bw (show asN (.int kd (k:Nat)) s= .some k s from rfl)]
 unfold idxV
 rw[h2]
 simp only
 rw[Bw (show ti E e s= .some ie s by unfold ti;rw[h3];rfl),BU hk]
 show DC E e cs.toList (k*ie.size) s=_
 refine Bc_ (n:=1) (g:=false) (by unfold tyS;rw[h3];simp[h4,h5]) (.inl ⟨rfl, ?_⟩)
 rw[h4,Nat.mul_one]
 exact hv
end
section
variable {E:Env}{s:St}{t:Nat}
theorem W.resNil {tm:T Value}{Q:List Value→St→Prop}(q:Q [] s):W (resL E tm []) s Q:=W.pure q
theorem W.resTmp {tm:T Value}{r:Nat}{v:Value}{rs:List ResultVar}{Q:List Value→St→Prop}(h:Am.T.get tm r=some v)(q:W (resL E tm rs) s fun l s1=>Q (v::l) s1):W (resL E tm (.tmp r::rs)) s Q:=by
 show W (M.bind (M.ofOpt (Am.T.get tm r)) fun v=>M.bind (resL E tm rs) fun l=>M.pure (v::l)) s Q
 rw[h]
 exact W.bind (W.pure (W.bind (q.mono fun l s1 q=>W.pure q)))
theorem W.resCell {tm:T Value}{r:Nat}{a:Addr}{rs:List ResultVar}{Q:List Value→St→Prop}(h:Am.T.get tm r=some (.pointer (some a)))(q:W (A5 E t (.pointer (some a))) s fun v s1=>W (resL E tm rs) s1 fun l s2=>Q (v::l) s2):W (resL E tm (.cell r t::rs)) s Q:=by
 show W (M.bind (M.on (Am.T.get tm r) fun a=>M.bind (asA a) fun a=>D2 E t a) fun v=>M.bind (resL E tm rs) fun l=>M.pure (v::l)) s Q
 rw[h]
 refine W.bind ?_
 show W (A5 E t (.pointer (some a))) s _
 exact q.mono fun v s1 q=>W.bind (q.mono fun l s2 q=>W.pure q)
theorem W.endG {n f nt g:Nat}{tm:T Value}{todo P:List Item}{ki:CallKind}{fn:Func}{rs:List ResultVar}{up:Option FrameMode}{Q:Value×FrameMode→St→Prop}(ht:skim 64 todo=P)(hP:(∃k,P= .code .ret::k)∨P=[])(hn:2≤n)
  (hf:E.fn.get f=some fn) (hr:fn.results.toList=rs) (hc:s.cx= .cx up (some [])) (q:W (resL E tm rs) s fun l s1=>Q (tupV l,up.getD .run) s1):W (runF E n ⟨f,nt,g,tm,todo, .run,ki,none⟩) s Q:=by
 obtain⟨m,rfl⟩: ∃m,n=m+2:=⟨n-2,by omega⟩
 subst ht
 have h1:W (runF E (m+1) ⟨f,nt,g,tm,skim 64 todo, .returning,ki,none⟩) s Q:=by
  refine W.run ?_
  show W (DT E (Ey E (runF E m)) ⟨f,nt,g,tm,skim 64 todo, .returning,ki,none⟩) s _
  refine W.bind (W.of (a:=s.cx) (s':=s) (by obtain⟨mem,next,lim,rd,wr,cx⟩:=s;rfl) ?_)
  rw[hc]
  show W (outF E ⟨f,nt,g,tm,skim 64 todo, .returning,ki,none⟩ up) s _
  refine W.on hf (W.bind ?_)
  show W (M.bind (resL E tm fn.results.toList) fun l=>M.pure (tupV l)) s _
  rw[hr]
  exact W.bind (q.mono fun l s1 q=>W.pure (W.pure (W.pure q)))
 rcases hP with⟨k,ht⟩|ht
 ·refine W.code ht ?_
  rw[ht]at h1
  exact W.pure h1
 ·refine W.run ?_
  show W (noP (Ew E (AJ E (runF E (m+1))) (Ca (runF E (m+1))) ⟨f,nt,g,tm,skim 64 todo, .run,ki,none⟩ (skim 64 todo))) s _
  rw[ht]at h1 ⊢
  exact W.np (W.pure h1)
end
section
variable {E:Env}{s:St}{t:Nat}
def Obj (s:St)(l:Nat)(o:AObj):Prop:=l<s.next∧T.get s.mem l=some (.O o)
theorem Obj.ext {F G:Nat→Prop}{s s':St}{l:Nat}{o:AObj}(h:Obj s l o)(e:Ext F G s s')(hG: ¬G l):Obj s' l o:=⟨Nat.lt_of_lt_of_le h.1 e.nxt,by rw[e.mem _ h.1 hG];exact h.2⟩
theorem Obj.same {s s':St}{l:Nat}{o:AObj}(h:Obj s l o)(hm:s'.mem=s.mem)(hn:s'.next=s.next):Obj s' l o:=by
 unfold Obj at *
 rw[hm,hn]
 exact h
theorem W.newO {o:AObj}{Q:Nat→St→Prop}(q: ∀s1,s1.next=s.next+1→Ext Non Non s s1→Obj s1 s.next o→Q s.next s1):W (newO o) s Q:=by
 obtain⟨mem,next,lim,rd,wr,cx⟩:=s
 refine⟨next,⟨T.set mem next (.O o),next+1,lim,rd,wr,cx⟩, ?_,q _ rfl ⟨by simp only;omega,rfl,rfl,fun l hl _=> ?_,⟨[],rfl,fun _ h=>by cases h⟩,⟨[],rfl,fun _ h=>by cases h⟩⟩ ⟨by simp only;omega, ?_⟩⟩
 ·show Am.fN next (fun b=>Am.fN (Nat.succ b) fun n=>R.some b (St.mk (T.set mem b (.O o)) n lim rd wr cx))=_
  rw[AY,AY]
 ·simp only at hl ⊢
  rw[T.get_set,if_neg (by omega)]
 ·simp only
  rw[T.get_set,if_pos rfl]
theorem W.getCx {Q:Ctx→St→Prop}(q:Q s.cx s):W getCx s Q:=by
 obtain⟨mem,next,lim,rd,wr,cx⟩:=s
 exact⟨cx,_,rfl,q⟩
theorem W.putCx {c:Ctx}{Q:Unit→St→Prop}(q:Q () (s.cxN c)):W (putCx c) s Q:=by
 obtain⟨mem,next,lim,rd,wr,cx⟩:=s
 exact⟨(),_,rfl,q⟩
abbrev F6 (d:Nat):Deferred:={target:= .collected d,args:= #[]}
def rfP (l:List Item):Option (Nat×List Nat×Code×Code):=match l with| .code (.rangeFunc (.tmp t) ps as bd)::_=>some (t,ps.toList,as,bd)|_=>none
def asC (l:List Item):Code:=match l with| .code (.rangeFunc _ _ as _)::_=>as|_=> .skip
def bdC (l:List Item):Code:=match l with| .code (.rangeFunc _ _ _ bd)::_=>bd|_=> .skip
theorem Qd_ {P:List Item}{t:Nat}{ps:List Nat}{as bd:Code}(h:rfP P=some (t,ps,as,bd)): ∃pa:Array Nat,P= .code (.rangeFunc (.tmp t) pa as bd)::P.tail∧pa.toList=ps:=by
 unfold rfP at h
 split at h
 ·cases h
  exact⟨_,rfl,rfl⟩
 ·cases h
theorem W.rangeFunc {n f nt g f2:Nat}{tm:T Value}{T P:List Item}{ki:CallKind}{first cap:Array Value}{up:Option FrameMode}{dfs:List Deferred}{ps:List Nat}{as bd:Code}{Q:Value×FrameMode→St→Prop}(ht:skim 64 T=P)(hP:rfP P=some (t,ps,as,bd))(hv:Am.T.get tm t=some (.func (.func f2) first cap))(hx:E.ext.get f2=none)
  (hc:s.cx= .cx up (some dfs)) (hn:0<n)
  (h: ∀s1,s1.next=s.next+2→Ext Non Non s s1→Obj s1 s.next (.deferred (some []))→Obj s1 (s.next+1) (.loop .ready none f nt g tm ps as bd s.next)→
   W (AJ E (runF E (n-1)) f2 (first.toList++(.func (.yield (s.next+1)) #[] #[]::cap.toList))) (s1.cxN (.cx up (some (F6 s.next::dfs)))) fun _ s2=>Obj s2 (s.next+1) (.loop .ready none f nt g tm ps as bd s.next)∧
    W (runF E (n-1) ⟨f,nt,g,tm,P.tail, .run,ki,none⟩) ((s2.rdN (s.next+1)).wrN (s.next+1) (.O (.loop .exhausted none f nt g tm ps as bd s.next))) Q):W (runF E n ⟨f,nt,g,tm,T, .run,ki,none⟩) s Q:=by
 obtain⟨m,rfl⟩: ∃m,n=m+1:=⟨n-1,by omega⟩
 rw[Nat.add_sub_cancel]at h
 obtain⟨pa,hP2,rfl⟩:=Qd_ hP
 rw[hP2]at ht
 refine W.code ht ?_
 show W (M.on (Am.T.get tm t) fun fv=>Fe E (AJ E (runF E m)) ⟨f,nt,g,tm, .code (.rangeFunc (.tmp t) pa as bd)::P.tail, .run,ki,none⟩ fv pa as bd P.tail) s _
 refine W.on hv (W.bind (W.bind (W.newO fun sa na xa oa=>W.bind (W.getCx ?_))))
 have hca:sa.cx= .cx up (some dfs):=by rw[xa.cx];exact hc
 rw[hca]
 refine W.bind (W.putCx (W.pure (W.bind (W.newO fun sb nb xb ob=> ?_))))
 have hb:W (AJ E (runF E m) f2 (first.toList++(.func (.yield (s.next+1)) #[] #[]::cap.toList))) sb fun _ s2=>Obj s2 (s.next+1) (.loop .ready none f nt g tm pa.toList as bd s.next)∧
    W (runF E m ⟨f,nt,g,tm,P.tail, .run,ki,none⟩) ((s2.rdN (s.next+1)).wrN (s.next+1) (.O (.loop .exhausted none f nt g tm pa.toList as bd s.next))) Q:=by
  have hn1:(sa.cxN (.cx up (some (F6 s.next::dfs)))).next=s.next+1:=na
  rw[hn1]at ob nb
  have hcb:sb.cx= .cx up (some (F6 s.next::dfs)):=xb.cx
  have x:Ext Non Non s (sb.cxN s.cx):=by
   refine⟨?_, ?_,rfl,fun l hl hg=> ?_, ?_, ?_⟩
   ·show s.next≤sb.next
    omega
   ·exact xb.lim.trans xa.lim
   ·exact(xb.mem l (show l<sa.next by omega) hg).trans (xa.mem l hl hg)
   ·obtain⟨d1,p1,p2⟩:=xa.rd
    obtain⟨d2,p3,p4⟩:=xb.rd
    refine⟨d2++d1, ?_,fun l hl=> ?_⟩
    ·rw[List.append_assoc,←p1];exact p3
    ·rcases List.mem_append.1 hl with hl|hl
     ·exact(p4 l hl).2.elim
     ·exact(p2 l hl).2.elim
   ·obtain⟨d1,p1,p2⟩:=xa.wr
    obtain⟨d2,p3,p4⟩:=xb.wr
    refine⟨d2++d1, ?_,fun l hl=> ?_⟩
    ·rw[List.append_assoc,←p1];exact p3
    ·rcases List.mem_append.1 hl with hl|hl
     ·exact(p4 l hl).2.elim
     ·exact(p2 l hl).2.elim
  have:=h (sb.cxN s.cx) (by show sb.next=_;omega) x (by
   have h1:Obj (sa.cxN (.cx up (some (F6 s.next::dfs)))) s.next (.deferred (some [])):=oa.same rfl rfl
   exact(h1.ext xb id).same rfl rfl) (ob.same rfl rfl)
  rw[show(sb.cxN s.cx).cxN (.cx up (some (F6 s.next::dfs)))=sb by
   rw[←hcb];rfl]at this
  exact this
 have hn1:(sa.cxN (.cx up (some (F6 s.next::dfs)))).next=s.next+1:=na
 rw[hn1]
 refine W.bind (W.np ?_)
 show W (M.chk (E.ext.get f2).isNone (AJ E (runF E m) f2 (first.toList++(.func (.yield (s.next+1)) #[] #[]::cap.toList)))) sb _
 refine W.chk (by rw[hx];rfl) (hb.mono fun _ s2 q=> ?_)
 obtain⟨q1,q2⟩:=q
 show W (M.bind (Am.rdC (s.next+1)) _) s2 _
 refine W.bind (W.rdC q1.2 q1.1 ?_)
 exact W.bind (W.wrC q1.1 (W.pure q2))
theorem W.yield {call round:Aa}{l:Nat}{args:List Value}{Q:Value→St→Prop}(h:W (round l args) s Q):W (Bi call round (.func (.yield l) #[] #[]) args) s Q:=h
theorem W.round {n l f nt g d:Nat}{tm:T Value}{ps:List Nat}{as bd:Code}{st:LoopState}{pe:Option Code}{args:List Value}{Q:Value→St→Prop}(hO:Obj s l (.loop st pe f nt g tm ps as bd d))(ha:args.length=ps.length)(hps:ps.all (fun p=>Nat.blt p nt)=true)
  (h:W (runF E n ⟨f,nt,g,I4 g ps args tm,[.code as, .beginRound, .code bd], .run, .normal,some l⟩) ((s.rdN l).cxN cxR) fun p s1=>Q p.1 (s1.cxN s.cx)):W (Ca (runF E n) l args) s Q:=by
 refine W.np (W.within (W.bind (W.bind ?_)))
 refine W.bind (W.rdC (s:=s.cxN cxR) hO.2 hO.1 ?_)
 show W (M.chk (Nat.beq args.length ps.length&&ps.all fun p=>Nat.blt p nt) _) _ _
 refine W.chk (by rw[ha,hps,Nat.beq_refl];rfl) (W.pure ?_)
 exact h.mono fun p s1 q=>W.pure q
theorem W.begR {n l f nt g f' nt' g' d:Nat}{tm tm':T Value}{T k:List Item}{ki:CallKind}{ps:List Nat}{as bd:Code}{pe:Option Code}{Q:Value×FrameMode→St→Prop}(ht:skim 64 T= .beginRound::k)(hO:Obj s l (.loop .ready pe f' nt' g' tm' ps as bd d))(hn:0<n)
  (h:W (runF E (n-1) ⟨f,nt,g,tm,k, .run,ki,some l⟩) ((s.rdN l).wrN l (.O (.loop .busy pe f' nt' g' tm' ps as bd d))) Q):W (runF E n ⟨f,nt,g,tm,T, .run,ki,some l⟩) s Q:=by
 obtain⟨m,rfl⟩: ∃m,n=m+1:=⟨n-1,by omega⟩
 rw[Nat.add_sub_cancel]at h
 refine W.run ?_
 show W (noP (Ew E (AJ E (runF E m)) (Ca (runF E m)) ⟨f,nt,g,tm,skim 64 T, .run,ki,some l⟩ (skim 64 T))) s _
 rw[ht]
 refine W.np ?_
 show W (M.bind (Am.rdC l) _) s _
 exact W.bind (W.rdC hO.2 hO.1 (W.bind (W.wrC hO.1 (W.pure h))))
theorem W.endR {n l f nt g f' nt' g' d:Nat}{tm tm':T Value}{T:List Item}{ki:CallKind}{ps:List Nat}{as bd:Code}{st:LoopState}{pe:Option Code}{Q:Value×FrameMode→St→Prop}(ht:skim 64 T=[])(hO:Obj s l (.loop st pe f' nt' g' tm' ps as bd d))(hn:0<n)
  (q:Q (.bool true, .run) ((s.rdN l).wrN l (.O (.loop .ready none f' nt' g' tm' ps as bd d)))):W (runF E n ⟨f,nt,g,tm,T, .run,ki,some l⟩) s Q:=by
 obtain⟨m,rfl⟩: ∃m,n=m+1:=⟨n-1,by omega⟩
 refine W.run ?_
 show W (noP (Ew E (AJ E (runF E m)) (Ca (runF E m)) ⟨f,nt,g,tm,skim 64 T, .run,ki,some l⟩ (skim 64 T))) s _
 rw[ht]
 refine W.np ?_
 show W (M.bind (Am.rdC l) _) s _
 exact W.bind (W.rdC hO.2 hO.1 (W.bind (W.wrC hO.1 (W.pure (W.pure q)))))
end
section
variable {E:Env}{s:St}{t:Nat}
theorem UJ_ {m:Nat}(h:m≤9223372036854775807):fitI .i64 m=some (.int .i64 (m:Nat)):=by
 unfold fitI
 rw[Nat.ble_eq_true_of_le (show m≤mxOf .i64 from h)]
 show mkI .i64 m=_
 unfold mkI
 rw[AY]
 rfl
end
section
variable {P:Program}{E:Env}{s:St}{t:Nat}
theorem Um_ {i:TypeInfo}(h:P.info? t=some i):semP P (typeInfo t)=some i:=by
 unfold typeInfo program
 show semP P ((match P.info? t with|some i=>pure i|none=>_):Sem TypeInfo)=_
 rw[h]
 rfl
theorem Rn_ {i:TypeInfo}(h:P.info? t=some i):semP P (sizeOf t)=some i.size:=by
 unfold sizeOf
 rw[C1,Um_ h]
 rfl
theorem YZ {cs:Array Value}{off:Nat}{v:Value}{k:IntKind}(hu:P.underlying t=some (.int k))(h:cs[off]?=some v):semP P (part t cs off)=some v:=by
 unfold part isAgg
 rw[C1,C1,NH hu]
 simp only[Option.bind_some,Jr,Bool.false_eq_true,if_false,h]
theorem Uu_ {k:IntKind}{d:Nat}{a b:Int}(hu:P.underlying t=some (.int k)):semP P (Op.equalIn (d+1) t (.int .u8 a) (.int .u8 b))=some (a==b):=by
 simp only[Op.equalIn,C1,NH hu,Option.bind_some,if_true,Jr]
theorem YL (l:List Nat){j:Nat}(h:j<l.length):(u8l l).toArray[j*1]?=some (.int .u8 (l.getD j 0:Nat)):=by
 rw[Nat.mul_one,List.getElem?_toArray,List.getElem?_map,List.getElem?_eq_getElem h,List.getD_eq_getElem?_getD,List.getElem?_eq_getElem h]
 rfl
theorem Cu_ (l m:List Nat)(h:l.length=m.length):(List.range' 0 l.length).all (fun j=>l.getD j 0==m.getD j 0)=decide (l=m):=by
 rw[Bool.eq_iff_iff,List.all_eq_true,decide_eq_true_eq]
 constructor
 ·intro q
  refine List.ext_getElem h fun j h1 h2=> ?_
  have:=q j (by simp;exact h1)
  rw[beq_iff_eq,List.getD_eq_getElem?_getD,List.getD_eq_getElem?_getD,List.getElem?_eq_getElem h1,List.getElem?_eq_getElem h2]at this
  exact this
 ·rintro rfl j _
  exact beq_self_eq_true _
theorem HZ_ (d:Nat){e n:Nat}{i:TypeInfo}(l m:List Nat)(hu:P.underlying t=some (.array n e))(hi:P.info? e=some i)(hz:i.size=1)(he:P.underlying e=some (.int .u8))(hl:l.length=n)(hm:m.length=n):
  semP P (Op.equalIn (d+2) t (.agg (u8l l).toArray) (.agg (u8l m).toArray))=some (decide (l=m)):=by
 rw[←Cu_ l m (by rw[hl,hm]),hl]
 rw[show d+2=(d+1)+1 from rfl]
 unfold Op.equalIn
 simp only[C1,NH hu,Option.bind_some,Rn_ hi,hz]
 simp only[Std.Legacy.Range.forIn_eq_forIn_range',Std.Legacy.Range.size,Nat.sub_zero,Nat.add_one_sub_one,Nat.div_one]
 have hr: ∀j∈List.range' 0 n,j<n:=fun j hj=>by simpa using hj
 generalize List.range' 0 n=is at hr
 induction is with
 |nil=>rfl
 |cons j is ih=>
  have hj:=hr j (by simp)
  have ih:=ih fun k hk=>hr k (by simp[hk])
  simp only[List.forIn_cons,C1,YZ he (YL l (show j<l.length by rw[hl];exact hj)),YZ he (YL m (show j<m.length by rw[hm];exact hj)),Option.bind_some,Uu_ he,List.all_cons]
  by_cases hq:l.getD j 0=m.getD j 0
  ·rw[hq]at *
   simp only[beq_self_eq_true,Bool.true_and,Bool.not_true,Bool.false_eq_true,if_false,Jr,Option.bind_some]
   exact ih
  ·have h1:((l.getD j 0:Nat):Int)≠((m.getD j 0:Nat):Int):=fun h=>hq (by exact_mod_cast h)
   have h2:(((l.getD j 0:Nat):Int)==((m.getD j 0:Nat):Int))=false:=by simpa using h1
   have h3:(l.getD j 0==m.getD j 0)=false:=by simpa using hq
   rw[h2,h3]
   simp[Jr]
def arrB (P:Program)(t:Nat):Option Nat:=match P.underlying t with
 |some (.array n e)=>(match P.info? e,P.underlying e with
  |some i,some (.int .u8)=>bif Nat.beq i.size 1&& !P.eqGuardType P.depth t then some n else none
  |_,_=>none)
 |_=>none
theorem HI_ {n:Nat}(h:arrB P t=some n): ∃e i,P.underlying t=some (.array n e)∧P.info? e=some i∧P.underlying e=some (.int .u8)∧i.size=1∧P.eqGuardType P.depth t=false:=by
 unfold arrB at h
 split at h
 ·rename_i n2 e hu
  split at h
  ·rename_i i hi he
   cases hc:(Nat.beq i.size 1&& !P.eqGuardType P.depth t)
   ·rw[hc]at h
    cases h
   ·rw[hc]at h
    cases h
    rw[Bool.and_eq_true]at hc
    exact⟨e,i,hu,hi,he,Nat.eq_of_beq_eq_true hc.1,by simpa using hc.2⟩
  ·cases h
 ·cases h
theorem Ub (l:List Nat):plain (.agg (u8l l).toArray)=true:=by
 show(u8l l).toArray.toList.all (BK 3)=true
 rw[List.all_eq_true]
 intro v hv
 simp only[List.mem_map]at hv
 obtain⟨n,_,rfl⟩:=hv
 rfl
theorem FI_ {xo yo:Operand}{op:BinOp}{l m:List Nat}(hop:op= .eql∨op= .neq)(hg:P.eqGuardType P.depth t=false):semP P (eqGuard op t xo yo (.agg (u8l l).toArray) (.agg (u8l m).toArray))=some ():=by
 have hp:semP P program=some P:=rfl
 rcases hop with rfl|rfl<;>(unfold eqGuard;simp only[Bool.not_true,Bool.not_false,Bool.false_eq_true,if_false,if_true,C1,hp,Option.bind_some,hg,Jr])
theorem LK_ {n:Nat}{l m:List Nat}{xo yo:Operand}(h:arrB E.P t=some n)(hl:l.length=n)(hm:m.length=n):
  Cl.get (aBin E .eql t xo yo) (.agg (u8l l).toArray) (.agg (u8l m).toArray) s= .some (.bool (decide (l=m))) s:=by
 obtain⟨e,i,h1,h2,h3,h4,h5⟩:=HI_ h
 show Bx E .eql t xo yo (.agg (u8l l).toArray) (.agg (u8l m).toArray) s=_
 unfold Bx
 rw[Ub,Ub]
 show M.on (semP E.P (do eqGuard .eql t xo yo (.agg (u8l l).toArray) (.agg (u8l m).toArray);binOp .eql t (.agg (u8l l).toArray) (.agg (u8l m).toArray))) pV s=_
 rw[C1,FI_ (.inl rfl) h5]
 show M.on (semP E.P (do pure (.bool (←Op.equalIn (9998+2) t (.agg (u8l l).toArray) (.agg (u8l m).toArray))))) pV s=_
 rw[C1,HZ_ 9998 l m h1 h2 h4 h3 hl hm]
 rfl
theorem Rf_ {n:Nat}{l m:List Nat}{xo yo:Operand}(h:arrB E.P t=some n)(hl:l.length=n)(hm:m.length=n)(Q:Value→St→Prop):W (Cl.get (aBin E .eql t xo yo) (.agg (u8l l).toArray) (.agg (u8l m).toArray)) s Q=Q (.bool (decide (l=m))) s:=By (LK_ h hl hm)
theorem Jz_ {op:BinOp}{xo yo:Operand}{a b:ByteArray}{v:Value}(hc: ∀s,Cl.get (aBin E op t xo yo) (.string a) (.string b) s=Bx E op t xo yo (.string a) (.string b) s)(hg:semP E.P (eqGuard op t xo yo (.string a) (.string b))=some ())(hb:semP E.P (binOp op t (.string a) (.string b))=some v)(hv: ∀s:St,pV v s= .some v s):
  Cl.get (aBin E op t xo yo) (.string a) (.string b) s= .some v s:=by
 rw[hc]
 unfold Bx
 show M.on (semP E.P (do eqGuard op t xo yo (.string a) (.string b);binOp op t (.string a) (.string b))) pV s=_
 rw[C1,hg]
 show M.on (semP E.P (binOp op t (.string a) (.string b))) pV s=_
 rw[hb]
 exact hv s
theorem Ss_ {xo yo:Operand}(a b:ByteArray)(Q:Value→St→Prop):W (Cl.get (aBin E .eql t xo yo) (.string a) (.string b)) s Q=Q (.bool (a.data.toList==b.data.toList)) s:=
 By (Jz_ (fun _=>rfl) rfl (by rw[←ByteArray.toList_eq,←ByteArray.toList_eq];rfl) fun _=>rfl)
end
def Jj (n0:Nat)(m a:OpLog):Prop:=(∀x∈m.rd,n0≤x→ ¬(a.lo≤x∧x<a.hi))∧(∀x∈m.wr,n0≤x→ ¬(a.lo≤x∧x<a.hi))∧(∀x∈a.wr,x∉m.rd∧x∉m.wr)∧(∀x∈m.wr,x∉a.rd)
def EL (n0 b:Nat)(m:OpLog):List OpLog→Nat→Prop
 |[],_=>True
 |a::l,i=>(b.testBit i=true∨Jj n0 m a)∧EL n0 b m l (i+1)
def allP (n0:Nat)(all:List OpLog):List OpLog→List Nat→Nat→Prop
 |[],_,_=>True
 |m::l,b::bef,j=>EL n0 b m (all.take j) 0∧allP n0 all l bef (j+1)
 |_::_,[],_=>False
theorem Tz {x:Nat}: ∀{l:List Nat} {m:Nat},(Cz l m).testBit x=true→x∈l∨m.testBit x=true
 |[],m,h=> .inr h
 |a::l,m,h=>by
  have e:Cz (a::l) m=Cz l (m|||2^a):=by
   show fN (Nat.lor m (Nat.shiftLeft (nat_lit 1) a)) (Cz l)=_
   rw[AY]
   show Cz l (m|||(1<<<a))=_
   rw[Nat.one_shiftLeft]
  rw[e]at h
  rcases Tz h with h|h
  ·exact .inl (by simp[h])
  ·rw[Nat.testBit_or,NJ,Bool.or_eq_true]at h
   rcases h with h|h
   ·exact .inr h
   ·have:x=a:=by
     have:=of_decide_eq_true h
     omega
    exact .inl (by simp[this])
theorem YJ {a b:Nat}(h: ∀x,¬(a.testBit x=true∧b.testBit x=true)):Nat.beq (Nat.land a b) (nat_lit 0)=true:=by
 have e:a&&&b=0:=by
  refine Nat.eq_of_testBit_eq fun x=> ?_
  rw[Nat.testBit_and,Nat.zero_testBit]
  cases h1:a.testBit x with
  |false=>rfl
  |true=>
   cases h2:b.testBit x with
   |false=>rfl
   |true=>exact absurd ⟨h1,h2⟩ (h x)
 show Nat.beq (a&&&b) 0=true
 rw[e]
 rfl
theorem Gy {x:Nat}{l:List Nat}(h:(Cz l 0).testBit x=true):x∈l:=by
 rcases Tz h with h|h
 ·exact h
 ·rw[Nat.zero_testBit]at h;cases h
theorem SX_ {a m:OpLog}(h1: ∀x∈a.wr,x∉m.rd∧x∉m.wr)(h2: ∀x∈m.wr,x∉a.rd):D7 (B4 a) (B4 m)=true:=by
 unfold D7
 rw[Bool.and_eq_true,LF,LF]
 refine⟨YJ fun x ⟨p,q⟩=> ?_,YJ fun x ⟨p,q⟩=>h2 x (Gy p) (Gy q)⟩
 have q':(Cz m.rd 0|||Cz m.wr 0).testBit x=true:=q
 rw[Nat.testBit_or,Bool.or_eq_true]at q'
 rcases q' with q|q
 ·exact(h1 x (Gy p)).1 (Gy q)
 ·exact(h1 x (Gy p)).2 (Gy q)
theorem Yu {n0 b:Nat}{m:OpLog}(news:List Nat)(hn: ∀x∈news,n0≤x∧(x∈m.rd∨x∈m.wr)): ∀(acc:List OpLog) (i:Nat),EL n0 b m acc i→Eg b news acc i=true
 |[],_,_=>rfl
 |a::acc,i,h=>by
  show((b.testBit i|| !Dr a.lo a.hi news)&&Eg b news acc (Nat.succ i))=true
  rw[Bool.and_eq_true]
  refine⟨?_,Yu news hn acc (i+1) h.2⟩
  rcases h.1 with h|h
  ·rw[h];rfl
  ·rw[R5 _ _ _ fun x hx=> ?_]
   ·simp
   ·obtain⟨h1,h2⟩:=hn x hx
    rcases h2 with h2|h2
    ·exact h.1 x h2 h1
    ·exact h.2.1 x h2 h1
theorem ZV {n0 b:Nat}{m:OpLog}: ∀(acc:List OpLog) (i:Nat),EL n0 b m acc i→Fl b (B4 m) (acc.map B4) i=true
 |[],_,_=>rfl
 |a::acc,i,h=>by
  show((b.testBit i||D7 (B4 a) (B4 m))&&Fl b (B4 m) (acc.map B4) (Nat.succ i))=true
  rw[Bool.and_eq_true]
  refine⟨?_,ZV acc (i+1) h.2⟩
  rcases h.1 with h|h
  ·rw[h];rfl
  ·rw[SX_ h.2.2.1 h.2.2.2];simp
theorem U7 {n0:Nat}{all:List OpLog}: ∀(l:List OpLog) (bef:List Nat) (j:Nat),allP n0 all l bef j→Fy n0 all l bef j=true
 |[],_,_,_=>rfl
 |_::_,[],_,h=>h.elim
 |m::l,b::bef,j,h=>by
  show(Gw b (BV n0 m.rd (BV n0 m.wr [])) (all.take j)&&Fy n0 all l bef (Nat.succ j))=true
  rw[Bool.and_eq_true]
  refine⟨?_,U7 l bef (j+1) h.2⟩
  have hn: ∀x∈BV n0 m.rd (BV n0 m.wr []),n0≤x∧(x∈m.rd∨x∈m.wr):=fun x hx=>by
   rcases Rr _ _ _ x hx with h|h
   ·exact⟨h.2, .inl h.1⟩
   ·rcases Rr _ _ _ x h with h|h
    ·exact⟨h.2, .inr h.1⟩
    ·cases h
  have hj:=Yu _ hn _ _ h.1
  unfold Gw
  generalize BV n0 m.rd (BV n0 m.wr [])=z at hj
  cases z with
  |nil=>rfl
  |cons x z=>exact hj
theorem UP {n0:Nat}{all:List OpLog}: ∀(l:List OpLog) (bef:List Nat) (j:Nat),allP n0 all l bef j→I5 (all.map B4) (l.map B4) bef j=true
 |[],_,_,_=>rfl
 |_::_,[],_,h=>h.elim
 |m::l,b::bef,j,h=>by
  show(Fl b (B4 m) ((all.map B4).take j) 0&&I5 (all.map B4) (l.map B4) bef (Nat.succ j))=true
  rw[Bool.and_eq_true,←List.map_take]
  exact⟨ZV _ _ h.1,UP l bef (j+1) h.2⟩
theorem Nc {n0:Nat}{l:List OpLog}{bef:List Nat}(h:allP n0 l l bef 0):Cu n0 l bef=true:=by
 unfold Cu
 rw[U7 l bef 0 h,Nk,UP l bef 0 h]
 simp
section
variable {α β:Type}{s:St}
theorem W.dopG {m:M α}{f:α×OpLog→M β}{mem:T Cell}{next:Nat}{Q:β→St→Prop}
  (h:W m (oSt mem next) fun v s1=> ∃F G,Ext F G (oSt mem next) s1∧ ∀rd wr,(∀x∈rd,x<next∧F x)→(∀x∈wr,x<next∧G x)→W (f (v,⟨next,s1.next,rd,wr⟩)) (dSt s1.mem s1.next) Q):W (M.bind (apartO m) f) (dSt mem next) Q:=by
 obtain⟨a,s1,e,F,G,x,q⟩:=h
 obtain⟨mem1,next1,lim1,rd1,wr1,cx1⟩:=s1
 have hcx:cx1= .no:=x.cx
 obtain⟨d1,p1,p2⟩:=x.rd
 obtain⟨d2,p3,p4⟩:=x.wr
 have e1:rd1=d1:=by simpa [oSt]using p1
 have e2:wr1=d2:=by simpa [oSt]using p3
 subst hcx
 refine W.bind (W.of (a:=(a,⟨next,next1,rd1,wr1⟩)) (s':=dSt mem1 next1) ?_ (q rd1 wr1 (fun y hy=>p2 y (by rw[←e1];exact hy)) fun y hy=>p4 y (by rw[←e2];exact hy)))
 have e':m ⟨mem,next,next,[],[], .no⟩= .some a ⟨mem1,next1,lim1,rd1,wr1, .no⟩:=e
 show Am.apartO m ⟨mem,next,0,[],[], .no⟩=_
 unfold Am.apartO
 simp only[e']
 rfl
theorem KU_ (lim:Nat)(l:List OpLog)(base:List Nat): ∃d,wrsL lim l base=d++base∧ ∀x∈d,x<lim∧ ∃m∈l,x∈m.wr:=by
 induction l with
 |nil=>exact⟨[],rfl,fun _ h=>by cases h⟩
 |cons m l ih=>
  obtain⟨d,e,q⟩:=ih
  obtain⟨d2,e2,q2⟩:=Vp lim m.wr (wrsL lim l base)
  refine⟨d2++d, ?_,fun x hx=> ?_⟩
  ·show addL lim m.wr (wrsL lim l base)=_
   rw[e2,e,List.append_assoc]
  ·rcases List.mem_append.1 hx with hx|hx
   ·exact⟨(q2 x hx).1,m,by simp,(q2 x hx).2⟩
   ·obtain⟨h1,m',h2,h3⟩:=q x hx
    exact⟨h1,m',by simp[h2],h3⟩
theorem Ext.drawG {F G:Nat→Prop}{mem':T Cell}{next':Nat}{l:List OpLog}(h1:s.next≤next')(h2: ∀x,x<s.next→ ¬G x→T.get mem' x=T.get s.mem x)(hw: ∀m∈l,∀x∈m.wr,x<s.lim→G x)(hr: ∀m∈l,∀x∈m.rd,x<s.lim→F x):
  Ext F G s ⟨mem',next',s.lim,rdsL s.lim l s.rd,wrsL s.lim l s.wr,s.cx⟩:=by
 obtain⟨d,e,q⟩:=Y8 s.lim l s.rd
 obtain⟨d2,e2,q2⟩:=KU_ s.lim l s.wr
 exact⟨h1,rfl,rfl,fun x hx hg=>h2 x hx hg,⟨d,e,fun x hx=>by obtain⟨a,m,b,c⟩:=q x hx;exact⟨a,hr m b x c a⟩⟩,⟨d2,e2,fun x hx=>by obtain⟨a,m,b,c⟩:=q2 x hx;exact⟨a,hw m b x c a⟩⟩⟩
end
section
variable {α β:Type}{s:St}{E:Env}{t t2:Nat}
theorem Ext.delC {F G:Nat→Prop}(s:St)(l:Nat)(hG:G l):Ext F G s ⟨T.del s.mem l,s.next,s.lim,s.rd,notes l s.lim s.wr,s.cx⟩:=by
 obtain⟨d,e,q⟩:=Gu l s.lim s.wr
 refine⟨Nat.le_refl _,rfl,rfl,fun x _ hx=> ?_,⟨[],rfl,fun _ h=>by cases h⟩,⟨d,e,fun x hx=>⟨(q x hx).1,by rw[(q x hx).2];exact hG⟩⟩⟩
 show T.get (T.del s.mem l) x=_
 rw[T.get_del,if_neg]
 intro h
 exact hx (by rw[h];exact hG)
theorem Qo: ∀(n l:Nat) (s:St),s.lim≤s.next→l+n≤s.next→ ∃s',CO n l s= .some () s'∧s'.next=s.next∧Ext Non (fun x=>l≤x∧x<l+n) s s'
 |0,_,s,_,_=>⟨s,rfl,rfl,Ext.refl s⟩
 |n+1,l,s,hb,h=>by
  have x1:Ext Non (fun x=>l≤x∧x<l+(n+1)) s ⟨T.del s.mem l,s.next,s.lim,s.rd,notes l s.lim s.wr,s.cx⟩:=Ext.delC s l ⟨Nat.le_refl _,by omega⟩
  obtain⟨s2,e2,n2,x2⟩:=Qo n (l+1) ⟨T.del s.mem l,s.next,s.lim,s.rd,notes l s.lim s.wr,s.cx⟩ hb (by show l+1+n≤s.next;omega)
  refine⟨s2, ?_,n2,x1.trans x2 hb (fun _ _ h=>h) fun x _ h=>⟨by have:=h.1;omega,by have:=h.2;omega⟩⟩
  show M.bind (Am.delC l) (fun _=>CO n (l+1)) s=_
  have e1:Am.delC l s= .some () ⟨T.del s.mem l,s.next,s.lim,s.rd,notes l s.lim s.wr,s.cx⟩:=by
   obtain⟨mem,next,lim,rd,wr,cx⟩:=s
   show Bool.rec (motive:=fun _=>R Unit) .none (R.some () (St.mk (T.del mem l) next lim rd (notes l lim wr) cx)) (Nat.blt l next)=_
   rw[BU (show l<next from Nat.lt_of_lt_of_le (by omega) h)]
  rw[Bw e1]
  exact e2
structure Marked (s:St)(sz n:Nat)(l:List Value)(v:Value)(b:Nat):Prop where
 val:v= .slice (some ⟨b,0,none⟩) n (capU*((b+n*sz)*1024+sz)+n)
 own:Ah s b 0 l
 len:l.length=n*sz
 tok: ∃q,q%1024=sz∧T.get s.mem (b+n*sz)=some (.O (.tok false q))
 lt:b+n*sz<s.next
theorem Fresh1.marked {s s':St}{sz n:Nat}{l:List Value}{v:Value}{b:Nat}(h:Fresh1 s s' sz n l v b):Marked s' sz n l v b:=⟨h.val,h.own,h.len,h.tok,h.lt⟩
theorem Marked.ext {F G:Nat→Prop}{s s':St}{sz n:Nat}{l:List Value}{v:Value}{b:Nat}(h:Marked s sz n l v b)(e:Ext F G s s')(hG: ∀x,In b 0 (n*sz+1) x→ ¬G x):Marked s' sz n l v b:=
 ⟨h.val,h.own.ext e fun i hi=>hG _ ⟨by omega,by rw[h.len]at hi;omega⟩,h.len,let ⟨q,h1,h2⟩:=h.tok;⟨q,h1,by rw[e.mem _ h.lt (hG _ ⟨by omega,by omega⟩)];exact h2⟩,Nat.lt_of_lt_of_le h.lt e.nxt⟩
theorem Marked.same {s s':St}{sz n:Nat}{l:List Value}{v:Value}{b:Nat}(h:Marked s sz n l v b)(hm:s'.mem=s.mem)(hn:s'.next=s.next):Marked s' sz n l v b:=
 ⟨h.val,fun i v e=>(h.own i v e).same hm hn,h.len,by rw[hm];exact h.tok,by rw[hn];exact h.lt⟩
theorem W.appMark (hbd:s.lim≤s.next){sz by' n len b:Nat}{z l old:List Value}{v x:Value}{F:Nat→Prop}{Q:Value→St→Prop}{g:Bool}(ht:appT E t t2=some (sz,by',g,z))(hm:Marked s sz len old v b)(hx:SrcG s sz by' g z x n l F)(hn:0<n)(hlen:0<len)(hs0:0<sz)(hs1:sz<1024)
  (hb:(len+n)*(by'+1)≤16777216) (hl:l.length=n*sz) (h1:l.all oneCell=true)
  (q: ∀s2 v2 b2,Fresh1 s s2 sz (len+n) (old++l) v2 b2→Ext (fun x=>F x∨In b 0 (len*sz+1) x) (In b 0 (len*sz+1)) s s2→Q v2 s2):W (CS E t t2 v x) s Q:=by
 obtain⟨i,i2,e,ie,g1,g2,g3,g4,g5,g6,g7,g8⟩:=JC ht
 obtain⟨hN,s1,e1,m1,n1,x1⟩:=hx ie g5 g6 g8
 subst g5;subst g6
 rw[hm.val]
 have hle:len<capU:=by
  have:len≤16777216:=by
   have h2:len*1≤(len+n)*(ie.bytes+1):=Nat.mul_le_mul (by omega) (by omega)
   omega
  unfold capU
  omega
 have hmod:(capU*((b+len*ie.size)*1024+ie.size)+len)%capU=len:=by
  rw[Nat.mul_add_mod,Nat.mod_eq_of_lt hle]
 have hdiv:(capU*((b+len*ie.size)*1024+ie.size)+len)/capU=(b+len*ie.size)*1024+ie.size:=by
  rw[Nat.mul_add_div (by decide),Nat.div_eq_of_lt hle,Nat.add_zero]
 generalize hc:capU*((b+len*ie.size)*1024+ie.size)+len=c at *
 refine W.bind (W.ti g1 (W.bind (W.ti g2 ?_)))
 rw[g3,g7]
 refine W.bind (W.ti g4 (W.bind (W.of (hN s) (W.bind ?_))))
 refine W.of e1 ?_
 show W (M.if (Nat.ble (Nat.add len n) (c%capU)) _ _) s1 Q
 have hz:Nat.ble (Nat.add len n) (c%capU)=false:=by
  cases hq:Nat.ble (Nat.add len n) (c%capU)with
  |false=>rfl
  |true=>
   have h2:=Nat.le_of_ble_eq_true hq
   rw[hmod]at h2
   have h3:Nat.add len n=len+n:=rfl
   omega
 rw[hz]
 show W (grow ie.size ie.bytes (C9 ie.zero) (some ⟨b,0,none⟩) len c n l) s1 Q
 unfold grow
 have hm1:Marked s1 ie.size len old v b:=hm.same m1 n1
 have hb1:s1.lim≤s1.next:=x1.bnd hbd
 refine W.chk ?_ (W.bind ?_)
 ·rw[h1,hl,hmod]
  simp only[Bool.and_true,Bool.and_eq_true,Bool.or_eq_true]
  refine⟨⟨⟨⟨Nat.ble_eq_true_of_le hb,BU hs0⟩,BU hs1⟩, .inl (BU hlen)⟩,Nat.beq_refl _⟩
 ·show W (oldL ie.size (some ⟨b,0,none⟩) (Bool.rec (motive:=fun _=>Nat) (c%capU) len (Nat.beq (c/capU) 0))) s1 _
  rw[hmod,hdiv]
  have hb0:Nat.beq ((b+len*ie.size)*1024+ie.size) 0=false:=by
   cases hq:Nat.beq ((b+len*ie.size)*1024+ie.size) 0 with
   |false=>rfl
   |true=>have:=Nat.eq_of_beq_eq_true hq;omega
  rw[hb0]
  show W (Am.rdL (len*ie.size) ⟨b,0,none⟩) s1 _
  rw[←hm1.len]
  refine W.rdL hm1.own.row fun s2 m2 n2 x2=>W.bind ?_
  have hm2:Marked s2 ie.size len old v b:=hm1.same m2 n2
  have hb2:s2.lim≤s2.next:=x2.bnd hb1
  show W (Df ie.size (some ⟨b,0,none⟩) (c%capU) (c/capU)) s2 _
  rw[hmod,hdiv]
  unfold Df
  show W (M.if (Nat.beq ((b+len*ie.size)*1024+ie.size) 0) _ _) s2 _
  rw[hb0]
  have hd1:((b+len*ie.size)*1024+ie.size)/1024=b+len*ie.size:=by omega
  have hd2:((b+len*ie.size)*1024+ie.size)%1024=ie.size:=by omega
  show W (M.bind (Am.rdC (((b+len*ie.size)*1024+ie.size)/1024)) _) s2 _
  rw[hd1]
  obtain⟨qo,hqo,htok⟩:=hm2.tok
  refine W.bind (W.rdC htok hm2.lt ?_)
  show W (M.chk (Nat.beq (qo%1024) ie.size&&Nat.beq (((b+len*ie.size)*1024+ie.size)%1024) ie.size) (M.bind (Am.wrC (((b+len*ie.size)*1024+ie.size)/1024) (.O (.tok true ie.size))) fun _=>M.bind (E6 ie.size (some ⟨b,0,none⟩) len) fun _=>Am.fN (qo/1024) fun f=>M.pure f)) _ _
  rw[hd2,hd1,hqo]
  refine W.chk (by rw[Nat.beq_refl];rfl) (W.bind (W.wrC hm2.lt ?_))
  refine W.bind ?_
  show W (CO (len*ie.size) (b+0)) _ _
  generalize hs3:((s2.rdN (b+len*ie.size)).wrN (b+len*ie.size) (.O (.tok true ie.size)))=s3
  have x3:Ext (In b 0 (len*ie.size+1)) (In b 0 (len*ie.size+1)) s2 s3:=by
   rw[←hs3]
   have a1:Ext (In b 0 (len*ie.size+1)) (In b 0 (len*ie.size+1)) s2 (s2.rdN (b+len*ie.size)):=Ext.rdN s2 _ fun _=>⟨by omega,by omega⟩
   exact a1.trans (Ext.wrN (F:=In b 0 (len*ie.size+1)) (s2.rdN (b+len*ie.size)) _ _ ⟨by omega,by omega⟩) hb2 (fun _ _ h=>h) fun _ _ h=>h
  have n3:s3.next=s2.next:=by rw[←hs3];rfl
  have hb3:s3.lim≤s3.next:=x3.bnd hb2
  obtain⟨s4,e4,n4,x4⟩:=Qo (len*ie.size) (b+0) s3 hb3 (by have:=hm2.lt;omega)
  refine W.of e4 (W.fN (W.pure (W.bind (W.newL fun s5 n5 x5 r5=>W.fN (W.fN (W.bind (W.wrC ?_ ?_)))))))
  ·rw[n5]
   simp only[Nat.add_eq,Nat.mul_eq,List.length_append,List.length_take,hm.len,hl,Nat.min_self]
   rw[Nat.add_mul]
   omega
  ·show W (Am.fA (⟨s4.next,0,none⟩:Addr) fun a=>Am.fN (Nat.add len n) fun l=>Am.fN _ fun c=>M.pure (.slice (some a) l c)) _ Q
   have htake:old.take (Nat.mul len ie.size)=old:=List.take_of_length_le (by rw[hm.len];exact Nat.le_refl _)
   rw[htake]at n5 r5
   have hadd:Nat.add len n=len+n:=rfl
   have hmul:Nat.mul (len+n) ie.size=(len+n)*ie.size:=rfl
   have hal:(old++l).length=(len+n)*ie.size:=by rw[List.length_append,hm.len,hl,Nat.add_mul]
   have nn:s.next≤s4.next:=by rw[n4,n3,n2,n1];exact Nat.le_refl _
   have xall:Ext (fun x=>F x∨In b 0 (len*ie.size+1) x) (In b 0 (len*ie.size+1)) s s5:=by
    have y1:Ext (fun x=>F x∨In b 0 (len*ie.size+1) x) (In b 0 (len*ie.size+1)) s s1:=x1.weak hbd (fun _ _ h=> .inl h) fun _ _ h=>h.elim
    have y2:=y1.trans x2 hbd (fun x _ h=> .inr ⟨h.1,by have:=h.2;rw[hm.len]at this;omega⟩) fun _ _ h=>h.elim
    have y3:=y2.trans x3 hbd (fun x _ h=> .inr h) fun _ _ h=>h
    have y4:=y3.trans x4 hbd (fun _ _ h=>h.elim) fun x _ h=>⟨by have:=h.1;omega,by have:=h.2;omega⟩
    exact y4.trans x5 hbd (fun _ _ h=>h.elim) fun _ _ h=>h.elim
   have hb5:s5.lim≤s5.next:=xall.bnd hbd
   refine W.fA (W.fN (W.fN (W.pure (q _ _ s4.next ⟨?_,nn, ?_,hal, ?_, ?_⟩ ?_))))
   ·rfl
   ·intro k v hk
    have hk':=(List.getElem?_eq_some_iff.1 hk).1
    have:=r5 k v hk
    refine⟨this.1, ?_⟩
    show T.get (T.set s5.mem _ _) _=_
    rw[T.get_set,if_neg]
    ·exact this.2
    ·rw[hadd,hmul]
     show s4.next+(0+k)≠s4.next+(len+n)*ie.size
     omega
   ·refine⟨flg ie.size (qo/1024) (C9 ie.zero),GV hs1, ?_⟩
    show T.get (T.set s5.mem (Nat.add s4.next (Nat.mul (Nat.add len n) ie.size)) _) _=_
    rw[hadd,hmul,T.get_set]
    exact if_pos rfl
   ·show s4.next+(len+n)*ie.size<s5.next
    rw[n5,hal]
    omega
   ·refine xall.trans (Ext.wrN (F:=Non) (G:=fun x=>s4.next≤x) s5 _ _ ?_) hbd (fun _ _ h=>h.elim) fun x hx h=> ?_
    ·show s4.next≤s4.next+Nat.mul (Nat.add len n) ie.size
     omega
    ·omega
end
section
variable {s s':St}{E:Env}{t t2:Nat}
def MkS (s:St)(sz n:Nat)(l:List Value)(v:Value)(b:Nat):Prop:=(v= .slice none 0 0∧n=0∧l=[])∨(Marked s sz n l v b∧0<n)
def MkF (sz n b:Nat)(x:Nat):Prop:=0<n∧In b 0 (n*sz+1) x
theorem MkS.ext {F G:Nat→Prop}{sz n:Nat}{l:List Value}{v:Value}{b:Nat}(h:MkS s sz n l v b)(e:Ext F G s s')(hG: ∀x,MkF sz n b x→ ¬G x):MkS s' sz n l v b:=by
 rcases h with h|⟨h,h0⟩
 ·exact .inl h
 ·exact .inr ⟨h.ext e fun x hx=>hG x ⟨h0,hx⟩,h0⟩
theorem MkS.ext0 {F:Nat→Prop}{sz n:Nat}{l:List Value}{v:Value}{b:Nat}(h:MkS s sz n l v b)(e:Ext F Non s s'):MkS s' sz n l v b:=h.ext e fun _ _=>id
theorem MkS.same {sz n:Nat}{l:List Value}{v:Value}{b:Nat}(h:MkS s sz n l v b)(hm:s'.mem=s.mem)(hn:s'.next=s.next):MkS s' sz n l v b:=by
 rcases h with h|⟨h,h0⟩
 ·exact .inl h
 ·exact .inr ⟨h.same hm hn,h0⟩
theorem MkS.lt {sz n:Nat}{l:List Value}{v:Value}{b:Nat}(h:MkS s sz n l v b): ∀x,MkF sz n b x→x<s.next:=by
 intro x hx
 rcases h with⟨_,h0,_⟩|⟨h,_⟩
 ·have:=hx.1;omega
 ·have h1:=h.lt
  have h2:x<b+0+(n*sz+1):=hx.2.2
  omega
theorem MkS.sl {sz n:Nat}{l:List Value}{v:Value}{b:Nat}(h:MkS s sz n l v b): ∃p c,v= .slice p n c:=by
 rcases h with⟨rfl,rfl,_⟩|⟨h,_⟩
 ·exact⟨_,_,rfl⟩
 ·exact⟨_,_,h.val⟩
theorem MkS.len {sz n:Nat}{l:List Value}{v:Value}{b:Nat}(h:MkS s sz n l v b){z:Nat}(ht:slN E t=some z)(Q:Value→St→Prop):W (A6 E .len [t] [v]) s' Q=Q (.int .i64 (n:Nat)) s':=by
 obtain⟨p,c,rfl⟩:=h.sl
 exact Ch ht Q
end
section
variable {s s':St}{E:Env}{t t2:Nat}{xo yo:Operand}
theorem FJ_ (m n:Nat)(hn:1≤n):Cl.get (aBin E .rem t xo yo) (.int .u32 (m:Nat)) (.int .u32 (n:Nat)) s= .some (.int .u32 (m%n:Nat)) s:=by
 show int3 remK (Bx E .rem t xo yo) (.int .u32 (.ofNat m)) (.int .u32 (.ofNat n)) s=_
 show Option.rec (motive:=fun _=>R Value) _ (fun v=> .some v s) (remK .u32 .u32 m n)=_
 have:remK .u32 .u32 m n=some (.int .u32 (m%n:Nat)):=by
  unfold remK Cb sOpt
  rw[Nat.beq_refl,Nat.ble_eq_true_of_le hn]
  show mkI .u32 (Nat.mod m n)=_
  unfold mkI
  rw[AY]
  rfl
 rw[this]
theorem VG {m:Nat}(Q:Value→St→Prop):W (Cl.get (aBin E .rem t xo yo) (.int .u32 (m:Nat)) (.int .u32 2)) s Q=Q (.int .u32 (m%2:Nat)) s:=By (FJ_ m 2 (by decide))
def EmS (s:St)(sz n:Nat)(l:List Value)(v:Value)(b:Nat):Prop:=(v= .slice (some ⟨b,0,none⟩) 0 0∧n=0∧l=[])∨(Marked s sz n l v b∧0<n)
theorem EmS.same {sz n:Nat}{l:List Value}{v:Value}{b:Nat}(h:EmS s sz n l v b)(hm:s'.mem=s.mem)(hn:s'.next=s.next):EmS s' sz n l v b:=by
 rcases h with h|⟨h,h0⟩
 ·exact .inl h
 ·exact .inr ⟨h.same hm hn,h0⟩
theorem EmS.row {sz n:Nat}{l:List Value}{v:Value}{b:Nat}(h:EmS s sz n l v b): ∃c,v= .slice (some ⟨b,0,none⟩) n c∧Row s b 0 l:=by
 rcases h with⟨rfl,rfl,rfl⟩|⟨h,_⟩
 ·exact⟨_,rfl,fun i u e=>by simp at e⟩
 ·exact⟨_,h.val,h.own.row⟩
theorem W.appE (hbd:s.lim≤s.next){sz by' n len b:Nat}{z l old:List Value}{v x:Value}{F:Nat→Prop}{Q:Value→St→Prop}{g:Bool}(ht:appT E t t2=some (sz,by',g,z))(hm:EmS s sz len old v b)(hx:SrcG s sz by' g z x n l F)(hs0:0<sz)(hs1:sz<1024)
  (hb:(len+n)*(by'+1)≤16777216) (hl:l.length=n*sz) (h1:l.all oneCell=true)
  (q: ∀s2 v2 b2,(b2=b∨s.next≤b2)→EmS s2 sz (len+n) (old++l) v2 b2→Ext (fun x=>F x∨MkF sz len b x) (MkF sz len b) s s2→Q v2 s2):W (CS E t t2 v x) s Q:=by
 by_cases hn:n=0
 ·subst hn
  have hl0:l=[]:=List.eq_nil_of_length_eq_zero (by rw[hl,Nat.zero_mul])
  subst hl0
  have hno: ∀(o:Nat) x,In b o (0*sz) x→False:=fun o x h=>by
   have h1:=h.1
   have h2:=h.2
   rw[Nat.zero_mul]at h2
   omega
  have hle: ∀c,v= .slice (some ⟨b,0,none⟩) len c→len≤c%capU:=fun c hc=>by
   rcases hm with⟨e,rfl,_⟩|⟨hm,_⟩
   ·exact Nat.zero_le _
   ·have e:=hm.val
    rw[e]at hc
    have h2:len<capU:=by
     have:len*1≤(len+0)*(by'+1):=Nat.mul_le_mul (by omega) (by omega)
     unfold capU
     omega
    injection hc with _ _ hc
    rw[←hc,Nat.mul_add_mod,Nat.mod_eq_of_lt h2]
    exact Nat.le_refl _
  obtain⟨c,rfl,_⟩:=hm.row
  refine W.appIn ht hx (by have:=hle c rfl;omega) hl h1 (fun i hi=>by rw[Nat.zero_mul]at hi;omega) fun s2 n2 x2 _=> ?_
  have x3:Ext (fun x=>F x∨MkF sz len b x) (MkF sz len b) s s2:=x2.weak hbd (fun y _ h=>h.elim .inl fun h=>(hno _ y h).elim) fun y _ h=>(hno _ y h).elim
  refine q s2 _ b (.inl rfl) ?_ x3
  rw[List.append_nil,Nat.add_zero]
  have x4:Ext (fun x=>F x∨MkF sz len b x) Non s s2:=x2.weak hbd (fun y _ h=>h.elim .inl fun h=>(hno _ y h).elim) fun y _ h=>hno _ y h
  rcases hm with hm|⟨hm,h0⟩
  ·exact .inl hm
  ·exact .inr ⟨hm.ext x4 fun _ _=>id,h0⟩
 ·have hn0:0<n:=by omega
  rcases hm with⟨rfl,rfl,rfl⟩|⟨hm,h0⟩
  ·rw[Nat.zero_add]at hb
   refine W.appEmp hbd ht hx hn0 hs0 hs1 hb hl h1 fun s2 v2 b2 hf xf=> ?_
   refine q s2 v2 b2 (.inr hf.new) (.inr ⟨?_,by omega⟩) (xf.weak hbd (fun _ _ h=> .inl h) fun _ _ h=>h.elim)
   rw[Nat.zero_add]
   exact hf.marked
  ·refine W.appMark hbd ht hm hx hn0 h0 hs0 hs1 hb hl h1 fun s2 v2 b2 hf xf=> ?_
   exact q s2 v2 b2 (.inr hf.new) (.inr ⟨hf.marked,by omega⟩) (xf.weak hbd (fun _ _ h=>h.elim .inl fun h=> .inr ⟨h0,h⟩) fun _ _ h=>⟨h0,h⟩)
end
section
variable {s:St}{E:Env}{t:Nat}{xo yo:Operand}
theorem EA (r:Nat):fitI .u32 r=some (.int .u32 (r%4294967296:Nat)):=by
 unfold fitI
 by_cases h:r≤4294967295
 ·rw[Nat.ble_eq_true_of_le (show r≤mxOf .u32 from h),Nat.mod_eq_of_lt (by omega)]
  show mkI .u32 r=_
  unfold mkI
  rw[AY]
  rfl
 ·have e:Nat.ble r (mxOf .u32)=false:=by
   cases hb:Nat.ble r (mxOf .u32)with
   |false=>rfl
   |true=>exact absurd (Nat.le_of_ble_eq_true hb) h
  rw[e]
  show mkI .u32 (Nat.mod r 4294967296)=_
  unfold mkI
  rw[AY]
  rfl
theorem AI_ (m n:Nat):Cl.get (aBin E .add t xo yo) (.int .u32 (m:Nat)) (.int .u32 (n:Nat)) s= .some (.int .u32 ((m+n)%4294967296:Nat)) s:=by
 show int3 addK (Bx E .add t xo yo) (.int .u32 (.ofNat m)) (.int .u32 (.ofNat n)) s=_
 show Option.rec (motive:=fun _=>R Value) _ (fun v=> .some v s) (addK .u32 .u32 m n)=_
 have:addK .u32 .u32 m n=some (.int .u32 ((m+n)%4294967296:Nat)):=by
  unfold addK Cb
  rw[Nat.beq_refl]
  exact EA _
 rw[this]
theorem SV {m n:Nat}(Q:Value→St→Prop):W (Cl.get (aBin E .add t xo yo) (.int .u32 (m:Nat)) (.int .u32 (n:Nat))) s Q=Q (.int .u32 ((m+n)%4294967296:Nat)) s:=By (AI_ m n)
theorem Wz_ (m n:Nat)(h:m^^^n<4294967296):Cl.get (aBin E .xor t xo yo) (.int .u32 (m:Nat)) (.int .u32 (n:Nat)) s= .some (.int .u32 (m^^^n:Nat)) s:=by
 show int3 xorK (Bx E .xor t xo yo) (.int .u32 (.ofNat m)) (.int .u32 (.ofNat n)) s=_
 show Option.rec (motive:=fun _=>R Value) _ (fun v=> .some v s) (xorK .u32 .u32 m n)=_
 have:xorK .u32 .u32 m n=some (.int .u32 (m^^^n:Nat)):=by
  unfold xorK Cb
  rw[Nat.beq_refl]
  refine(EA _).trans ?_
  rw[Nat.mod_eq_of_lt (show Nat.xor m n<4294967296 from h)]
  rfl
 rw[this]
theorem Uy_ {m n:Nat}(h:m^^^n<4294967296)(Q:Value→St→Prop):W (Cl.get (aBin E .xor t xo yo) (.int .u32 (m:Nat)) (.int .u32 (n:Nat))) s Q=Q (.int .u32 (m^^^n:Nat)) s:=By (Wz_ m n h)
theorem Py_ (kk:IntKind)(m n:Nat)(hn:n≤32):Cl.get (aBin E .shl t xo yo) (.int .u32 (m:Nat)) (.int kk (n:Nat)) s= .some (.int .u32 (m<<<n%4294967296:Nat)) s:=by
 show int3 shlK (Bx E .shl t xo yo) (.int .u32 (.ofNat m)) (.int kk (.ofNat n)) s=_
 show Option.rec (motive:=fun _=>R Value) _ (fun v=> .some v s) (shlK .u32 kk m n)=_
 have:shlK .u32 kk m n=some (.int .u32 (m<<<n%4294967296:Nat)):=by
  unfold shlK sOpt
  rw[Nat.ble_eq_true_of_le (show n≤btOf .u32 from hn)]
  exact EA _
 rw[this]
theorem TD_ {m n:Nat}(Q:Value→St→Prop):W (Cl.get (aBin E .neq t xo yo) (.int .u32 (m:Nat)) (.int .u32 (n:Nat))) s Q=Q (.bool (!decide (m=n))) s:=By (neqU .u32 rfl m n xo yo)
theorem Ot_ {m:Nat}(h:m<4294967296):4294967295^^^m<4294967296:=Nat.xor_lt_two_pow (n:=32) (by decide) h
theorem TK_ (P:Program)(m:Nat)(hm:m<4294967296):kUn P .xor (.int .u32 (m:Nat)) s= .some (.int .u32 (4294967295^^^m:Nat)) s:=by
 show Option.rec (motive:=fun _=>M Value) (CP P .xor (.int .u32 (.ofNat m))) (fun x=>M.pure x) (notK .u32 m) s=_
 have:notK .u32 m=some (.int .u32 (4294967295^^^m:Nat)):=by
  unfold notK
  show sOpt true (fitI .u32 (Nat.xor 4294967295 m))=_
  show fitI .u32 (Nat.xor 4294967295 m)=_
  rw[EA,Nat.mod_eq_of_lt (show Nat.xor 4294967295 m<4294967296 from Ot_ hm)]
  rfl
 rw[this]
 rfl
theorem Dr_ {P:Program}{m:Nat}(hm:m<4294967296)(Q:Value→St→Prop):W (kUn P .xor (.int .u32 (m:Nat))) s Q=Q (.int .u32 (4294967295^^^m:Nat)) s:=By (TK_ P m hm)
theorem wrap_u32 (n:Nat):IntKind.u32.wrap (n:Int)=((n%4294967296:Nat):Int):=by
 have e:IntKind.u32.wrap (n:Int)=(n:Int)%4294967296:=by unfold IntKind.wrap;simp[IntKind.bits,IntKind.signed]
 rw[e]
 omega
end
section
variable {α β:Type}{s:St}{E:Env}{t:Nat}{xo yo:Operand}
theorem CE_ (m n:Nat):Cl.get (aBin E .xor t xo yo) (.int .u32 (m:Nat)) (.int .u32 (n:Nat)) s= .some (.int .u32 ((m^^^n)%4294967296:Nat)) s:=by
 show int3 xorK (Bx E .xor t xo yo) (.int .u32 (.ofNat m)) (.int .u32 (.ofNat n)) s=_
 show Option.rec (motive:=fun _=>R Value) _ (fun v=> .some v s) (xorK .u32 .u32 m n)=_
 have:xorK .u32 .u32 m n=some (.int .u32 ((m^^^n)%4294967296:Nat)):=by
  unfold xorK Cb
  rw[Nat.beq_refl]
  exact EA _
 rw[this]
theorem Jk_ (m n:Nat):Cl.get (aBin E .or t xo yo) (.int .u32 (m:Nat)) (.int .u32 (n:Nat)) s= .some (.int .u32 ((m|||n)%4294967296:Nat)) s:=by
 show int3 orK (Bx E .or t xo yo) (.int .u32 (.ofNat m)) (.int .u32 (.ofNat n)) s=_
 show Option.rec (motive:=fun _=>R Value) _ (fun v=> .some v s) (orK .u32 .u32 m n)=_
 have:orK .u32 .u32 m n=some (.int .u32 ((m|||n)%4294967296:Nat)):=by
  unfold orK Cb
  rw[Nat.beq_refl]
  exact EA _
 rw[this]
theorem MM_ (m n:Nat):Cl.get (aBin E .and t xo yo) (.int .u32 (m:Nat)) (.int .u32 (n:Nat)) s= .some (.int .u32 ((m&&&n)%4294967296:Nat)) s:=by
 show int3 andK (Bx E .and t xo yo) (.int .u32 (.ofNat m)) (.int .u32 (.ofNat n)) s=_
 show Option.rec (motive:=fun _=>R Value) _ (fun v=> .some v s) (andK .u32 .u32 m n)=_
 have:andK .u32 .u32 m n=some (.int .u32 ((m&&&n)%4294967296:Nat)):=by
  unfold andK Cb
  rw[Nat.beq_refl]
  exact EA _
 rw[this]
theorem FB_ (P:Program)(m:Nat):kUn P .xor (.int .u32 (m:Nat)) s= .some (.int .u32 ((4294967295^^^m)%4294967296:Nat)) s:=by
 show Option.rec (motive:=fun _=>M Value) (CP P .xor (.int .u32 (.ofNat m))) (fun x=>M.pure x) (notK .u32 m) s=_
 have:notK .u32 m=some (.int .u32 ((4294967295^^^m)%4294967296:Nat)):=EA _
 rw[this]
 rfl
theorem Cq_ {kk:IntKind}(m n:Nat)(hn:n≤32):Cl.get (aBin E .shr t xo yo) (.int .u32 (m:Nat)) (.int kk (n:Nat)) s= .some (.int .u32 (m>>>n:Nat)) s:=Tq .u32 kk m n (show n≤btOf .u32 from hn) xo yo
section
variable {γ:Type}{f:Value×OpLog→M γ}{mem:T Cell}{next:Nat}{Q:γ→St→Prop}{m n:Nat}{kk:IntKind}
theorem W_dr {m:M Value}{v:Value}(h: ∀s:St,m s= .some v s):W (M.bind (apartO m) f) (dSt mem next) Q=W (f (v,⟨next,next,[],[]⟩)) (dSt mem next) Q:=W_dq fun s _=>By (h s)
theorem BZ:W (M.bind (apartO (Cl.get (aBin E .add t xo yo) (.int .u32 (m:Nat)) (.int .u32 (n:Nat)))) f) (dSt mem next) Q=W (f (.int .u32 ((m+n)%4294967296:Nat),⟨next,next,[],[]⟩)) (dSt mem next) Q:=W_dr fun _=>AI_ m n
theorem B3:W (M.bind (apartO (Cl.get (aBin E .xor t xo yo) (.int .u32 (m:Nat)) (.int .u32 (n:Nat)))) f) (dSt mem next) Q=W (f (.int .u32 ((m^^^n)%4294967296:Nat),⟨next,next,[],[]⟩)) (dSt mem next) Q:=W_dr fun _=>CE_ m n
theorem JO:W (M.bind (apartO (Cl.get (aBin E .or t xo yo) (.int .u32 (m:Nat)) (.int .u32 (n:Nat)))) f) (dSt mem next) Q=W (f (.int .u32 ((m|||n)%4294967296:Nat),⟨next,next,[],[]⟩)) (dSt mem next) Q:=W_dr fun _=>Jk_ m n
theorem Cf:W (M.bind (apartO (Cl.get (aBin E .and t xo yo) (.int .u32 (m:Nat)) (.int .u32 (n:Nat)))) f) (dSt mem next) Q=W (f (.int .u32 ((m&&&n)%4294967296:Nat),⟨next,next,[],[]⟩)) (dSt mem next) Q:=W_dr fun _=>MM_ m n
theorem Ce {P:Program}:W (M.bind (apartO (kUn P .xor (.int .u32 (m:Nat)))) f) (dSt mem next) Q=W (f (.int .u32 ((4294967295^^^m)%4294967296:Nat),⟨next,next,[],[]⟩)) (dSt mem next) Q:=W_dr fun _=>FB_ P m
theorem Ph {i:Int}(n:Nat)(e:i=(n:Nat))(hn:n≤32):W (M.bind (apartO (Cl.get (aBin E .shr t xo yo) (.int .u32 (m:Nat)) (.int kk i))) f) (dSt mem next) Q=W (f (.int .u32 (m>>>n:Nat),⟨next,next,[],[]⟩)) (dSt mem next) Q:=by
 subst e
 exact W_dr fun _=>Cq_ m n hn
theorem K5 {i:Int}(n:Nat)(e:i=(n:Nat))(hn:n≤32):W (M.bind (apartO (Cl.get (aBin E .shl t xo yo) (.int .u32 (m:Nat)) (.int kk i))) f) (dSt mem next) Q=W (f (.int .u32 (m<<<n%4294967296:Nat),⟨next,next,[],[]⟩)) (dSt mem next) Q:=by
 subst e
 exact W_dr fun _=>Py_ kk m n hn
theorem Gf (a b:Int):W (M.bind (apartO (Cl.get (aBin E .sub t xo yo) (.int .i64 a) (.int .i64 b))) f) (dSt mem next) Q=W (f (.int .i64 (wrap64 (a-b)),⟨next,next,[],[]⟩)) (dSt mem next) Q:=W_dq fun _ _=>Bd a b
theorem K8 (a b:Int):W (M.bind (apartO (Cl.get (aBin E .add t xo yo) (.int .i64 a) (.int .i64 b))) f) (dSt mem next) Q=W (f (.int .i64 (wrap64 (a+b)),⟨next,next,[],[]⟩)) (dSt mem next) Q:=W_dq fun _ _=>A7 a b
theorem Aj {sz b o len k:Nat}{i:Int}{kd:IntKind}(e:i=(k:Nat))(h:arrN E t=some (len,sz))(hk:k<len):W (M.bind (apartO (A9 E t (.pointer (some ⟨b,o,none⟩)) (.int kd i))) f) (dSt mem next) Q=W (f (.pointer (some ⟨b,o+k*sz,none⟩),⟨next,next,[],[]⟩)) (dSt mem next) Q:=by
 subst e
 exact W_dq fun _=>Ue h hk
end
variable {n f nt g:Nat}{tm:T Value}{T P:List Item}{ki:CallKind}{Q:Value×FrameMode→St→Prop}
theorem DrawEq.rd {F:Nat→Prop}{bef:List Nat}{nice:Env→Aa→Aa→Am.T Value→M ((Rho×Am.T Value)×List OpLog)}{ro:Option Nat}(q:DrawEq f nt g P bef nice)(ht:skim 64 T=P)(hn:0<n)
  (h:W (nice E (AJ E (runF E (n-1))) (Ca (runF E (n-1))) tm) (dSt s.mem s.next) fun p s1=>s1=dSt s.mem s.next∧p.2.length≤bef.length∧(∀m∈p.2,(m.wr=[]∧m.lo=m.hi)∧ ∀x∈m.rd,F x)∧
   ∀s',s'.mem=s.mem→s'.next=s.next→Ext F Non s s'→W (BM (AJ E (runF E (n-1))) (Ca (runF E (n-1))) (CH E g nt (hdC P)) p.1.1 p.1.2) s' fun tm s1=>W (runF E (n-1) ⟨f,nt,g,tm,P.tail, .run,ki,ro⟩) s1 Q):W (runF E n ⟨f,nt,g,tm,T, .run,ki,ro⟩) s Q:=by
 refine q.w ht hn (h.mono fun p s1 hh=> ?_)
 obtain⟨rfl,h1,h2,h3⟩:=hh
 exact⟨Pz (by rw[List.length_reverse];exact h1) fun m hm=>(h2 m (List.mem_reverse.1 hm)).1,h3 _ rfl rfl (Ext.draw (Nat.le_refl _) (fun _ _=>rfl) (fun m hm=>(h2 m hm).1.1) fun m hm x hx _=>(h2 m hm).2 x hx)⟩
end
theorem Rel.ofOld {w:World}{r:Inj}{mem:T Cell}(hk:r.known.sure w)(hd: ∀b b' d,r.blk b=some (b',d)→b'<w.heap.size)
  (ho: ∀loc c,T.get mem loc=some c→ ∃b v,c= .O (.old b v)∧ ∃b' d v',b≤loc∧r.blk b=some (b',d)∧w.cell? ⟨b',loc-b+d,none⟩=some v'∧VR r v v'):Rel w r mem w where
 below:= .refl _ _
 dom:=fun b b' d e=>⟨Nat.le_refl _,hd b b' d e⟩
 cell:=fun l b v e=>by obtain⟨_,_,e2,_⟩:=ho _ _ e;cases e2
 sep:=fun l1 l2 b1 v1 b2 v2 b' d1 d2 e=>by obtain⟨_,_,e2,_⟩:=ho _ _ e;cases e2
 obj:=fun l o e ht=>by obtain⟨_,_,e2,_⟩:=ho _ _ e;cases e2;cases ht
 sepO:=fun l1 l2 o1 o2 b' d1 d2 e _ ht=>by obtain⟨_,_,e2,_⟩:=ho _ _ e;cases e2;cases ht
 tok:=fun t sz e=>by obtain⟨_,_,e2,_⟩:=ho _ _ e;cases e2
 sepT:=fun t1 t2 s1 s2 k1 k2 e=>by obtain⟨_,_,e2,_⟩:=ho _ _ e;cases e2
 known:=hk
 szs:=fun l n e=>by obtain⟨_,_,e2,_⟩:=ho _ _ e;cases e2
 olds:={
  old:=fun l b v e=>by obtain⟨_,_,e2,h⟩:=ho _ _ e;cases e2;exact h
  newC:=fun l b v b' d e=>by obtain⟨_,_,e2,_⟩:=ho _ _ e;cases e2
  newO:=fun l o b' d e ht=>by obtain⟨_,_,e2,_⟩:=ho _ _ e;cases e2;cases ht
  newS:=fun l n b' d e=>by obtain⟨_,_,e2,_⟩:=ho _ _ e;cases e2}
theorem Jv_ {E:Env}(he:EnvOK E){fuel f:Nat}{args:List Value}{args':Array Value}{v:Value}{s0:St}{r:Inj}(ho:E.orc.get f=none)(hx:E.ext.get f=none)(h:W (AJ E (runF E fuel) f args) s0 fun u _=>u=v)(hp:plain v=true){w:World}(ha:VRs r args args'.toList)(hr:Rel w r s0.mem w)(hb:Bnd s0)
  (hf: ∀b,s0.next≤b→r.blk b=none∧r.ext b=none):Calls E.P f args' w fun e w'=>e= .returned v∧Below w.heap.size w w':=by
 intro cs
 obtain⟨_,s',h,rfl⟩:=h
 unfold AJ at h
 rw[ho,hx]at h
 obtain⟨s2,e1,rfl⟩:=E0 (o:= .inl _) (show within cxN (M.bind (M.bind (CD E f args .normal) (runF E fuel)) fstV) s0=rOf (.inl _) s' from h)
 obtain⟨af,s1,o,e2,e3,e4⟩:=Jm (Jz _ _ _) e1
 obtain⟨_,hF,rfl⟩:=LB (r:=r) (base:=([],cs)) (cx:=cxN) he e2 ha (cs:=cs) ⟨⟨rfl,rfl⟩,rfl, .nil⟩
 obtain⟨w',r',k1,k2,cs',k3,k4⟩:=(QY he fuel).ok e3 hF hr hb (fun b h1 _=>hf b h1)
 cases o with
 |inr c=>cases e4
 |inl p=>
  cases e4
  obtain⟨v',q1,q2,q3⟩:=k4
  obtain⟨fr',x1,x2,x3⟩:=q3 rfl rfl
  have hcs:cs'=cs:=by
   rcases k3 with k3|⟨_,_,_,_,_,k,_⟩
   ·exact k3.2
   ·cases k
  subst hcs
  exact⟨.returned v',w',fr',⟨by rw[q1.eq_of_plain hp],k1.rel.below⟩,x3,x1,x2⟩
theorem VRs.plains {r:Inj}: ∀{l:List Value},(∀v∈l,plain v=true)→VRs r l l
 |[],_=> .nil
 |v::l,h=> .cons (.of_plain (h v (by simp))) (VRs.plains fun u hu=>h u (by simp[hu]))
def layT (b:Nat):List Value→Nat→T Cell→T Cell
 |[],_,t=>t
 |v::l,i,t=>layT b l (i+1) (T.set t i (.O (.old b v)))
theorem UZ (b:Nat): ∀(l:List Value) (i:Nat) (t:T Cell) (j:Nat),T.get (layT b l i t) j=if i≤j∧j<i+l.length then(l[j-i]?).map (fun v=> .O (.old b v))else T.get t j
 |[],i,t,j=>by
  rw[if_neg (by simp only[List.length_nil];omega)]
  rfl
 |v::l,i,t,j=>by
  show T.get (layT b l (i+1) (T.set t i (.O (.old b v)))) j=_
  rw[UZ b l (i+1),T.get_set]
  simp only[List.length_cons]
  by_cases h1:j=i
  ·subst h1
   rw[if_neg (by omega),if_pos rfl,if_pos (by omega),Nat.sub_self]
   rfl
  ·rw[if_neg h1]
   by_cases h2:i+1≤j∧j<i+1+l.length
   ·rw[if_pos h2,if_pos (by omega),show j-i=(j-(i+1))+1 by omega]
    rfl
   ·rw[if_neg h2,if_neg (by omega)]
open Go.RowKit Go.ChangeShapes Go.WideShapes
end Go.Proofs.Ytofanlcjeohcjaa.Am
end
