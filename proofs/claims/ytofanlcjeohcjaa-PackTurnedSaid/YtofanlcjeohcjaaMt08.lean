import Derived.Test.YtofanlcjeohcjaaMt07
import Derived.ChangeShapes
import Derived.ChangeSlices
import Derived.WideShapes
import Derived.Test.YtofanlcjeohcjaaMt06
import GoSem.ClaimWide
import Derived.Carry
import Derived.ChangeSame
noncomputable section
namespace Go.Proofs.Ytofanlcjeohcjaa.Am
open Go.RowKit Go.ChangeShapes Go.WideShapes
theorem S3 {w:World}{b o:Nat}{i:Nat}{v:Value}(h:w.cell? ((⟨b,o,none⟩:Addr).add i)=some v):w.cell? ⟨b,i+o,none⟩=some v:=by
 have e:(⟨b,o,none⟩:Addr).add i=⟨b,i+o,none⟩:=by
  unfold Addr.add
  split
  ·rename_i h0
   rw[h0,Nat.zero_add]
  ·show(⟨b,o+i,none⟩:Addr)=_
   rw[Nat.add_comm]
 rw[←e]
 exact h
abbrev Part:Type:=Option (Nat×Nat×Nat×List Nat)
def Part.l (p:Part):List Nat:=match p with|none=>[]|some (_,_,_,l)=>l
def Part.v (p:Part)(pos:Nat):Value:=match p with
 |none=> .slice none 0 0
 |some (_,_,c,l)=>if l=[]then .slice (some ⟨0,0,none⟩) 0 capU else .slice (some ⟨pos,0,none⟩) l.length c
def Part.blk (p:Part):Option (Nat×Nat):=match p with
 |none=>none
 |some (b,o,_,l)=>if l=[]then none else some (b,o)
def DV:Nat→List Part→List Value
 |_,[]=>[]
 |pos,p::t=>p.v pos::DV (pos+p.l.length+1) t
def memP:Nat→List Part→T Cell→T Cell
 |_,[],m=>m
 |pos,p::t,m=>memP (pos+p.l.length+1) t (layT pos (u8l p.l) pos m)
def blkP:Nat→List Part→Nat→Option (Nat×Nat)
 |_,[],_=>none
 |pos,p::t,b=>if b=pos then p.blk else blkP (pos+p.l.length+1) t b
def endP:Nat→List Part→Nat
 |pos,[]=>pos
 |pos,p::t=>endP (pos+p.l.length+1) t
theorem JH: ∀(ps:List Part) (pos:Nat),pos≤endP pos ps
 |[],_=>Nat.le_refl _
 |p::t,pos=>Nat.le_trans (by omega) (JH t (pos+p.l.length+1))
theorem IE: ∀(ps:List Part) (pos:Nat),(DV pos ps).length=ps.length
 |[],_=>rfl
 |p::t,pos=>by
  show(DV _ t).length+1=t.length+1
  rw[IE t]
theorem IS: ∀(ps:List Part) (pos:Nat) (m:T Cell) (x:Nat),x<pos→T.get (memP pos ps m) x=T.get m x
 |[],_,_,_,_=>rfl
 |p::t,pos,m,x,h=>by
  show T.get (memP (pos+p.l.length+1) t (layT pos (u8l p.l) pos m)) x=_
  rw[IS t _ _ x (by omega),EQ,if_neg (by omega)]
theorem ZV: ∀(ps:List Part) (pos b:Nat),endP pos ps≤b→blkP pos ps b=none
 |[],_,_,_=>rfl
 |p::t,pos,b,h=>by
  have h1:endP (pos+p.l.length+1) t≤b:=h
  have h2:=JH t (pos+p.l.length+1)
  show(if b=pos then p.blk else blkP (pos+p.l.length+1) t b)=none
  rw[if_neg (by omega),ZV t _ b h1]
theorem Uv: ∀(ps:List Part) (pos:Nat) (m:T Cell) (x:Nat) (c:Cell),pos≤x→(∀y,pos≤y→T.get m y=none)→T.get (memP pos ps m) x=some c→ ∃B b o cp l n,c= .O (.old B (u8 n))∧B≤x∧pos≤B∧some (b,o,cp,l)∈ps∧l≠[]∧blkP pos ps B=some (b,o)∧l[x-B]?=some n
 |[],pos,m,x,c,hx,hm,h=>by
  have h':T.get m x=some c:=h
  rw[hm x hx]at h'
  cases h'
 |p::t,pos,m,x,c,hx,hm,h=>by
  have h':T.get (memP (pos+p.l.length+1) t (layT pos (u8l p.l) pos m)) x=some c:=h
  by_cases hlow:x<pos+p.l.length+1
  ·rw[IS t _ _ x hlow,EQ]at h'
   split at h'
   ·rename_i hin
    rw[A1]at hin
    rw[Option.map_eq_some_iff]at h'
    obtain⟨u,hu,rfl⟩:=h'
    rw[List.getElem?_map,Option.map_eq_some_iff]at hu
    obtain⟨n,hn,rfl⟩:=hu
    match p,hin,hn with
    |none,hin,hn=>simp[Part.l]at hn
    |some (b,o,cp,l),hin,hn=>
     have hl:l≠[]:=fun e=>by
      have:l[x-pos]?=some n:=hn
      rw[e]at this
      simp at this
     refine⟨pos,b,o,cp,l,n,rfl,hx,Nat.le_refl _,by simp,hl, ?_,hn⟩
     show(if pos=pos then Part.blk (some (b,o,cp,l))else _)=_
     rw[if_pos rfl]
     show(if l=[]then none else some (b,o))=_
     rw[if_neg hl]
   ·rw[hm x hx]at h'
    cases h'
  ·obtain⟨B,b,o,cp,l,n,e1,e2,e3,e4,e5,e6,e7⟩:=Uv t (pos+p.l.length+1) _ x c (by omega) (fun y hy=>by rw[EQ,if_neg (by rw[A1];omega)];exact hm y (by omega)) h'
   refine⟨B,b,o,cp,l,n,e1,e2,by omega,by simp[e4],e5, ?_,e7⟩
   show(if B=pos then p.blk else blkP (pos+p.l.length+1) t B)=_
   rw[if_neg (by omega)]
   exact e6
def EC (w:World)(p:Part)(v:Value):Prop:=match p with
 |none=>v= .slice none 0 0
 |some (b,o,c,l)=>(∃a cc,v= .slice (some a) l.length cc∧(l≠[]→a=⟨b,o,none⟩∧cc=c))∧(l≠[]→b<w.heap.size∧l.length≤c∧c≤9223372036854775807∧(∀x∈l,x<256)∧ ∀i x,l[i]?=some x→w.cell? ⟨b,i+o,none⟩=some (.int .u8 (x:Nat)))
theorem VX:capU/capU=1:=by unfold capU;decide
theorem Py_:capU%capU=0:=by unfold capU;decide
theorem LU_ {w:World}{r:Inj}{p:Part}{v:Value}{pos:Nat}(h:EC w p v)(hr: ∀b o,p.blk=some (b,o)→r.blk pos=some (b,o)):VR r (p.v pos) v:=by
 match p,h with
 |none,h=>
  have h':v= .slice none 0 0:=h
  rw[h']
  exact .slNil
 |some (b,o,c,l),⟨⟨a,cc,e,h1⟩,h2⟩=>
  show VR r (if l=[]then .slice (some ⟨0,0,none⟩) 0 capU else .slice (some ⟨pos,0,none⟩) l.length c) v
  by_cases hl:l=[]
  ·rw[if_pos hl,e,hl]
   exact .slEnd (by rw[VX];decide) Py_
  ·rw[if_neg hl,e]
   obtain⟨rfl,rfl⟩:=h1 hl
   obtain⟨g1,g2,g3,_⟩:=h2 hl
   have hc:cc<capU:=by unfold capU;omega
   have:=VR.sl (r:=r) (b:=pos) (o:=0) (l:=l.length) (c:=cc) (c':=cc) (hr b o (by show(if l=[]then none else some (b,o))=_;rw[if_neg hl])) (.inl ⟨Nat.div_eq_of_lt hc,rfl⟩) (by rw[Nat.mod_eq_of_lt hc];exact g2)
   rw[Nat.zero_add]at this
   exact this
theorem PT: ∀(ps:List Part) (pos i:Nat) (p:Part),ps[i]?=some p→ ∃q,pos≤q∧q+p.l.length+1≤endP pos ps∧(DV pos ps)[i]?=some (p.v q)∧(∀b o,p.blk=some (b,o)→blkP pos ps q=some (b,o))∧ ∀(m:T Cell) (j:Nat) (n:Nat),p.l[j]?=some n→T.get (memP pos ps m) (q+j)=some (.O (.old q (u8 n)))
 |[],_,_,_,h=>by simp at h
 |x::t,pos,0,p,h=>by
  have hxp:x=p:=by simpa using h
  subst hxp
  refine⟨pos,Nat.le_refl _,JH t _,rfl,fun b o hb=> ?_,fun m j n hj=> ?_⟩
  ·show(if pos=pos then x.blk else _)=_
   rw[if_pos rfl]
   exact hb
  ·have hjl:=(List.getElem?_eq_some_iff.1 hj).1
   show T.get (memP (pos+x.l.length+1) t (layT pos (u8l x.l) pos m)) (pos+j)=_
   rw[IS t _ _ _ (by omega),EQ,if_pos (by rw[A1];omega),show pos+j-pos=j by omega,List.getElem?_map,hj]
   rfl
 |x::t,pos,i+1,p,h=>by
  obtain⟨q,h1,h2,h3,h4,h5⟩:=PT t (pos+x.l.length+1) i p (by simpa using h)
  refine⟨q,by omega,h2,h3,fun b o hb=> ?_,fun m j n hj=>h5 _ j n hj⟩
  show(if q=pos then x.blk else blkP (pos+x.l.length+1) t q)=_
  rw[if_neg (by omega)]
  exact h4 b o hb
def Dx (ps:List Part):St:=⟨memP (ps.length+1) ps (layT 0 (DV (ps.length+1) ps) 0 .E),endP (ps.length+1) ps,0,[],[], .no⟩
def ID (b' o':Nat)(ps:List Part):Inj:=⟨fun b=>if b=0 then some (b',o')else blkP (ps.length+1) ps b,fun _=>none, .no⟩
theorem WF_ (ps:List Part):Row (Dx ps) 0 0 (DV (ps.length+1) ps):=fun i v e=>by
 have hi:=(List.getElem?_eq_some_iff.1 e).1
 rw[IE]at hi
 have he:=JH ps (ps.length+1)
 refine⟨?_, .inr ?_⟩
 ·show 0+(0+i)<endP (ps.length+1) ps
  omega
 ·show T.get (memP (ps.length+1) ps (layT 0 (DV (ps.length+1) ps) 0 .E)) (0+(0+i))=_
  rw[IS _ _ _ _ (by omega),EQ,if_pos (by rw[IE];omega),show 0+(0+i)-0=i by omega,e]
  rfl
theorem VR_ (ps:List Part){w:World}{vs:List Value}(hlen:vs.length=ps.length)(hok: ∀(i:Nat) (p:Part) (v:Value),ps[i]?=some p→vs[i]?=some v→EC w p v){i:Nat}{p:Part}(hi:ps[i]?=some p): ∃v,(DV (ps.length+1) ps)[i]?=some v∧Bs (Dx ps) v p.l∧(∀x∈p.l,x<256)∧ ∀x,BsF v x→x<(Dx ps).next:=by
 obtain⟨q,h1,h2,h3,_,h5⟩:=PT ps (ps.length+1) i p hi
 obtain⟨v,hv⟩: ∃v,vs[i]?=some v:=⟨_,List.getElem?_eq_getElem (by rw[hlen];exact(List.getElem?_eq_some_iff.1 hi).1)⟩
 have hp:=hok i p v hi hv
 refine⟨_,h3, ?_⟩
 match p,hp,h2,h5 with
 |none,_,_,_=>exact⟨.inl ⟨rfl,rfl⟩,fun x hx=>by simp[Part.l]at hx,fun x hx=>hx.elim⟩
 |some (b,o,c,l),⟨_,g⟩,h2,h5=>
  have h2':q+l.length+1≤endP (ps.length+1) ps:=h2
  by_cases hl:l=[]
  ·subst hl
   have e:Part.v (some (b,o,c,[])) q= .slice (some ⟨0,0,none⟩) 0 capU:=by
    show(if([]:List Nat)=[]then(.slice (some ⟨0,0,none⟩) 0 capU:Value)else .slice (some ⟨q,0,none⟩) ([]:List Nat).length c)=_
    rw[if_pos rfl]
   rw[e]
   refine⟨.inr ⟨0,0,capU,rfl,Nat.zero_le _, ?_,fun j u hj=>by simp[Part.l]at hj⟩,fun x hx=>by simp[Part.l]at hx,fun x hx=> ?_⟩
   ·unfold CB
    show Bool.rec (motive:=fun _=>Bool) (Nat.beq (Nat.mod (capU/capU) 1024) 1) true (Nat.beq (capU/capU) 0)=true
    rw[VX]
    rfl
   ·have h1:=hx.1
    have h2:x<0+0+0:=hx.2
    omega
  ·have e:Part.v (some (b,o,c,l)) q= .slice (some ⟨q,0,none⟩) l.length c:=if_neg hl
   rw[e]
   obtain⟨_,g2,g3,g4,_⟩:=g hl
   have hc:c<capU:=by unfold capU;omega
   refine⟨.inr ⟨q,0,c,rfl,by rw[Nat.mod_eq_of_lt hc];exact g2,LM hc,fun j u hj=> ?_⟩,g4,fun x hx=> ?_⟩
   ·rw[List.getElem?_map,Option.map_eq_some_iff]at hj
    obtain⟨n,hn,rfl⟩:=hj
    have hjl:=(List.getElem?_eq_some_iff.1 hn).1
    refine⟨?_, .inr ?_⟩
    ·show q+(0+j)<endP (ps.length+1) ps
     have:(Part.l (some (b,o,c,l))).length=l.length:=rfl
     omega
    ·rw[Nat.zero_add]
     exact h5 _ j n hn
   ·show x<endP (ps.length+1) ps
    have h3:x<q+0+l.length:=hx.2
    omega
theorem XM_ {w:World}{b' o':Nat}{ps:List Part}{vs:List Value}(hb:b'<w.heap.size)(hlen:vs.length=ps.length)(hok: ∀(i:Nat) (p:Part) (v:Value),ps[i]?=some p→vs[i]?=some v→EC w p v)(hcell: ∀(i:Nat) (v:Value),vs[i]?=some v→w.cell? ⟨b',i+o',none⟩=some v):Rel w (ID b' o' ps) (Dx ps).mem w:=by
 have blk_ok: ∀b b2 d2,blkP (ps.length+1) ps b=some (b2,d2)→b2<w.heap.size:=by
  have gen: ∀(qs:List Part) (pos:Nat),(∀p∈qs,∃v,EC w p v)→ ∀b b2 d2,blkP pos qs b=some (b2,d2)→b2<w.heap.size:=by
   intro qs
   induction qs with
   |nil=>intro pos _ b b2 d2 e;cases e
   |cons p t ih=>
    intro pos hall b b2 d2 e
    have e':(if b=pos then p.blk else blkP (pos+p.l.length+1) t b)=some (b2,d2):=e
    split at e'
    ·obtain⟨v,hp⟩:=hall p (by simp)
     match p,hp,e' with
     |none,_,e'=>cases e'
     |some (b3,o3,c3,l3),⟨_,g⟩,e'=>
      have e'':(if l3=[]then none else some (b3,o3))=some (b2,d2):=e'
      split at e''
      ·cases e''
      ·rename_i hl
       cases e''
       exact(g hl).1
    ·exact ih _ (fun q hq=>hall q (by simp[hq])) b b2 d2 e'
  refine gen ps _ fun p hp=> ?_
  obtain⟨i,hi⟩:=List.getElem?_of_mem hp
  obtain⟨v,hv⟩: ∃v,vs[i]?=some v:=⟨_,List.getElem?_eq_getElem (by rw[hlen];exact(List.getElem?_eq_some_iff.1 hi).1)⟩
  exact⟨v,hok i p v hi hv⟩
 refine Rel.ofOld (Know.no_sure w) (fun b b2 d2 e=> ?_) fun loc c e=> ?_
 ·have e':(if b=0 then some (b',o')else blkP (ps.length+1) ps b)=some (b2,d2):=e
  split at e'
  ·cases e'
   exact hb
  ·exact blk_ok b b2 d2 e'
 ·have e':T.get (memP (ps.length+1) ps (layT 0 (DV (ps.length+1) ps) 0 .E)) loc=some c:=e
  by_cases hlow:loc<ps.length+1
  ·rw[IS _ _ _ _ hlow,EQ]at e'
   split at e'
   ·rename_i hin
    rw[Option.map_eq_some_iff]at e'
    obtain⟨u,hu,rfl⟩:=e'
    rw[Nat.sub_zero]at hu
    have hi:=(List.getElem?_eq_some_iff.1 hu).1
    rw[IE]at hi
    obtain⟨p,hp⟩: ∃p,ps[loc]?=some p:=⟨_,List.getElem?_eq_getElem hi⟩
    obtain⟨v,hv⟩: ∃v,vs[loc]?=some v:=⟨_,List.getElem?_eq_getElem (by rw[hlen];exact hi)⟩
    obtain⟨q,h1,_,h3,h4,_⟩:=PT ps (ps.length+1) loc p hp
    rw[h3]at hu
    cases hu
    refine⟨0,_,rfl,b',o',v,Nat.zero_le _,by simp[ID],hcell loc v hv,LU_ (hok loc p v hp hv) fun b o hbo=> ?_⟩
    show(if q=0 then some (b',o')else blkP (ps.length+1) ps q)=_
    rw[if_neg (by omega)]
    exact h4 b o hbo
   ·cases e'
  ·obtain⟨B,b,o,cp,l,n,rfl,h2,h3,h4,h5,h6,h7⟩:=Uv ps _ _ loc c (by omega) (fun y hy=>by rw[EQ,if_neg (by rw[IE];omega)];rfl) e'
   obtain⟨i,hi⟩:=List.getElem?_of_mem h4
   obtain⟨v,hv⟩: ∃v,vs[i]?=some v:=⟨_,List.getElem?_eq_getElem (by rw[hlen];exact(List.getElem?_eq_some_iff.1 hi).1)⟩
   obtain⟨_,g⟩:=hok i _ v hi hv
   refine⟨B,_,rfl,b,o,_,h2, ?_,(g h5).2.2.2.2 _ n h7, .int _ _⟩
   show(if B=0 then some (b',o')else blkP (ps.length+1) ps B)=_
   rw[if_neg (by omega)]
   exact h6
theorem Uh_ {w:World}{base:Nat}{a:Addr}{l:List Value}(h:w.cells? base a 1=some l): ∃c,l=[c]∧w.cell? a=some c:=by
 unfold World.cells? at h
 split at h
 ·have e:(List.range 1).mapM (fun i=>w.cell? (a.add i))=(w.cell? a).map fun c=>[c]:=by
   show(List.mapM (fun i=>w.cell? (a.add i)) [0])=_
   rw[List.mapM_cons]
   have ha:a.add 0=a:=rfl
   rw[ha]
   cases w.cell? a<;>rfl
  rw[e,Option.map_eq_some_iff]at h
  obtain⟨c,h1,h2⟩:=h
  exact⟨c,h2.symm,h1⟩
 ·cases h
theorem Ix_ {H:Type}{enc:TypeId×Value→H}{P:Program}{w:World}{b0:Nat}{sp:Nat→Bool}{held:Bool}{e e2:TypeId}{fuel:Nat}{v:Value}{y:DataW H×List MemPlace}(he:P.underlying e=some (.slice e2))(he2:P.underlying e2=some (.int .u8))(hc2:P.cellsOf e2=1)(h:DataW.trod enc P w b0 sp held fuel e [v]=some y): ∃p:Part,EC w p v:=by
 rcases open_ints he he2 hc2 h with⟨hcs,_⟩|⟨a,len,cap,zs,hcs,_,hl,hm,hz,_,hcell,hwz⟩
 ·exact⟨none,show v= .slice none 0 0 by simpa using hcs⟩
 ·have hv:v= .slice (some a) len cap:=by simpa using hcs
  have hlz:len≤zs.length:=by rw[hz];split<;>omega
  have hlen:((zs.take len).map Int.toNat).length=len:=by rw[List.length_map,List.length_take];omega
  refine⟨some (a.block,a.off,cap,(zs.take len).map Int.toNat),⟨a,cap,by rw[hlen];exact hv,fun hne=>⟨?_,rfl⟩⟩,fun hne=> ?_⟩
  ·have h0:0<len:=by
    cases hq:len with
    |zero=>rw[hq]at hne;simp at hne
    |succ _=>omega
   have hc0:=hcell 0 (by omega)
   have ha0:a.add 0=a:=rfl
   rw[ha0]at hc0
   obtain⟨b,o,spot⟩:=a
   unfold World.cell? at hc0
   cases spot with
   |none=>rfl
   |some x=>
    cases hq:w.heap[b]? with
    |none=>simp only[hq]at hc0;cases hc0
    |some c=>cases c<;>simp[hq]at hc0
  ·have h0:0<len:=by
    cases hq:len with
    |zero=>rw[hq]at hne;simp at hne
    |succ _=>omega
   have hspot:a.spot=none∧a.block<w.heap.size:=by
    have hc0:=hcell 0 (by omega)
    have ha0:a.add 0=a:=rfl
    rw[ha0]at hc0
    unfold World.cell? at hc0
    cases hq:w.heap[a.block]? with
    |none=>simp only[hq]at hc0;cases hc0
    |some c=>
     refine⟨?_,(Array.getElem?_eq_some_iff.1 hq).1⟩
     cases hsp:a.spot with
     |none=>rfl
     |some x=>cases c<;>simp[hq,hsp]at hc0
   have hby: ∀n∈zs,0≤n∧n≤255:=fun n hn=>by
    have:=hwz n hn
    unfold Lit.wf at this
    rw[Bool.and_eq_true,decide_eq_true_eq,decide_eq_true_eq]at this
    exact this
   refine⟨hspot.2,by rw[hlen];exact hl,hm,fun x hx=> ?_,fun i x hi=> ?_⟩
   ·obtain⟨z,hz,rfl⟩:=List.mem_map.1 hx
    have:=hby z (List.mem_of_mem_take hz)
    omega
   ·rw[List.getElem?_map,Option.map_eq_some_iff]at hi
    obtain⟨z,hzi,rfl⟩:=hi
    have hil:i<len:=by
     have:=(List.getElem?_eq_some_iff.1 hzi).1
     rw[List.length_take]at this
     omega
    rw[List.getElem?_take,if_pos hil]at hzi
    have hc2:=hcell i (by omega)
    have hg:zs.getD i 0=z:=by rw[List.getD_eq_getElem?_getD,hzi];rfl
    rw[hg]at hc2
    have hz0:=hby z (List.mem_of_getElem? hzi)
    have:((z.toNat:Nat):Int)=z:=by omega
    rw[this]
    obtain⟨b,o,spot⟩:=a
    have hs:spot=none:=hspot.1
    subst hs
    exact S3 hc2
theorem Lw_ {H:Type}{enc:TypeId×Value→H}{P:Program}{w:World}{base b0:Nat}{sp:Nat→Bool}{held:Bool}{t e e2:TypeId}{v:Value}{d:DataW H}{ps:List MemPlace}(ht:P.underlying t=some (.slice e))(he:P.underlying e=some (.slice e2))(he2:P.underlying e2=some (.int .u8))(hc:P.cellsOf e=1)(hc2:P.cellsOf e2=1)(hok:Value.okWide P w .any base t v)(hd:DataW.Trod enc P w b0 sp held t v d ps):
  v= .slice none 0 0∨ ∃(b o len cap:Nat) (qs:List Part) (vs:List Value),v= .slice (some ⟨b,o,none⟩) len cap∧len≤cap∧cap≤9223372036854775807∧qs.length=len∧vs.length=qs.length∧b<w.heap.size∧(∀(i:Nat) (p:Part) (v:Value),qs[i]?=some p→vs[i]?=some v→EC w p v)∧ ∀(i:Nat) (v:Value),vs[i]?=some v→w.cell? ⟨b,i+o,none⟩=some v:=by
 obtain⟨a0,len0,cap0,rfl⟩:=okWide_slice ht hok
 obtain⟨fuel,hf⟩:=hd
 rcases DataW.trod_slice ht hf with⟨hcs,_⟩|⟨a,len,cap,elems,rest,n,_,hcs,_,_,hl,hm,hlen,hel,_,_⟩
 ·left
  simpa [Value.cells]using hcs
 ·right
  have hcs':Value.slice a0 len0 cap0= .slice (some a) len cap:=by simpa [Value.cells]using hcs
  obtain⟨h1,h2,h3⟩:a0=some a∧len0=len∧cap0=cap:=by simpa using hcs'
  subst h1 h2 h3
  unfold Value.okWide at hok
  rw[ht]at hok
  simp only at hok
  unfold Cell.okWide Cell.ok at hok
  rw[ht]at hok
  obtain⟨_,_,_,hspot,row,cells,hsh,_⟩:=hok
  obtain⟨b,o,spot⟩:=a
  simp only at hspot
  subst hspot
  have hb:b<w.heap.size:=by
   unfold World.shape? at hsh
   cases hq:w.heap[b]? with
   |none=>simp only[hq]at hsh;cases hsh
   |some x=>exact(Array.getElem?_eq_some_iff.1 hq).1
  have each: ∀i,∃pv:Part×Value,i<len0→EC w pv.1 pv.2∧w.cell? ⟨b,i+o,none⟩=some pv.2:=fun i=>by
   by_cases hi:i<len0
   ·have h:=hel i hi
    rw[List.getElem?_eq_getElem (by rw[hlen];exact hi),Option.bind_eq_some_iff]at h
    obtain⟨l,h1,h2⟩:=h
    rw[hc,Nat.mul_one]at h1
    obtain⟨c,rfl,hcell⟩:=Uh_ h1
    obtain⟨p,hp⟩:=Ix_ he he2 hc2 h2
    exact⟨(p,c),fun _=>⟨hp,S3 hcell⟩⟩
   ·exact⟨(none,undef),fun h=>absurd h hi⟩
  obtain⟨f,hf⟩:=Classical.axiomOfChoice each
  refine⟨b,o,len0,cap0,(List.range len0).map fun i=>(f i).1,(List.range len0).map fun i=>(f i).2,rfl,hl,hm,by simp,by simp,hb,fun i p v e1 e2=> ?_,fun i v e2=> ?_⟩
  ·rw[List.getElem?_map,Option.map_eq_some_iff]at e1 e2
   obtain⟨j,g1,rfl⟩:=e1
   obtain⟨k,g2,rfl⟩:=e2
   rw[g1]at g2
   cases g2
   have hi:=(List.getElem?_eq_some_iff.1 g1).1
   rw[List.length_range]at hi
   rw[List.getElem?_range hi]at g1
   cases g1
   exact(hf i hi).1
  ·rw[List.getElem?_map,Option.map_eq_some_iff]at e2
   obtain⟨k,g2,rfl⟩:=e2
   have hi:=(List.getElem?_eq_some_iff.1 g2).1
   rw[List.length_range]at hi
   rw[List.getElem?_range hi]at g2
   cases g2
   exact(hf i hi).2
theorem Wd_ {E:Env}(he:EnvOK E){fuel f:Nat}{v:Value}{qs:List Part}{vs more:List Value}{b o cap:Nat}(ho:E.orc.get f=none)(hx:E.ext.get f=none)(hc:qs.length≤cap)(hm:cap≤9223372036854775807)(hmore: ∀u∈more,plain u=true)(h:W (Au E (runF E fuel) f (.slice (some ⟨0,0,none⟩) qs.length cap::more)) (Dx qs) fun u _=>u=v)(hp:plain v=true){w:World}(hb:b<w.heap.size)
  (hlen:vs.length=qs.length) (hok: ∀(i:Nat) (p:Part) (v:Value),qs[i]?=some p→vs[i]?=some v→EC w p v) (hcell: ∀(i:Nat) (v:Value),vs[i]?=some v→w.cell? ⟨b,i+o,none⟩=some v):Calls E.P f (.slice (some ⟨b,o,none⟩) qs.length cap::more).toArray w fun e w'=>e= .returned v∧Below w.heap.size w w':=by
 have hcu:cap<capU:=by unfold capU;omega
 refine Uj (r:=ID b o qs) (s0:=Dx qs) he ho hx h hp ?_ (XM_ hb hlen hok hcell) (Nat.zero_le _) fun x hx=> ?_
 ·refine .cons ?_ (VRs.plains hmore)
  have:=VR.sl (r:=ID b o qs) (b:=0) (o:=0) (b':=b) (d:=o) (l:=qs.length) (c:=cap) (c':=cap) (by simp[ID]) (.inl ⟨Nat.div_eq_of_lt hcu,rfl⟩) (by rw[Nat.mod_eq_of_lt hcu];exact hc)
  rw[Nat.zero_add]at this
  exact this
 ·have h1:endP (qs.length+1) qs≤x:=hx
  have h2:=JH qs (qs.length+1)
  refine⟨?_,rfl⟩
  show(if x=0 then some (b,o)else blkP (qs.length+1) qs x)=none
  rw[if_neg (by omega),ZV qs _ x h1]
open Go.RowKit Go.ChangeShapes
def zeroT (P:Program)(t:Nat):Value:=((P.info? t).bind (·.zero)).getD .nilFunc
section
variable {H:Type}{enc:TypeId×Value→H}{P:Program}{W W':World}
theorem below_all (hl:laidOutB P=true)(hb:Below W.heap.size W W'){sp:Nat→Bool}: ∀{ts:List TypeId} {vs:List Value} {ds:List (DataW H)} {ps:List MemPlace},(ts.all fun t=>P.readableRec t&&decide (t<P.types.size))=true→DataW.TrodAll enc P W 0 (fun _=>true) true ts vs ds ps→(∀x∈ps,x.block<W.heap.size)→(∀x∈ps,sp x.block=true)→
  DataW.TrodAll enc P W' 0 sp true ts vs ds ps
 |[],_,_,_,_,h,_,_=>by
  obtain⟨rfl,rfl,rfl⟩:=trodAll_nil h
  exact trodAll_mk0
 |t::ts,_,_,_,hr,h,hlt,hsp=>by
  obtain⟨v,vs,d,ds,p,q,rfl,rfl,rfl,h1,h2⟩:=trodAll_cons h
  rw[List.all_cons,Bool.and_eq_true,Bool.and_eq_true]at hr
  refine⟨p,q,WideElems.Trod_stays hl hr.1.1 (of_decide_eq_true hr.1.2) h1 (fun x hx=>hb.same (hlt x (List.mem_append_left _ hx))) (fun x hx=>hsp x (List.mem_append_left _ hx)), ?_,rfl⟩
  exact below_all hl hb hr.2 h2 (fun x hx=>hlt x (List.mem_append_right _ hx)) (fun x hx=>hsp x (List.mem_append_right _ hx))
end
end Go.Proofs.Ytofanlcjeohcjaa.Am
end
