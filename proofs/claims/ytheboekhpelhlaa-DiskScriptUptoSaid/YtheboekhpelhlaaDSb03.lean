import Derived.Test.YtheboekhpelhlaaDSb02
import Derived.Lib.ConvBytes
import Derived.Calls
namespace Go.Proofs.Ytheboekhpelhlaa.Am
open Go.RowKit
section
variable {E:Env}{w0 w:World}{r:Inj}{t:Nat}
theorem enc {q need:Nat}(h:need<capU):(capU*q+need)/capU=q/\(capU*q+need)%capU=need:=by
 have hp:=LA
 constructor
 ·rw[Nat.mul_add_div hp,Nat.div_eq_of_lt h];rfl
 ·rw[Nat.mul_add_mod,Nat.mod_eq_of_lt h]
theorem enc2 {m sz:Nat}(h:sz<1024):(m*1024+sz)/1024=m/\(m*1024+sz)%1024=sz:=J
theorem JQ_ {r':Inj}{b bb o m need size x cap':Nat}(h1:r'.blk b=some (bb,o))(h2:r'.ext m=some ⟨x,bb,o+need*size,size⟩)(hs0:0<size)(hs1:size<1024)(hn:need<capU)(hc:cap'=need+x):
  VR r' (.slice (some ⟨b,0,none⟩) need (capU*(m*1024+size)+need)) (.slice (some ⟨bb,o,none⟩) need cap'):=by
 obtain⟨e1,e2⟩:=enc (q:=m*1024+size) hn
 obtain⟨e3,e4⟩:=enc2 (m:=m) hs1
 have:=VR.sl (r:=r') (b:=b) (o:=0) (b':=bb) (d:=o) (l:=need) (c:=capU*(m*1024+size)+need) (c':=cap') h1 (.inr ⟨by rw[e1];omega,_,by rw[e1,e3];exact h2,by rw[e1,e4],by rw[e2];exact hc,rfl,by rw[e2];show 0+o+need*size=o+need*size;omega⟩) (by rw[e2];exact Nat.le_refl _)
 rw[Nat.zero_add]at this
 exact this
theorem VH_ {vs vs':List Value}{s2 s3 s4 s5:St}{b need size e cap' q:Nat}{u:Unit}{v:Value}{zs:Array Value}(hr:Rel w0 r s2.mem w)(hn:newL vs s2= .some b s3)(hw:wrC (b+need*size) (.O (.tok false q)) s3= .some u s4)(hq:size=q%1024)(hK:1024<=q->(∀v∈zs.toList,∃m,v= .int .u8 m)/\vs'.length+zs.size<=9223372036854775807)
  (hp:pSl ⟨b,0,none⟩ need (capU*((b+need*size)*1024+size)+need) s4= .some v s5) (hf:AK r s2.next s5.next) (hv:VRs r vs vs') (hlen:vs.length=need*size) (hs0:0<size) (hs1:size<1024) (hnu:need<capU) (hcap:need<=cap')
  (hzs:zs.size=(cap'-need)*size): ∃r',Goes w0 r s2 s5 r' (w.drew.alloc (.cells (vs'.toArray++zs) e))/\VR r' v (.slice (some ⟨w.heap.size,0,none⟩) need cap')/\s5.lim=s2.lim/\s5.cx=s2.cx:=by
 obtain⟨rfl,rfl⟩:=Ip hp
 have hbn:=(IC hn).1
 obtain⟨r',g1,g2,g3,g4,g5,rfl⟩:=Aqv_ (w:=w.drew) (m:=b+need*size) (x:=cap'-need) hr.drew hn hw hq (by rw[hbn,hlen]) hf hv (c:=vs'.toArray++zs) e
  (λi v h=>by
   have hi:=(List.getElem?_eq_some_iff.1 h).1
   rw[Array.getElem?_append_left (by simpa using hi)]
   simpa using h)
  (by simp[hzs])
  (λh i v hi hv'=>by
   rw[Array.getElem?_append_right (by simpa using hi)]at hv'
   exact(hK h).1 v (by simpa using Array.mem_of_getElem? hv'))
  (λh=>by simpa using(hK h).2)
 refine⟨r',g1, ?_,g4,g5⟩
 refine JQ_ (x:=cap'-need) g2 ?_ hs0 hs1 hnu J
 rw[hlen]at g3
 rw[Nat.zero_add]
 exact g3
theorem ON {vs vs':List Value}{s2 s3 s4 s5:St}{b need size cap' bb o q:Nat}{u:Unit}{v:Value}(hr:Rel w0 r s2.mem w)(hn:newL vs s2= .some b s3)(hw:wrC (b+need*size) (.O (.tok false q)) s3= .some u s4)(hq:size=q%1024)
  (hp:pSl ⟨b,0,none⟩ need (capU*((b+need*size)*1024+size)+need) s4= .some v s5) (hf:AK r s2.next s5.next) (hv:VRs r vs vs') (hlen:vs.length=need*size) (hs0:0<size) (hs1:size<1024) (hnu:need<capU) (hcap:need<=cap')
  (hb1:w0.heap.size<=bb) (hb2:bb<w.heap.size) (hvs: ∀(i:Nat) (v:Value),vs'[i]?=some v->w.cell? ⟨bb,o+i,none⟩=some v)
  (hcell: ∀j,j<cap'*size-> ∃v',w.cell? ⟨bb,o+j,none⟩=some v'/\w.frozen? ⟨bb,o+j,none⟩=false)
  (hno: ∀loc b v d,T.get s2.mem loc=some (.C b v)->r.blk b=some (bb,d)->loc-b+d<o)
  (htk: ∀t2 sz k2,T.get s2.mem t2=some (.O (.tok false sz))->r.ext t2=some k2->k2.b≠bb)
  (hK:1024<=q->(∀j v,need*size<=j->j<cap'*size->w.cell? ⟨bb,o+j,none⟩=some v-> ∃m,v= .int .u8 m)/\o+cap'*size<=9223372036854775807):
  ∃r',Goes w0 r s2 s5 r' w/\VR r' v (.slice (some ⟨bb,o,none⟩) need cap')/\s5.lim=s2.lim/\s5.cx=s2.cx:=by
 obtain⟨rfl,rfl⟩:=Ip hp
 have hbn:=(IC hn).1
 have hmul:need*size+(cap'-need)*size=cap'*size:=by rw[<-Nat.add_mul];congr 1;omega
 obtain⟨r',g1,g2,g3,g4,g5,rfl⟩:=Acw_ (m:=b+need*size) (x:=cap'-need) hr hn hw hq (by rw[hbn,hlen]) hf hv hb1 hb2 hvs (λj hj=>hcell j J) hno htk (λh j v h1 h2 h3=>(hK h).1 j v J J h3) (λh=>by rw[hlen,hmul];exact(hK h).2)
 refine⟨r',g1, ?_,g4,g5⟩
 refine JQ_ (x:=cap'-need) g2 ?_ hs0 hs1 hnu J
 rw[hlen]at g3
 exact g3
theorem Mv_ {size lb tok f:Nat}{base:Option Addr}{s s':St}(h:Dc size base lb tok s= .some f s'):(tok=0/\s=s'/\f=1)\/(tok≠0/\ ∃sz,T.get s.mem (tok/1024)=some (.O (.tok false sz))/\sz%1024=size/\f=sz/1024/\tok%1024=size/\s'.next=s.next/\s'.lim=s.lim/\s'.cx=s.cx/\
  ∀loc c,T.get s'.mem loc=some c->((loc=tok/1024/\c= .O (.tok true size))\/(loc≠tok/1024/\T.get s.mem loc=some c))/\(∀a,base=some a-> ¬(a.block+a.off<=loc/\loc<a.block+a.off+lb*size))):=by
 unfold Dc at h
 rw[DO]at h
 by_cases h0:Nat.beq tok 0=true
 ·rw[if_pos h0]at h
  obtain⟨h1,rfl⟩:=Af h
  exact .inl ⟨Nat.eq_of_beq_eq_true h0,rfl,h1.symm⟩
 ·rw[if_neg h0]at h
  have hne:tok≠0:=λe=>h0 (by rw[e];rfl)
  obtain⟨c,s1,h1,h2⟩:=bind_some h
  obtain⟨g1,g2⟩:=DW h1
  split at h2
  ·rename_i sz
   obtain⟨h3,h4⟩:=AV h2
   rw[Bool.and_eq_true]at h3
   have e1:sz%1024=size:=Nat.eq_of_beq_eq_true h3.1
   have e2:tok%1024=size:=Nat.eq_of_beq_eq_true h3.2
   obtain⟨u1,s2,h5,h6⟩:=bind_some h4
   obtain⟨u2,s3,h8,h7⟩:=bind_some h6
   rw[Ar]at h7
   obtain⟨hf,rfl⟩:=Af h7
   obtain⟨k1,k2,k3,k4⟩:=Gd h5
   have set: ∀loc c,T.get s2.mem loc=some c->((loc=tok/1024/\c= .O (.tok true size))\/(loc≠tok/1024/\T.get s.mem loc=some c)):=by
    intro loc c e
    rw[k1,T.get_set,g2.1]at e
    split at e
    ·cases e;exact .inl ⟨by assumption,rfl⟩
    ·exact .inr ⟨by assumption,e⟩
   refine .inr ⟨hne,sz,g1,e1,hf.symm,e2, ?_⟩
   unfold FM at h8
   split at h8
   ·rename_i a
    obtain⟨q1,q2,q3,q4⟩:=Jv _ _ h8
    refine⟨q2.trans (k2.trans g2.2.1),q3.trans (k3.trans g2.2.2.1),q4.trans (k4.trans g2.2.2.2),λloc c e=> ?_⟩
    obtain⟨x1,x2⟩:=q1 loc c e
    exact⟨set _ _ x1,λa' ea=>by cases ea;exact x2⟩
   ·obtain⟨_,rfl⟩:=Af h8
    exact⟨k2.trans g2.2.1,k3.trans g2.2.2.1,k4.trans g2.2.2.2,λloc c e=>⟨set _ _ e,λa' ea=>by cases ea⟩⟩
  ·cases h2
theorem Io {size f:Nat}{g:Bool}(h:size<1024):flg size f g%1024=size:=by
 unfold flg
 cases Nat.beq f 1&&g
 ·exact Nat.mod_eq_of_lt h
 ·show(size+1024)%1024=size
  omega
theorem Kz {size f:Nat}{g:Bool}(h:size<1024)(hq:1024<=flg size f g):f=1/\g=true:=by
 unfold flg at hq
 cases hc:(Nat.beq f 1&&g)with
 |false=>
  rw[hc]at hq
  have:1024<=size:=hq
  omega
 |true=>
  rw[Bool.and_eq_true]at hc
  exact⟨Nat.eq_of_beq_eq_true hc.1,hc.2⟩
theorem Yl_ {z:Array Value}{k:Nat}{v:Value}(h:v∈(Builtin.zeroCells z k).toList):v∈z.toList:=by
 unfold Builtin.zeroCells at h
 rw[Array.toList_map]at h
 obtain⟨i,hi,rfl⟩:=List.mem_map.1 h
 have hi':i<k*z.size:=by simpa using hi
 have hz:0<z.size:=by
  rcases Nat.eq_zero_or_pos z.size with e|e
  ·rw[e]at hi';omega
  ·exact e
 have hlt:=Nat.mod_lt i hz
 rw[getElem!_pos z _ hlt,<-Array.getElem_toList hlt]
 exact List.getElem_mem _
variable {ts:Array TypeId}{ty:TypeId}{t2 e:Nat}{u2:TypeDesc}{ni:TypeInfo}{z x':Value}{n len c:Nat}{news news':List Value}{base:Option Addr}{y' v:Value}{s s':St}
theorem AeJ_ (v:Value):v.oneCell'=oneCell v:=by cases v<;>rfl
theorem JX: ∀(n:Nat) {a:Addr} {s s':St} {l:List Value},rdL n a s= .some l s'-> ∀j,j<n-> ∃v,T.get s.mem (a.block+a.off+j)=some (.C a.block v)\/T.get s.mem (a.block+a.off+j)=some (.O (.old a.block v))
 |0,_,_,_,_,_,j,hj=>absurd hj (Nat.not_lt_zero _)
 |n+1,a,s,s',l,h,j,hj=>by
  have h0:rdL (n+1) a=fA a λa=>M.bind (rdV a) λv=>M.bind (rdL n ⟨a.block,Nat.succ a.off,a.spot⟩) λl=>M.pure (v::l):=rfl
  rw[h0,CH]at h
  obtain⟨v,s1,h1,h2⟩:=bind_some h
  obtain⟨l1,s2,h3,h4⟩:=bind_some h2
  obtain⟨_,g1,g2⟩:=YV h1
  cases j with
  |zero=>exact⟨v,g1⟩
  |succ j=>
   obtain⟨v1,q⟩:=JX n h3 j J
   rw[g2.1]at q
   refine⟨v1, ?_⟩
   have e:a.block+a.off+(j+1)=a.block+Nat.succ a.off+j:=J
   rw[e]
   exact q
theorem Aqt_ (hts0:ts[0]?=some t)(hts1:ts[1]?=some t2)(ht:E.P.underlying t=some (.slice e))(ht2:E.P.underlying t2=some u2)(hi:E.P.info? e=some ni)(hz:ni.zero=some z)(hzs:z.cells.size=ni.size)
  {g:Bool} (hgz:g=true->(∀v∈z.cells.toList,∃m,v= .int .u8 m)/\ni.size=1) (hs:Hh E.P w u2 x' n ni.size ni.bytes z news') (hn:VRs r news news') (hv:VR r (.slice base len c) y') (h:grow ni.size ni.bytes g base len c n news s= .some v s') (hle: ¬(len+n<=c%capU)) (hr:Rel w0 r s.mem w) (hf:AK r s.next s'.next):
  Yields E w0 r s s' v w (Builtin.append_ ts ty #[y',x']):=by
 unfold grow at h
 obtain⟨hc,h⟩:=AV h
 simp only[Bool.and_eq_true,Bool.or_eq_true]at hc
 obtain⟨⟨⟨⟨⟨c1,c2⟩,c3⟩,c4⟩,c5⟩,c6⟩:=hc
 have hb:=Nat.le_of_ble_eq_true c1
 have hs0:0<ni.size:=Bg c2
 have hs1:ni.size<1024:=Bg c3
 have hnl:news.length=n*ni.size:=Nat.eq_of_beq_eq_true c5
 have hmul:(len+n)*(ni.bytes+1)=(len+n)*ni.bytes+(len+n):=Nat.mul_succ _ _
 have hnu:len+n<capU:=by unfold capU;omega
 obtain⟨old,s1,h1,h⟩:=bind_some h
 obtain⟨f,s2,h2,h⟩:=bind_some h
 obtain⟨b,s3,h3,h⟩:=bind_some h
 rw[Ar,Ar]at h
 obtain⟨u4,s4,h4,h5⟩:=bind_some h
 change newL (old.take (len*ni.size)++news) s2=_ at h3
 change wrC (b+(len+n)*ni.size) _ s3=_ at h4
 change pSl ⟨b,0,none⟩ (len+n) (capU*((b+(len+n)*ni.size)*1024+ni.size)+(len+n)) s4=_ at h5
 have fin: ∀{olds:List Value} {base':Option Addr} {c':Nat} {r0:Inj},y'= .slice base' len c'->VRs r (old.take (len*ni.size)) olds->olds.length=len*ni.size->(Builtin.firstCells ni.size len (.slice base' len c')).run E.P w.drew= .ok olds.toArray w.drew->
   c'<len+n->Rel w0 r s2.mem w->s2.next=s.next->s2.lim=s.lim->s2.cx=s.cx->Yields E w0 r s s' v w (Builtin.append_ ts ty #[y',x']):=by
  intro olds base' c' _ hy ho hol hrun hg hr2 e1 e2 e3
  subst hy
  have hv':VRs r (old.take (len*ni.size)++news) (olds++news'):=ho.append hn
  have hge:=grownCap_ge w (len+n) c' e
  obtain⟨r',g1,g2,g3,g4⟩:=VH_ (e:=e) (cap':=grownCap w (len+n) c' e) (zs:=Builtin.zeroCells z.cells (grownCap w (len+n) c' e-(len+n))) hr2 h3 h4 (Io hs1).symm (λh=>⟨λv hv=>(hgz (Kz hs1 h).2).1 v (Yl_ hv),by
    have hm:=grownCap_le_maxLen w (len+n) c' e (by unfold maxLen;omega)
    have h1:=(hgz (Kz hs1 h).2).2
    rw[size_zeroCells,hzs,List.length_append,<-hn.1,hnl,hol,h1]
    unfold maxLen at hm
    omega⟩) h5 (by rw[e1];exact hf) hv'
   (by rw[List.length_append,ho.1,hol,hnl,<-Nat.add_mul]) hs0 hs1 hnu hge (by rw[size_zeroCells,hzs])
  refine⟨_,_,r', ?_,⟨g1.le,by rw[<-e1];exact g1.nxt,λb h=>by rw[<-e1];exact g1.domB b h,λb h=>by rw[<-e1];exact g1.domE b h,g1.rel⟩,g2,g3.trans e2,g4.trans e3⟩
  rw[Aae_ hts0 hts1 ht ht2 hi hz hs hrun hg hb]
  congr 3
  simp
 by_cases hq:c/capU=0
 ·
  have hK:oldL ni.size base len s= .some old s1:=by
   have:Nat.beq (Nat.div c capU) 0=true:=by
    have e:Nat.div c capU=0:=hq
    rw[e];rfl
   rw[this]at h1
   exact h1
  have hcc:=NN_ hq
  rcases Mv_ h2 with⟨_,rfl,_⟩|⟨e1,_⟩
  ·unfold oldL at hK
   split at hK
   ·rename_i a
    rcases hv.sl_inv with⟨a2,c2,rfl,ha2,hc,hlen⟩|⟨_,q1,_⟩
    ·rcases hc with⟨_,rfl⟩|⟨q1,_⟩
     ·obtain⟨l',g1,g2,g3,g4⟩:=DS _ hK hr ha2
      have hol:old.length=len*ni.size:=by rw[g3.1,g1]
      have hrun:=run_loadCells_list (P:=E.P) w.drew a2 l' (λj v e=>by have:=g2 j v e;simpa using this)
      rw[g1]at hrun
      exact fin (r0:=r) rfl (by rw[<-hol,List.take_length];exact g3) g1 (by simpa [Builtin.firstCells]using hrun) J (by rw[g4.1];exact hr) g4.2.1 g4.2.2.1 g4.2.2.2
     ·exact absurd hq q1
    ·exact absurd hq q1
   ·obtain⟨rfl,rfl⟩:=Af hK
    cases hv
    exact fin (r0:=r) (olds:=[]) rfl (by simpa using VRs.nil) am (by simp[Builtin.firstCells]) J hr rfl rfl rfl
  ·exact absurd hq e1
 ·
  have h1':oldL ni.size base (c%capU) s= .some old s1:=by
   have:Nat.beq (Nat.div c capU) 0=false:=by
    cases e:Nat.beq (Nat.div c capU) 0 with
    |true=>exact absurd (Nat.eq_of_beq_eq_true e) hq
    |false=>rfl
   rw[this]at h1
   exact h1
  have hlb:0<c%capU:=by
   rcases c4 with c4|c4
   ·exact Bg c4
   ·have:c=0:=Nat.eq_of_beq_eq_true c4
    rw[this,Nat.zero_div]at hq
    exact absurd rfl hq
  rcases Mv_ h2 with⟨e1,_⟩|⟨_,qs,u1,uq,uf,uu2,u3,uu4,u5,u6⟩
  ·exact absurd e1 hq
  ·cases base with
   |none=>
    cases hv
    exact absurd (Nat.zero_div _) hq
   |some a=>
    rcases hv.sl_inv with⟨a2,cc,rfl,ha2,hc,hlen⟩|⟨_,_,q2,_⟩
    ·rcases hc with⟨e1,_⟩|⟨_,k,k1,k2,k3,k4,k5⟩
     ·exact absurd e1 hq
     ·have hsz:k.sz=ni.size:=k2.trans uu2
      have h1'':rdL (c%capU*ni.size) a s= .some old s1:=h1'
      obtain⟨l',g1,g2,g3,g4⟩:=DS _ h1'' hr ha2
      have hmem0:=JX _ h1''
      change T.get s1.mem (c/capU/1024)=_ at u1
      rw[g4.1]at u1
      obtain⟨k',t1,t2',t3,t4,t5,t6⟩:=hr.tok _ _ u1
      rw[k1]at t1
      cases t1
      have hr2:Rel w0 r s2.mem w:=hr.lessTok λloc c e=>by
       rcases(u6 loc c e).1 with⟨_,h⟩|⟨_,h⟩
       ·exact .inr ⟨_,h,J⟩
       ·rw[g4.1]at h;exact .inl h
      have hlm:len*ni.size<=c%capU*ni.size:=Nat.mul_le_mul_right _ hlen
      have hol:(l'.take (len*ni.size)).length=len*ni.size:=by rw[List.length_take,g1];omega
      have hrun:=run_loadCells_list (P:=E.P) w.drew a2 (l'.take (len*ni.size)) (λj v e=>by
       rw[List.getElem?_take]at e
       split at e
       ·have:=g2 j v e;simpa using this
       ·cases e)
      rw[hol]at hrun
      by_cases hroom:len+n<=cc
      ·obtain⟨b0,o0,bb,d,rfl,rfl,hblk⟩:=ha2
       subst k4
       have hmem: ∀j,j<c%capU*ni.size-> ∃v,T.get s.mem (b0+o0+j)=some (.C b0 v):=λj hj=>by
        obtain⟨v,q⟩:=hmem0 j hj
        rcases q with q|q
        ·exact⟨v,q⟩
        ·exact absurd (hr.oldLt q hblk) (Nat.not_lt_of_le t3)
       have hcell: ∀j,j<cc*ni.size-> ∃v',w.cell? ⟨k.b,o0+d+j,none⟩=some v'/\w.frozen? ⟨k.b,o0+d+j,none⟩=false:=by
        intro j hj
        by_cases hj1:j<c%capU*ni.size
        ·obtain⟨v1,q⟩:=hmem j hj1
         change T.get s.mem (b0+o0+j)=some (.C b0 v1)at q
         rw[Nat.add_assoc]at q
         obtain⟨v',q1,_,q3⟩:=hr.load q hblk
         rw[show o0+d+j=o0+j+d by omega]
         exact⟨v',q1,q3⟩
        ·have hcm:cc*ni.size=c%capU*ni.size+k.e*ni.size:=by rw[k3,Nat.add_mul]
         obtain⟨v',y1,y2,_⟩:=t5 (j-c%capU*ni.size) (by rw[hsz];omega)
         rw[hsz]at k5
         change o0+d+_=_ at k5
         rw[<-k5,show o0+d+c%capU*ni.size+(j-c%capU*ni.size)=o0+d+j by omega]at y1 y2
         exact⟨v',y1,y2⟩
       have hnl':news'.length=n*ni.size:=by rw[<-hn.1];exact hnl
       have hcm2:(len+n)*ni.size<=cc*ni.size:=Nat.mul_le_mul_right _ hroom
       rw[Nat.add_mul]at hcm2
       have hcell2: ∀j,j<news'.length-> ∃v',w.cell? ⟨k.b,o0+d+len*ni.size+j,none⟩=some v'/\w.frozen? ⟨k.b,o0+d+len*ni.size+j,none⟩=false:=by
        intro j hj
        have:=hcell (len*ni.size+j) J
        rw[<-Nat.add_assoc]at this
        exact this
       have hst:(storeCells ((⟨k.b,o0+d,none⟩:Addr).add (len*ni.size)) news').run E.P w= .ok () (w.setCells k.b (o0+d+len*ni.size) news'):=by
        rw[DN]
        refine run_storeCells_cells k.b _ news' 0 w (λj hj=> ?_) (λj hj=> ?_) (λv hv=> ?_)
        ·obtain⟨v',q,_⟩:=hcell2 j hj;rw[Nat.add_zero,q];rfl
        ·obtain⟨v',_,q⟩:=hcell2 j hj;rw[Nat.add_zero];exact q
        ·rw[AeJ_]
         obtain⟨i,hi,rfl⟩:=List.getElem_of_mem hv
         have hi':i<news.length:=by rw[hn.1];exact hi
         have:=hn.2 i _ _ (List.getElem?_eq_getElem hi') (List.getElem?_eq_getElem hi)
         rw[this.oneCell]
         exact List.all_eq_true.1 c6 _ (List.getElem_mem hi')
       have hno: ∀loc b v d',T.get s2.mem loc=some (.C b v)->r.blk b=some (k.b,d')->loc-b+d'<o0+d:=by
        intro loc b v d' e1 e2
        obtain⟨x1,x2⟩:=u6 loc _ e1
        have x3:=x2 _ rfl
        rcases x1 with⟨_,x1⟩|⟨_,x1⟩
        ·cases x1
        ·rw[g4.1]at x1
         have q:=t6 _ _ _ _ x1 e2
         rw[hsz]at k5
         change o0+d+_=_ at k5
         rcases Nat.lt_or_ge (loc-b+d') (o0+d)with q2|q2
         ·exact q2
         ·exfalso
          obtain⟨v1,q3⟩:=hmem (loc-b+d'-(o0+d)) J
          change T.get s.mem (b0+o0+_)=some (.C b0 v1)at q3
          have q4:=hr.sep _ _ _ _ _ _ _ _ _ x1 q3 e2 hblk J
          apply x3
          change b0+o0<=loc/\loc<b0+o0+c%capU*ni.size
          omega
       have htk: ∀t2 sz k2,T.get s2.mem t2=some (.O (.tok false sz))->r.ext t2=some k2->k2.b≠k.b:=by
        intro t2 sz k2' e1 e2 heq
        rcases(u6 t2 _ e1).1 with⟨_,x1⟩|⟨x0,x1⟩
        ·cases x1
        ·rw[g4.1]at x1
         exact x0 (hr.sepT _ _ _ _ _ _ x1 u1 e2 k1 heq)
       have hr3:Rel w0 r s2.mem (w.setCells k.b (o0+d+len*ni.size) news'):=hr2.setFrees t3 htk news' _ (λj hj=>by obtain⟨v',q,_⟩:=hcell2 j hj;rw[q];rfl) (λloc b v d' e1 e2=>by have:=hno _ _ _ _ e1 e2;omega)
       have hin:=World.cell?_setCells_in k.b news' (o0+d+len*ni.size) w (λj hj=>by obtain⟨v',q,_⟩:=hcell2 j hj;rw[q];rfl)
       have hout: ∀p,p<o0+d+len*ni.size\/o0+d+len*ni.size+news'.length<=p->(w.setCells k.b (o0+d+len*ni.size) news').cell? ⟨k.b,p,none⟩=w.cell? ⟨k.b,p,none⟩:=λp hp=>World.cell?_setCells_out k.b news' _ w ⟨k.b,p,none⟩ λ_ _=>hp
       obtain⟨r',f1,f2,f3,f4⟩:=ON (cap':=cc) (bb:=k.b) (o:=o0+d) hr3 h3 h4 (Io hs1).symm h5 (by rw[u3,g4.2.1];exact hf) ((g3.take (len*ni.size)).append hn) (by rw[List.length_append,(g3.take (len*ni.size)).1,hol,hnl,<-Nat.add_mul]) hs0 hs1 hnu hroom t3
        (by have:=hr3.dom _ _ _ hblk;exact this.2) (λi v e=>by
         rw[List.getElem?_append]at e
         split at e
         ·rename_i hi
          rw[hol]at hi
          rw[hout _ (.inl J)]
          rw[List.getElem?_take,if_pos hi]at e
          have:=g2 i v e
          rw[DN]at this
          exact this
         ·rename_i hi
          rw[hol]at e hi
          obtain⟨hi2,rfl⟩:=List.getElem?_eq_some_iff.1 e
          have:=hin _ hi2
          rw[show o0+d+len*ni.size+(i-len*ni.size)=o0+d+i by omega]at this
          exact this) (λj hj=>by
         obtain⟨v',q1,q2⟩:=hcell j hj
         by_cases hj2:o0+d+j<o0+d+len*ni.size\/o0+d+len*ni.size+news'.length<=o0+d+j
         ·exact⟨v',by rw[hout _ hj2];exact q1,by rw[World.frozen?_setCells];exact q2⟩
         ·have hj3:j-len*ni.size<news'.length:=J
          have:=hin _ hj3
          rw[show o0+d+len*ni.size+(j-len*ni.size)=o0+d+j by omega]at this
          exact⟨_,this,by rw[World.frozen?_setCells];exact q2⟩) hno htk
        (λh=>⟨λj v h1 h2 h3=>by
         have hf1:=(Kz hs1 h).1
         have hcm:cc*ni.size=c%capU*ni.size+k.e*ni.size:=by rw[k3,Nat.add_mul]
         have hlm2:c%capU*ni.size<=(len+n)*ni.size:=Nat.mul_le_mul_right _ J
         rw[hout _ (.inr (by rw[hnl'];rw[Nat.add_mul]at h1;omega))]at h3
         obtain⟨v',y1,y2,y3⟩:=t5 (j-c%capU*ni.size) (by rw[hsz];omega)
         rw[hsz]at k5
         change o0+d+_=_ at k5
         rw[<-k5,show o0+d+c%capU*ni.size+(j-c%capU*ni.size)=o0+d+j by omega]at y1
         rw[h3]at y1
         cases y1
         exact(y3 J).1,by
         have hf1:=(Kz hs1 h).1
         have hcm:cc*ni.size=c%capU*ni.size+k.e*ni.size:=by rw[k3,Nat.add_mul]
         have hlt:(c%capU+1)*ni.size<=cc*ni.size:=Nat.mul_le_mul_right _ J
         rw[Nat.add_mul]at hlt
         obtain⟨v',_,_,y3⟩:=t5 0 (by rw[hsz];omega)
         have y4:=(y3 J).2
         rw[hsz]at y4 k5
         change o0+d+_=_ at k5
         omega⟩)
       have e1:s2.next=s.next:=u3.trans g4.2.1
       exact⟨_,_,r',Q8 hts0 hts1 ht ht2 hi hz hs hroom hst,⟨f1.le,by rw[<-e1];exact f1.nxt,λb h=>by rw[<-e1];exact f1.domB b h,λb h=>by rw[<-e1];exact f1.domE b h,f1.rel⟩,f2,f3.trans (uu4.trans g4.2.2.1),f4.trans (u5.trans g4.2.2.2)⟩
      ·exact fin (r0:=r) rfl (g3.take _) hol (by simpa [Builtin.firstCells]using hrun) J hr2 (u3.trans g4.2.1) (uu4.trans g4.2.2.1) (u5.trans g4.2.2.2)
    ·omega
end
section
variable {E:Env}{w0 w:World}{r:Inj}{t t2:Nat}
theorem TV_ {z:List Value}(h:Di z=true){v:Value}(hv:v∈z): ∃m,v= .int .u8 m:=by
 unfold Di at h
 split at h
 ·rw[List.mem_singleton]at hv
  exact⟨_,hv⟩
 ·cases h
theorem Alx_ {z:List Value}(h:Di z=true):z.length=1:=by
 unfold Di at h
 split at h
 ·rfl
 ·cases h
theorem Yields.before {s s1 s':St}{v:Value}{m:Sem Value}(hs:Same s s1)(h:Yields E w0 r s1 s' v w m):Yields E w0 r s s' v w m:=by
 obtain⟨v',w',r',h1,h2,h3,h4,h5⟩:=h
 exact⟨v',w',r',h1,⟨h2.le,by rw[<-hs.2.1];exact h2.nxt,λb h=>by rw[<-hs.2.1];exact h2.domB b h,λb h=>by rw[<-hs.2.1];exact h2.domE b h,h2.rel⟩,h3,h4.trans hs.2.2.1,h5.trans hs.2.2.2⟩
theorem Yw_ {ts:Array TypeId}{ty:TypeId}{x x' y y' v:Value}{s s':St}(hts0:ts[0]?=some t)(hts1:ts[1]?=some t2)(he:EnvTy E)(h:BV E t t2 y x s= .some v s')(hr:Rel w0 r s.mem w)(hf:AK r s.next s'.next)(hy:VR r y y')(hx:VR r x x'):
  Yields E w0 r s s' v w (Builtin.append_ ts ty #[y',x']):=by
 obtain⟨i,s1,h1,h2⟩:=bind_some h
 obtain⟨hi,rfl⟩:=AE h1 he
 obtain⟨i2,s1,h3,h4⟩:=bind_some h2
 obtain⟨hi2,rfl⟩:=AE h3 he
 have ht:=hi.und
 have ht2:=hi2.und
 generalize i.u=u at h4 ht
 split at h4
 ·rename_i e base len c
  obtain⟨ie,s1,h5,h6⟩:=bind_some h4
  obtain⟨hie,rfl⟩:=AE h5 he
  obtain⟨n,s1,h7,h8⟩:=bind_some h6
  obtain⟨news,s2,h9,h10⟩:=bind_some h8
  obtain⟨ni,q1,q2,q3,z,q4,q5⟩:=hie.info
  obtain⟨g1,g2,news',g3,g4⟩:=AeV_ (E:=E) h7 h9 hr hx hie q5
  have hzs:z.cells.size=ni.size:=by rw[<-Array.length_toList,q5,hie.len,q2]
  rw[<-q2,<-q3]at g4
  rw[DO]at h10
  have hr2:Rel w0 r s2.mem w:=by rw[g1.1];exact hr
  refine Yields.before g1 ?_
  by_cases hle:Nat.ble (Nat.add len n) (Nat.mod c capU)=true
  ·rw[if_pos hle,<-q2]at h10
   exact AnV_ hts0 hts1 ht ht2 q1 q4 g4 g3 g2 hy h10 (Nat.le_of_ble_eq_true hle) hr2
  ·rw[if_neg hle,<-q2,<-q3]at h10
   exact Aqt_ hts0 hts1 ht ht2 q1 q4 hzs (λhg=>⟨λv hv=>TV_ hg (by rw[<-q5];exact hv),by
    have:=Alx_ hg
    rw[<-hzs,<-Array.length_toList,q5,this]⟩) g4 g3 hy h10 (λhh=>hle (Nat.ble_eq_true_of_le hh)) hr2 (by rw[g1.2.1];exact hf)
 ·cases h4
end
section
variable {w0 w:World}{r:Inj}{mem:T Cell}
def World.setO (w:World)(b:Nat)(o:Obj):World:={w with heap:=w.heap.setIfInBounds b o}
theorem No (b:Nat)(o:Obj):(World.setO w b o).heap.size=w.heap.size:=by simp[World.setO]
theorem ZW_ {b:Nat}(h:b<w.heap.size)(o:Obj):(World.setO w b o).heap[b]?=some o:=by simp[World.setO,h]
theorem Iq {b c:Nat}(h:c≠b)(o:Obj):(World.setO w b o).heap[c]?=w.heap[c]?:=by
 simp only[World.setO]
 exact Array.getElem?_setIfInBounds_ne (λe=>h e.symm)
theorem KN_ {b:Nat}{o:Obj}(a:Addr)(h:a.block≠b):(World.setO w b o).cell? a=w.cell? a:=by
 unfold World.cell?
 rw[Iq h]
theorem Br_ {b:Nat}{o:Obj}(a:Addr)(h:a.block≠b):(World.setO w b o).frozen? a=w.frozen? a:=by
 unfold World.frozen?
 rw[Iq h]
theorem Rel.storeO (h:Rel w0 r mem w){l l' d:Nat}{o o2:AObj}{o2':Obj}(hc:T.get mem l=some (.O o))(ht:o.isTok=false)(hb:r.blk l=some (l',d))(ho:OR r o2 o2')(ht2:o2.isTok=false):
  Rel w0 r (T.set mem l (.O o2)) (World.setO w l' o2'):=by
 obtain⟨b1,d1,ow,g1,g2,g3⟩:=h.obj _ _ hc ht
 rw[hb]at g1
 cases g1
 have hlt:=(h.dom _ _ _ hb).2
 have old: ∀loc c,T.get (T.set mem l (.O o2)) loc=some c->(loc=l/\c= .O o2)\/(loc≠l/\T.get mem loc=some c):=by
  intro loc c e
  rw[T.get_set]at e
  split at e
  ·cases e;exact .inl ⟨by assumption,rfl⟩
  ·exact .inr ⟨by assumption,e⟩
 have oldC: ∀loc b v,T.get (T.set mem l (.O o2)) loc=some (.C b v)->T.get mem loc=some (.C b v):=by
  intro loc b v e
  rcases old _ _ e with⟨_,e⟩|⟨_,e⟩
  ·cases e
  ·exact e
 have oldT: ∀loc u sz,T.get (T.set mem l (.O o2)) loc=some (.O (.tok u sz))->T.get mem loc=some (.O (.tok u sz)):=by
  intro loc u sz e
  rcases old _ _ e with⟨_,e⟩|⟨_,e⟩
  ·cases e;cases ht2
  ·exact e
 have anyO: ∀loc o1,T.get (T.set mem l (.O o2)) loc=some (.O o1)->o1.isTok=false-> ∃o3,T.get mem loc=some (.O o3)/\o3.isTok=false:=by
  intro loc o1 e t1
  rcases old _ _ e with⟨e1,_⟩|⟨_,e⟩
  ·rw[e1];exact⟨o,hc,ht⟩
  ·exact⟨o1,e,t1⟩
 have cellNe: ∀b' off v,w.cell? ⟨b',off,none⟩=some v->b'≠l':=by
  intro b' off v e hx
  subst hx
  unfold World.cell? at e
  rw[g2]at e
  cases ow with
  |cells c t f=>exact g3.cells
  |_=>cases e
 have hnew:=h.olds.newO _ _ _ _ hc ht hb
 refine⟨?_,λx y z e=>by rw[No];exact h.dom x y z e, ?_, ?_, ?_, ?_, ?_, ?_,h.known,λx n e=>by
  obtain⟨p,q⟩:=h.szs x n (oldT _ _ _ e)
  refine⟨p,q.to (Inj.le_refl r) λb' q1 q2=> ?_⟩
  have hne:b'≠l':=by
   intro hx
   subst hx
   obtain⟨c,e,lo,hi,q3,_⟩:=q2
   rw[g2]at q3
   cases q3
   exact g3.cells
  exact q2.heap (Iq hne _),
  h.oldsTo (Inj.le_refl r) λloc c e=>by
   rcases old _ _ e with⟨e1,e⟩|⟨_,e⟩
   ·exact .inr (.inr (.inr ⟨_,_,_,e,ht2,by rw[e1];exact hb,hnew⟩))
   ·exact .inl e⟩
 ·have hlo:=hnew
  exact h.below.trans ⟨rfl,rfl,rfl,by rw[No];exact Nat.le_refl _,λk hk=>Iq J _⟩
 ·intro loc b v e
  obtain⟨b2,d2,v2,k1,k2,k3,k4,k5⟩:=h.cell _ _ _ (oldC _ _ _ e)
  have hne:=cellNe _ _ _ k3
  exact⟨b2,d2,v2,k1,k2,by rw[KN_ _ hne];exact k3,k4,by rw[Br_ _ hne];exact k5⟩
 ·intro l1 l2 b1 v1 b2 v2 bb d1 d2 e1 e2
  exact h.sep _ _ _ _ _ _ _ _ _ (oldC _ _ _ e1) (oldC _ _ _ e2)
 ·intro loc ob e t1
  rcases old _ _ e with⟨e1,e2⟩|⟨hne,e⟩
  ·cases e2
   subst e1
   exact⟨l',d,o2',hb,ZW_ hlt _,ho⟩
  ·obtain⟨b2,d2,o',k1,k2,k3⟩:=h.obj _ _ e t1
   refine⟨b2,d2,o',k1, ?_,k3⟩
   rw[Iq]
   ·exact k2
   ·intro hx
    subst hx
    exact hne (h.sepO _ _ _ _ _ _ _ e hc t1 ht k1 hb)
 ·intro l1 l2 o1 o3 bb d1 d2 e1 e2 t1 t2 r1 r2
  obtain⟨p1,q1,q2⟩:=anyO _ _ e1 t1
  obtain⟨p2,q3,q4⟩:=anyO _ _ e2 t2
  exact h.sepO _ _ _ _ _ _ _ q1 q3 q2 q4 r1 r2
 ·intro t sz e
  obtain⟨k,k1,k2,k3,k4,k5,k6⟩:=h.tok _ _ (oldT _ _ _ e)
  refine⟨k,k1,k2,k3,by rw[No];exact k4,λj hj=> ?_,λloc b v d e1=>k6 _ _ _ _ (oldC _ _ _ e1)⟩
  obtain⟨v',p1,p2⟩:=k5 j hj
  have hne:=cellNe _ _ _ p1
  exact⟨v',by rw[KN_ _ hne];exact p1,by rw[Br_ _ hne];exact p2⟩
 ·intro t1 t2 s1 s2 k1 k2 e1 e2
  exact h.sepT _ _ _ _ _ _ (oldT _ _ _ e1) (oldT _ _ _ e2)
theorem AqH_ (w:World)(o:Obj):(w.alloc o).heap[w.heap.size]?=some o:=by
 show(w.heap.push o)[w.heap.size]?=some o
 rw[Array.getElem?_push,if_pos rfl]
theorem Rel.newObj (h:Rel w0 r mem w){b:Nat}(hb:r.blk b=none){o:AObj}{o':Obj}(ht:o.isTok=false)(ho:OR r o o'):
  Rel w0 (r.add b (w.heap.size,0)) (T.set mem b (.O o)) (w.alloc o'):=by
 have hle:=bB (w.heap.size,0) hb
 have old: ∀loc c,T.get (T.set mem b (.O o)) loc=some c->(loc=b/\c= .O o)\/(loc≠b/\T.get mem loc=some c):=by
  intro loc c e
  rw[T.get_set]at e
  split at e
  ·cases e;exact .inl ⟨by assumption,rfl⟩
  ·exact .inr ⟨by assumption,e⟩
 have oldC: ∀loc b1 v,T.get (T.set mem b (.O o)) loc=some (.C b1 v)->T.get mem loc=some (.C b1 v):=by
  intro loc b1 v e
  rcases old _ _ e with⟨_,e⟩|⟨_,e⟩
  ·cases e
  ·exact e
 have oldT: ∀loc u sz,T.get (T.set mem b (.O o)) loc=some (.O (.tok u sz))->T.get mem loc=some (.O (.tok u sz)):=by
  intro loc u sz e
  rcases old _ _ e with⟨_,e⟩|⟨_,e⟩
  ·cases e;cases ht
  ·exact e
 have notb: ∀loc b1 v1,T.get mem loc=some (.C b1 v1)->b1≠b:=by
  intro loc b1 v1 e1 heq
  obtain⟨b2,d2,_,_,g2,_⟩:=h.cell _ _ _ e1
  rw[heq,hb]at g2;cases g2
 have keepC: ∀b1 o1,b1<w.heap.size->(w.alloc o').cell? ⟨b1,o1,none⟩=w.cell? ⟨b1,o1,none⟩:=λb1 o1 k=>World.cell?_alloc_past _ b1 o1 k
 have keepF: ∀b1 o1,b1<w.heap.size->(w.alloc o').frozen? ⟨b1,o1,none⟩=w.frozen? ⟨b1,o1,none⟩:=λb1 o1 k=>World.frozen?_alloc_past _ b1 o1 k
 refine⟨h.below.alloc h.below.size _, ?_, ?_, ?_, ?_, ?_, ?_, ?_,h.known,λl n e1=>let ⟨p,q⟩:=h.szs l n (oldT _ _ _ e1);⟨p,q.to hle λb' q1 q2=>q2.heap (Below.heap_alloc w _ _ (h.dom _ _ _ q1).2)⟩,
  h.oldsTo hle λloc c e=>by
   rcases old _ _ e with⟨e1,e⟩|⟨_,e⟩
   ·exact .inr (.inr (.inr ⟨_,_,_,e,ht,by rw[e1];exact aE _ _ _,h.below.size⟩))
   ·exact .inl e⟩
 ·intro x b' d e1
  rw[World.size_alloc]
  by_cases hx:x=b
  ·rw[hx,aE]at e1
   cases e1
   exact⟨Nat.le_succ_of_le h.below.size,Nat.lt_succ_self _⟩
  ·rw[aF _ hx]at e1
   exact⟨Nat.le_succ_of_le (h.dom _ _ _ e1).1,Nat.lt_succ_of_lt (h.dom _ _ _ e1).2⟩
 ·intro loc b1 v1 e1
  obtain⟨b2,d2,v2,g1,g2,g3,g4,g5⟩:=h.cell _ _ _ (oldC _ _ _ e1)
  have hlt:=(h.dom _ _ _ g2).2
  exact⟨b2,d2,v2,g1,hle.1 _ _ g2,by rw[keepC _ _ hlt];exact g3,g4.mono hle,by rw[keepF _ _ hlt];exact g5⟩
 ·intro l1 l2 b1 v1 b2 v2 b' d1 d2 e1 e2 r1 r2 hh
  have e1:=oldC _ _ _ e1
  have e2:=oldC _ _ _ e2
  rw[aF _ (notb _ _ _ e1)]at r1
  rw[aF _ (notb _ _ _ e2)]at r2
  exact h.sep _ _ _ _ _ _ _ _ _ e1 e2 r1 r2 hh
 ·intro loc ob e1 t1
  rcases old _ _ e1 with⟨q1,q2⟩|⟨hne,e⟩
  ·cases q2
   subst q1
   exact⟨w.heap.size,0,o',aE _ _ _,AqH_ w o',ho.mono hle⟩
  ·obtain⟨b2,d2,ow,g1,g2,g3⟩:=h.obj _ _ e t1
   exact⟨b2,d2,ow,hle.1 _ _ g1,by rw[Below.heap_alloc w _ _ (h.dom _ _ _ g1).2];exact g2,g3.mono hle⟩
 ·intro l1 l2 o1 o2 b' d1 d2 e1 e2 t1 t2 r1 r2
  rcases old _ _ e1 with⟨q1,q2⟩|⟨n1,q2⟩
  ·rw[q1,aE]at r1
   cases r1
   rcases old _ _ e2 with⟨q3,q4⟩|⟨n3,q4⟩
   ·rw[q1,q3]
   ·rw[aF _ n3]at r2
    exact absurd (h.dom _ _ _ r2).2 (Nat.lt_irrefl _)
  ·rw[aF _ n1]at r1
   rcases old _ _ e2 with⟨q3,q4⟩|⟨n3,q4⟩
   ·rw[q3,aE]at r2
    cases r2
    exact absurd (h.dom _ _ _ r1).2 (Nat.lt_irrefl _)
   ·rw[aF _ n3]at r2
    exact h.sepO _ _ _ _ _ _ _ q2 q4 t1 t2 r1 r2
 ·intro t sz e1
  obtain⟨k,g1,g2,g3,g4,g5,g6⟩:=h.tok _ _ (oldT _ _ _ e1)
  refine⟨k,g1,g2,g3,by rw[World.size_alloc];exact Nat.lt_succ_of_lt g4,λj hj=>by rw[keepC _ _ g4,keepF _ _ g4];exact g5 j hj, ?_⟩
  intro loc b1 v1 d e2 r1
  have e2:=oldC _ _ _ e2
  rw[aF _ (notb _ _ _ e2)]at r1
  exact g6 _ _ _ _ e2 r1
 ·intro t1 t2 s1 s2 k1 k2 e1 e2
  exact h.sepT _ _ _ _ _ _ (oldT _ _ _ e1) (oldT _ _ _ e2)
end
theorem DT_ {w0 w:World}{r:Inj}{o:AObj}{o':Obj}{s s':St}{b:Nat}(h:newO o s= .some b s')(hr:Rel w0 r s.mem w)(hf:AK r s.next s'.next)(ht:o.isTok=false)(ho:OR r o o'):
  b=s.next/\Goes w0 r s s' (r.add s.next (w.heap.size,0)) (w.alloc o')/\(r.add s.next (w.heap.size,0)).blk b=some (w.heap.size,0)/\s'.lim=s.lim/\s'.cx=s.cx:=by
 obtain⟨h1,h2,h3,h4,h5⟩:=AgM_ h
 have hb:=(hf s.next (Nat.le_refl _) J).1
 refine⟨h1,Goes.add hb J ?_,by rw[h1];exact aE _ _ _,h4,h5⟩
 rw[h2]
 exact hr.newObj hb ht ho
theorem Lk {w0 w:World}{r:Inj}{l l' d:Nat}{o o2:AObj}{o2':Obj}{s s':St}{u:Unit}(h:wrC l (.O o2) s= .some u s')(hr:Rel w0 r s.mem w)(hc:T.get s.mem l=some (.O o))(ht:o.isTok=false)(hb:r.blk l=some (l',d))(ho:OR r o2 o2')(ht2:o2.isTok=false):
  Goes w0 r s s' r (World.setO w l' o2')/\s'.lim=s.lim/\s'.cx=s.cx:=by
 obtain⟨h1,h2,h3,h4⟩:=Gd h
 exact⟨.of_rel h2 (by rw[h1];exact hr.storeO hc ht hb ho ht2),h3,h4⟩
theorem J8 {β:Type}: ∀(l:List UInt8) (K:List Value->β),fBs l K=K (CG l)
 |[],K=>rfl
 |b::l,K=>by
  have h0:fBs (b::l) K=fN b.toNat λn=>fBs l λvs=>K (.int .u8 (.ofNat n)::vs):=rfl
  rw[h0,Ar,J8 l]
  rfl
section
variable {E:Env}{w0 w:World}{r:Inj}{t:Nat}
theorem Apq_ (l:List UInt8): ∀v∈CG l,plain v=true:=λv hv=>by
 obtain⟨b,_,rfl⟩:=List.mem_map.1 hv
 rfl
theorem Ajr_ {b:ByteArray}{v:Value}{s s':St}{e:TypeId}(h:FJ b.data.toList s= .some v s')(hr:Rel w0 r s.mem w)(hf:AK r s.next s'.next):
  ∃v' r',v'= .slice (some ⟨w.heap.size,0,none⟩) b.size (grownCap w b.size 0 e)/\Goes w0 r s s' r' (Lib.bytesWorld w e b)/\VR r' v v'/\s'.lim=s.lim/\s'.cx=s.cx:=by
 unfold FJ at h
 rw[J8,Ar]at h
 unfold rowN at h
 obtain⟨hlt,h⟩:=AV h
 obtain⟨bl,s1,e1,h⟩:=bind_some h
 obtain⟨u,s2,e2,h⟩:=bind_some h
 have hlen:(CG b.data.toList).length=b.size:=by
  show(List.map _ _).length=_
  rw[List.length_map]
  exact Array.length_toList
 have hge:b.size<=grownCap w b.size 0 e:=grownCap_ge _ _ _ _
 have hr':Rel w0 r s.mem (Lib.bytesWorld w e b):=hr.beyond ⟨rfl,rfl,rfl,by rw[Lib.bytesWorld_size];exact Nat.le_succ _,λk hk=>Lib.bytesWorld_at_old w e b k hk⟩
 have hcs:(Lib.bytesCells w e b).size=grownCap w b.size 0 e:=by
  show(Array.map _ _++Array.replicate _ _).size=_
  rw[Array.size_append,Array.size_map,Array.size_replicate]
  show b.size+_=_
  omega
 have cellat: ∀j,(Lib.bytesWorld w e b).cell? ⟨w.heap.size,0+j,none⟩=(Lib.bytesCells w e b)[j]?:=λj=>by
  rw[Nat.zero_add]
  simp[World.cell?,Lib.bytesWorld_at_new]
 obtain⟨r',k1,k2,k3,k4⟩:=ON (need:=(CG b.data.toList).length) (size:=1) (cap':=grownCap w b.size 0 e) (bb:=w.heap.size) (o:=0) (vs':=CG b.data.toList) hr' e1 e2 rfl h hf (Ej (Apq_ _)) (by rw[Nat.mul_one]) al al (Bg hlt)
  (by rw[hlen];exact hge) hr.below.size (by rw[Lib.bytesWorld_size];exact Nat.lt_succ_self _)
  (λi x hx=>by
   have hi:i<(CG b.data.toList).length:=(List.getElem?_eq_some_iff.1 hx).1
   rw[cellat i]
   have h1:(Lib.bytesCells w e b)[i]?=(b.data.map λb=>Value.int .u8 b.toNat)[i]?:=Array.getElem?_append_left (by rw[Array.size_map];rw[hlen]at hi;exact hi)
   rw[h1,<-hx]
   show _=(List.map _ _)[i]?
   rw[List.getElem?_map,Array.getElem?_map]
   simp)
  (λj hj=>by
   rw[Nat.mul_one]at hj
   have hj':j<(Lib.bytesCells w e b).size:=by rw[hcs];exact hj
   refine⟨(Lib.bytesCells w e b)[j],by rw[cellat j];exact Array.getElem?_eq_getElem hj', ?_⟩
   rw[Nat.zero_add]
   simp[World.frozen?,Lib.bytesWorld_at_new]
   omega)
  (λloc b v d e1 e2=>absurd (hr.dom _ _ _ e2).2 (Nat.lt_irrefl _))
  (λt2 sz k2 e1 e2 hk=>by
   obtain⟨k,g1,_,_,g2,_⟩:=hr.tok _ _ e1
   rw[g1]at e2
   cases e2
   rw[hk]at g2
   exact absurd g2 (Nat.lt_irrefl _))
  (λh=>absurd h al)
 rw[hlen]at k2
 exact⟨_,r',rfl,k1,k2,k3,k4⟩
theorem AdG_ {d n c:Nat}{a:Addr}{x' v:Value}{s s':St}(he:EnvTy E)(h:Ed E t d a n c s= .some v s')(hr:Rel w0 r s.mem w)(hx:VR r (.slice (some a) n c) x'):Yields E w0 r s s' v w (convert t d x'):=by
 unfold Ed at h
 obtain⟨is,s1,h1,h2⟩:=bind_some h
 obtain⟨his,rfl⟩:=AE h1 he
 obtain⟨id,s1,h3,h4⟩:=bind_some h2
 obtain⟨hid,rfl⟩:=AE h3 he
 generalize hu:is.u=u at h4
 generalize hu2:id.u=u2 at h4
 split at h4
 ·cases h4
 ·exact Sl he h4 hr hx
theorem Ya_ {d:Nat}{x x' v:Value}{s s':St}(he:EnvTy E)(h:Ce E t d x s= .some v s')(hr:Rel w0 r s.mem w)(hf:AK r s.next s'.next)(hx:VR r x x'):Yields E w0 r s s' v w (convert t d x'):=by
 unfold Ce at h
 split at h
 ·rename_i b
  unfold Gu at h
  obtain⟨is,s1,h1,h2⟩:=bind_some h
  obtain⟨his,rfl⟩:=AE h1 he
  obtain⟨id,s1,h3,h4⟩:=bind_some h2
  obtain⟨hid,rfl⟩:=AE h3 he
  generalize hu2:id.u=u2 at h4
  split at h4
  ·rename_i e
   obtain⟨ie,s1,h5,h6⟩:=bind_some h4
   obtain⟨hie,rfl⟩:=AE h5 he
   generalize hu3:ie.u=u3 at h6
   split at h6
   ·have e1:=his.und
    have e2:=hid.und
    have e3:=hie.und
    rw[hu2]at e2;rw[hu3]at e3
    obtain⟨v',r',rfl,g1,g2,g3,g4⟩:=Ajr_ (e:=e) h6 hr hf
    cases hx
    exact⟨_,_,r',Lib.run_convert_string_bytes w t d e b e1 e2 e3,g1,g2,g3,g4⟩
   ·cases h6
  ·exact Sl he h4 hr hx
 ·exact AdG_ he h hr hx
 ·exact Sl he h hr hx
theorem SX_ {x x' v:Value}{s s':St}{ts:Array TypeId}{ty:TypeId}(hts:ts[0]?=some t)(he:EnvTy E)(h:EV E t x s= .some v s')(hr:Rel w0 r s.mem w)(hx:VR r x x'):
  Yields E w0 r s s' v w (Builtin.clear_ ts ty #[x']):=by
 obtain⟨i,s1,h1,h2⟩:=bind_some h
 obtain⟨hi,rfl⟩:=AE h1 he
 have hund:=hi.run_und (w:=w)
 generalize i.u=u at h2 hund
 split at h2
 ·rename_i e a n c
  obtain⟨ie,s1,h3,h4⟩:=bind_some h2
  obtain⟨hie,rfl⟩:=AE h3 he
  obtain⟨hck,h5⟩:=AV h4
  rw[Bool.and_eq_true]at hck
  obtain⟨u1,s2,h6,h7⟩:=bind_some h5
  obtain⟨rfl,rfl⟩:=Af h7
  obtain⟨z,hzz,q5⟩:=hie.run_zero (w:=w)
  have hzs:z.cells.size=ie.size:=by rw[<-Array.length_toList,q5,hie.len]
  have hzr:(Builtin.zeroCells z.cells n).toList=rep n ie.zero:=by
   rw[<-q5]
   exact LG z.cells n (by rw[hzs];exact Bg hck.1)
  rcases hx.sl_inv with⟨a2,c2,rfl,ha2,hc,_⟩|⟨rfl,_,_,a2,c2,rfl⟩
  ·obtain⟨w',k1,k2,k3,k4,k5⟩:=Iy (P:=E.P) (rep n ie.zero) (rep n ie.zero) 0 h6 hr (by simpa [Addr.add]using ha2) (Ej (Kn hie.pl n))
   by_cases h0:n=0
   ·subst h0
    obtain⟨_,rfl⟩:=Af (show M.pure () s= .some u1 s2 from h6)
    exact .pure (v':=undef) (by simp[Builtin.clear_,hts,hund,undef]) hr .undef
   ·refine⟨undef,w',r, ?_, .of_rel k3 k2, .undef,k4,k5⟩
    obtain⟨m,rfl⟩:=Nat.exists_eq_succ_of_ne_zero h0
    rw[<-hzr]at k1
    simp[Builtin.clear_,hts,hund,hzz,undef]
    simp[k1]
  ·obtain⟨_,rfl⟩:=Af (show M.pure () s= .some u1 s2 from h6)
   exact .pure (v':=undef) (by simp[Builtin.clear_,hts,hund,undef]) hr .undef
 ·obtain⟨rfl,rfl⟩:=Af h2
  cases hx
  exact .pure (v':=undef) (by simp[Builtin.clear_,hts,hund,undef]) hr .undef
 ·cases h2
end
theorem Dj {α β:Type}{P:Program}(x:Sem α)(f:α->Sem β):semP P (x >>= f)=(semP P x).bind λa=>semP P (f a):=by
 show semP P (Sem.bind x f)=_
 induction x with
 |pure a=>rfl
 |program k ih=>exact ih P
 |_=>rfl
theorem Oz {α β:Type}{x:Option α}{f:α->Option β}{b:β}(h:x.bind f=some b): ∃a,x=some a/\f a=some b:=by
 cases x with
 |none=>cases h
 |some a=>exact⟨a,rfl,h⟩
def KeyR (es es':List MapEntry):Prop:=es.length=es'.length/\ ∀(i:Nat) (e e':MapEntry),es[i]?=some e->es'[i]?=some e'->e'.key=e.key
theorem KeyR.inv {e:MapEntry}{es es':List MapEntry}(h:KeyR (e::es) es'): ∃e' l,es'=e'::l/\e'.key=e.key/\KeyR es l:=by
 cases es' with
 |nil=>have:=h.1;simp at this
 |cons e' l=>exact⟨e',l,rfl,h.2 0 e e' rfl rfl,by simpa using h.1,λi a b x y=>h.2 (i+1) a b (by simpa using x) (by simpa using y)⟩
theorem KeyR.inv_nil {es':List MapEntry}(h:KeyR [] es'):es'=[]:=List.eq_nil_of_length_eq_zero h.1.symm
def Gx (es es':List MapEntry)(i:Nat)(a b:Option (Nat×Value)):Prop:=(a=none/\b=none)\/ ∃j e e',a=some (i+j,e.val)/\b=some (i+j,e'.val)/\es[j]?=some e/\es'[j]?=some e'
theorem Gx.skip {e e':MapEntry}{es es':List MapEntry}{i:Nat}{a b:Option (Nat×Value)}(h:Gx es es' (i+1) a b):Gx (e::es) (e'::es') i a b:=by
 rcases h with h|⟨j,x,x',h1,h2,h3,h4⟩
 ·exact .inl h
 ·exact .inr ⟨j+1,x,x',by rw[h1];congr 2;omega,by rw[h2];congr 2;omega,by simpa using h3,by simpa using h4⟩
theorem RE_ (kind:TypeDesc)(k:Value): ∀(es es':List MapEntry) (i:Nat),KeyR es es'->(Instr.findNow kind k es i=none/\Instr.findNow kind k es' i=none)\/ ∃a b,Instr.findNow kind k es i=some a/\Instr.findNow kind k es' i=some b/\Gx es es' i a b
 |[],es',i,h=>by rw[h.inv_nil];exact .inr ⟨none,none,rfl,rfl, .inl ⟨rfl,rfl⟩⟩
 |e::es,es',i,h=>by
  obtain⟨e',l,rfl,hk,hr⟩:=h.inv
  unfold Instr.findNow
  rw[hk]
  cases Instr.sameNow kind k e.key with
  |none=>exact .inl ⟨rfl,rfl⟩
  |some t=>
   cases t with
   |true=>exact .inr ⟨_,_,rfl,rfl, .inr ⟨0,e,e',rfl,rfl,rfl,rfl⟩⟩
   |false=>
    rcases RE_ kind k es l (i+1) hr with h1|⟨a,b,h1,h2,h3⟩
    ·exact .inl h1
    ·exact .inr ⟨a,b,h1,h2,h3.skip⟩
theorem Zs {P:Program}(kt:TypeId)(k:Value): ∀(es es':List MapEntry) (i:Nat) (a:Option (Nat×Value)),KeyR es es'->semP P (Instr.findAsking kt k es i)=some a-> ∃b,semP P (Instr.findAsking kt k es' i)=some b/\Gx es es' i a b
 |[],es',i,a,h,e=>by
  rw[h.inv_nil]
  have:a=none:=by have e':some none=some a:=e;cases e';rfl
  subst this
  exact⟨none,rfl, .inl ⟨rfl,rfl⟩⟩
 |x::es,es',i,a,h,e=>by
  obtain⟨x',l,rfl,hk,hr⟩:=h.inv
  unfold Instr.findAsking at e ⊢
  rw[Dj]at e ⊢
  obtain⟨t,e1,e2⟩:=Oz e
  rw[hk,e1]
  cases t with
  |true=>
   have:a=some (i,x.val):=by
    have e':some (some (i,x.val))=some a:=e2
    exact(Option.some.inj e').symm
   subst this
   exact⟨some (i,x'.val),rfl, .inr ⟨0,x,x',rfl,rfl,rfl,rfl⟩⟩
  |false=>
   obtain⟨b,h1,h2⟩:=Zs kt k es l (i+1) a hr e2
   exact⟨b,h1,h2.skip⟩
theorem ZP_ {P:Program}(kt:TypeId)(k:Value)(es es':List MapEntry)(a:Option (Nat×Value))(h:KeyR es es')(e:semP P (Instr.findKey kt k es)=some a): ∃b,semP P (Instr.findKey kt k es')=some b/\Gx es es' 0 a b:=by
 unfold Instr.findKey at e ⊢
 rw[Dj]at e ⊢
 obtain⟨kind,e1,e2⟩:=Oz e
 rw[e1]
 simp only[Option.bind_some]at e2 ⊢
 rcases RE_ kind k es es' 0 h with⟨h1,h2⟩|⟨x,y,h1,h2,h3⟩
 ·rw[h1]at e2
  rw[h2]
  exact Zs kt k es es' 0 a h e2
 ·rw[h1]at e2
  rw[h2]
  have:a=x:=by
   have e':some x=some a:=e2
   exact(Option.some.inj e').symm
  subst this
  exact⟨y,rfl,h3⟩
theorem IA_ (es:List MapEntry)(i:Nat):(C9 es)[i]?=(es[i]?).map λe=>{e with val:=undef}:=by unfold C9;rw[List.getElem?_map]
section
variable {E:Env}{w0 w:World}{r:Inj}{t:Nat}
theorem HL {emp:Bool}{kt:Nat}{k:Value}{es es':List MapEntry}{a:Option Nat}{s s':St}(h:Cx E emp kt k es s= .some a s')(hes:EsR r es es'):
  s=s'/\plain k=true/\(∀w,(Instr.checkKey emp 10000 kt k).run E.P w= .ok () w)/\
   ((a=none/\ ∀w,(Instr.findKey kt k es').run E.P w= .ok none w)\/ ∃j e e',a=some j/\es[j]?=some e/\es'[j]?=some e'/\ ∀w,(Instr.findKey kt k es').run E.P w= .ok (some (j,e'.val)) w):=by
 obtain⟨hp,h⟩:=AV h
 obtain⟨a0,h1,h2⟩:=Bw h
 obtain⟨rfl,rfl⟩:=Af h2
 rw[Dj]at h1
 obtain⟨u,h3,h4⟩:=Oz h1
 have hk:KeyR (C9 es) es':=by
  refine⟨by unfold C9;simp[hes.1],λi e e' x y=> ?_⟩
  rw[IA_]at x
  cases e0:es[i]? with
  |none=>rw[e0]at x;cases x
  |some e1=>
   rw[e0]at x
   cases x
   exact(hes.2 i e1 e' e0 y).2.1
 obtain⟨b,h5,h6⟩:=ZP_ kt k (C9 es) es' a0 hk h4
 refine⟨rfl,hp,λw=>If h3, ?_⟩
 rcases h6 with⟨rfl,rfl⟩|⟨j,e,e',rfl,rfl,q1,q2⟩
 ·exact .inl ⟨rfl,λw=>If h5⟩
 ·rw[IA_]at q1
  cases e0:es[j]? with
  |none=>rw[e0]at q1;cases q1
  |some e1=>exact .inr ⟨j,e1,e',am,e0,q2,λw=>by have:=If (w:=w) h5;rw[Nat.zero_add]at this;exact this⟩
theorem GZ {l:Nat}{s s':St}{p:List MapEntry×Nat}(h:mapAt l s= .some p s'):T.get s.mem l=some (.O (.map p.1 p.2))/\Same s s':=by
 obtain⟨c,s1,h1,h2⟩:=bind_some h
 obtain⟨h3,h4⟩:=DW h1
 cases c with
 |C a b=>cases h2
 |O o=>
  cases o with
  |map es n=>
   obtain⟨rfl,rfl⟩:=Af h2
   exact⟨h3,h4⟩
  |_=>cases h2
theorem M6 {s s':St}{ke:Nat×Nat}(he:EnvTy E)(h:mapT E t s= .some ke s'):s=s'/\ ∀w,(underlying t).run E.P w= .ok (.map ke.1 ke.2) w:=by
 obtain⟨i,s1,h1,h2⟩:=bind_some h
 obtain⟨h3,rfl⟩:=AE h1 he
 cases hu:i.u with
 |map kt et=>
  rw[hu]at h2
  obtain⟨rfl,rfl⟩:=Af h2
  exact⟨rfl,λw=>by rw[h3.run_und,hu]⟩
 |_=>rw[hu]at h2;cases h2
theorem Rel.mapObj {mem:T Cell}(h:Rel w0 r mem w){l l' d n:Nat}{es:List MapEntry}(hc:T.get mem l=some (.O (.map es n)))(hb:r.blk l=some (l',d)): ∃es',w.heap[l']?=some (.map es' n)/\EsR r es es'.toList:=by
 obtain⟨b',d',o',g1,g2,g3⟩:=h.obj _ _ hc rfl
 rw[hb]at g1
 cases g1
 unfold OR at g3
 cases o' with
 |map es' c'=>exact⟨es',by rw[g2,g3.1],g3.2⟩
 |_=>exact g3.elim
theorem VR.map_inv {m:Option Nat}{v':Value}(h:VR r (.map m) v'):(m=none/\v'= .map none)\/ ∃l l' d,m=some l/\v'= .map (some l')/\r.blk l=some (l',d):=by
 cases h with
 |mapNil=>exact .inl ⟨rfl,rfl⟩
 |map e=>exact .inr ⟨_,_,_,rfl,rfl,e⟩
theorem GQ {P:Program}{l:Nat}{es:Array MapEntry}{n:Nat}(h:w.heap[l]?=some (.map es n)):(getObj l).run P w= .ok (.map es n) w:=by simp[getObj,Sem.run,h]
theorem Jo {P:Program}{l:Nat}{es:Array MapEntry}{n:Nat}(h:w.heap[l]?=some (.map es n))(o:Obj):(setObj l o).run P w= .ok () (World.setO w l o):=by simp[setObj,Sem.run,h,World.setO]
theorem ZV {et:Nat}{z:Value}{s s':St}(he:EnvTy E)(h:zeroOf E et s= .some z s'):s=s'/\(∀w,(zeroValue et).run E.P w= .ok z w)/\VR r z z:=by
 obtain⟨i,s1,h1,h2⟩:=bind_some h
 obtain⟨h3,rfl⟩:=AE h1 he
 obtain⟨rfl,_,h5⟩:=Jz_ (w:=default) (r:=r) h3 h2
 exact⟨rfl,λw=>(Jz_ (w:=w) (r:=r) h3 h2).2.1,h5⟩
theorem Pq {c ok:Bool}{v v' u:Value}{s s':St}(h:DM c v ok s= .some u s')(hv:VR r v v'):s=s'/\VR r u (if c then .tuple #[v', .bool ok]else v'):=by
 cases c with
 |true=>obtain⟨rfl,rfl⟩:=Af (show M.pure (.tuple #[v, .bool ok]) s= .some u s' from h);exact⟨rfl,hv.pair (.bool _)⟩
 |false=>obtain⟨rfl,rfl⟩:=Af (show M.pure v s= .some u s' from h);exact⟨rfl,hv⟩
theorem K0 {es:List MapEntry}{es':Array MapEntry}(h:EsR r es es'.toList):es'.isEmpty=es.isEmpty:=by
 have:=h.1
 rw[Array.length_toList]at this
 cases es with
 |nil=>simp at this;simp[Array.isEmpty,<-this]
 |cons a l=>simp at this;simp[Array.isEmpty,<-this]
theorem Adx_ {c:Bool}{x x' k k' v:Value}{s s':St}(he:EnvTy E)(h:B6 E t c x k s= .some v s')(hr:Rel w0 r s.mem w)(hx:VR r x x')(hk:VR r k k'):Yields E w0 r s s' v w (Instr.lookup t x' k' c):=by
 obtain⟨ke,s1,h1,h⟩:=bind_some h
 obtain⟨rfl,hu⟩:=M6 he h1
 cases x with
 |map m=>
  rcases hx.map_inv with⟨rfl,rfl⟩|⟨l,l',d,rfl,rfl,hb⟩
  ·obtain⟨a,s2,h2,h⟩:=bind_some (show M.bind (Cx E true ke.1 k []) (λr=>match r with|none=>M.bind (zeroOf E ke.2) λz=>DM c z false|some _=>aC) s= .some v s' from h)
   obtain⟨rfl,hp,q1,q2⟩:=HL (r:=r) (es':=[]) h2 ⟨rfl,λi e e' x=>by simp at x⟩
   have hk':=hk.eq_of_plain hp
   subst hk'
   rcases q2 with⟨rfl,q2⟩|⟨j,e,e',_,q3,_⟩
   ·obtain⟨z,s3,h3,h⟩:=bind_some h
    obtain⟨rfl,z1,z2⟩:=ZV (r:=r) he h3
    obtain⟨rfl,z3⟩:=Pq h z2
    refine .pure ?_ hr z3
    simp only[Instr.lookup,Sem.run_bind,hu,Result.andThen_ok,Sem.run_pure,Array.isEmpty_empty,q1,q2,z1]
    try (cases c<;>rfl)
   ·simp at q3
  ·obtain⟨p,s2,h2,h⟩:=bind_some (show M.bind (mapAt l) (λp=>DK E ke.1 ke.2 k c p.1) s= .some v s' from h)
   obtain⟨g1,g2⟩:=GZ h2
   obtain⟨es',g3,g4⟩:=hr.mapObj g1 hb
   obtain⟨a,s3,h3,h⟩:=bind_some h
   obtain⟨rfl,hp,q1,q2⟩:=HL h3 g4
   have hk':=hk.eq_of_plain hp
   subst hk'
   rcases q2 with⟨rfl,q2⟩|⟨j,e,e',rfl,q3,q4,q2⟩
   ·obtain⟨z,s4,h4,h⟩:=bind_some h
    obtain⟨rfl,z1,z2⟩:=ZV (r:=r) he h4
    obtain⟨rfl,z3⟩:=Pq h z2
    refine .same ?_ g2 hr z3
    simp only[Instr.lookup,Sem.run_bind,hu,Result.andThen_ok,GQ g3,Sem.run_pure,K0 g4,q1,q2,z1]
    try (cases c<;>rfl)
   ·obtain⟨e1,h4,h⟩:=Bw h
    rw[q3]at h4
    cases h4
    obtain⟨rfl,z3⟩:=Pq h (g4.2 j e e' q3 q4).2.2.2
    refine .same ?_ g2 hr z3
    simp only[Instr.lookup,Sem.run_bind,hu,Result.andThen_ok,GQ g3,Sem.run_pure,K0 g4,q1,q2]
    try (cases c<;>rfl)
 |_=>cases h
theorem ApP_ {s s':St}{v:Value}(h:DQ s= .some v s')(hr:Rel w0 r s.mem w)(hf:AK r s.next s'.next):Yields E w0 r s s' v w (Instr.makeMap t none):=by
 obtain⟨b,s1,h1,h2⟩:=bind_some h
 obtain⟨rfl,rfl⟩:=Af h2
 obtain⟨q1,q2,q3,q4,q5⟩:=DT_ (o':= .map #[] 0) h1 hr hf rfl ⟨rfl,rfl,λi e e' x=>by simp at x⟩
 exact⟨_,_,_,by simp[Instr.makeMap,newObj,Sem.run],q2, .map q3,q4,q5⟩
theorem EsR.set {es es':List MapEntry}(h:EsR r es es'){j:Nat}{a a':MapEntry}(hp:plain a.key=true)(hk:a'.key=a.key)(hb:a'.born=a.born)(hv:VR r a.val a'.val):EsR r (es.set j a) (es'.set j a'):=by
 refine⟨by simp[h.1],λi e e' x y=> ?_⟩
 rw[List.getElem?_set]at x y
 by_cases hij:j=i
 ·rw[if_pos hij]at x y
  by_cases hl:j<es.length
  ·rw[if_pos hl]at x
   rw[if_pos (by rw[<-h.1];exact hl)]at y
   cases x
   cases y
   exact⟨hp,hk,hb,hv⟩
  ·rw[if_neg hl]at x
   cases x
 ·rw[if_neg hij]at x y
  exact h.2 i e e' x y
theorem EsR.snoc {es es':List MapEntry}(h:EsR r es es'){a a':MapEntry}(hp:plain a.key=true)(hk:a'.key=a.key)(hb:a'.born=a.born)(hv:VR r a.val a'.val):EsR r (es++[a]) (es'++[a']):=by
 refine⟨by simp[h.1],λi e e' x y=> ?_⟩
 by_cases hi:i<es.length
 ·rw[List.getElem?_append_left hi]at x
  rw[List.getElem?_append_left (by rw[<-h.1];exact hi)]at y
  exact h.2 i e e' x y
 ·rw[List.getElem?_append_right J]at x
  rw[List.getElem?_append_right (by rw[<-h.1];omega),<-h.1]at y
  cases hz:i-es.length with
  |zero=>
   rw[hz]at x y
   simp at x y
   subst x
   subst y
   exact⟨hp,hk,hb,hv⟩
  |succ n=>rw[hz]at x;simp at x
theorem EsR.erase {es es':List MapEntry}(h:EsR r es es')(j:Nat):EsR r (es.eraseIdx j) (es'.eraseIdx j):=by
 refine⟨by rw[List.length_eraseIdx,List.length_eraseIdx,h.1],λi e e' x y=> ?_⟩
 rw[List.getElem?_eraseIdx]at x y
 split at x
 ·rename_i hi;rw[if_pos hi]at y;exact h.2 i e e' x y
 ·rename_i hi;rw[if_neg hi]at y;exact h.2 (i+1) e e' x y
theorem Wf_ (es:Array MapEntry)(j:Nat)(f:MapEntry->MapEntry){e:MapEntry}(he:es[j]?=some e):(es.modify j f).toList=es.toList.set j (f e):=by
 apply List.ext_getElem?
 intro i
 rw[Array.getElem?_toList,Array.getElem?_modify,List.getElem?_set]
 by_cases h:j=i
 ·subst h
  have hl:j<es.toList.length:=by rw[Array.length_toList];exact(Array.getElem?_eq_some_iff.1 he).1
  rw[if_pos rfl,if_pos rfl,if_pos hl,he]
  rfl
 ·rw[if_neg h,if_neg h,Array.getElem?_toList]
theorem stays {old new:Value}(h:Instr.sameBits 10000 old new=true)(w:World):(Instr.keyThatStays old new).run E.P w= .ok new w:=by
 unfold Instr.keyThatStays
 rw[if_pos h]
 rfl
theorem Jg {l l' d n:Nat}{es es2:List MapEntry}{es2':Array MapEntry}{m:Nat}{s s1 s':St}{u:Unit}(hs:Same s s1)(h:wrC l (.O (.map es2 m)) s1= .some u s')(hr:Rel w0 r s.mem w)(hc:T.get s.mem l=some (.O (.map es n)))(hb:r.blk l=some (l',d))(hes:EsR r es2 es2'.toList):
  Goes w0 r s s' r (World.setO w l' (.map es2' m))/\s'.lim=s.lim/\s'.cx=s.cx:=by
 obtain⟨h1,h2,h3⟩:=Lk (o2':= .map es2' m) h (by rw[hs.1];exact hr) (by rw[hs.1];exact hc) rfl hb ⟨rfl,hes⟩ rfl
 exact⟨(Goes.same hs hr).trans h1,h2.trans hs.2.2.1,h3.trans hs.2.2.2⟩
theorem TF_ {kt l l' d : Nat} {k x x' : Value} {p : List MapEntry × Nat} {es' : Array MapEntry} {s s1 s' : St} {u : Unit} (hs : Same s s1) (h : putE E kt k x l p s1 = .some u s') (hr : Rel w0 r s.mem w) (hc : T.get s.mem l = some (.O (.map p.1 p.2))) (hb : r.blk l = some (l', d)) (hw : w.heap[l']? = some (.map es' p.2)) (hes : EsR r p.1 es'.toList) (hx : VR r x x') :
   plain k = true ∧ ∃ w', (do Instr.checkKey false 10000 kt k
                              match <- Instr.findKey kt k es'.toList with
                              | some (i, _) => do
                                let key <- Instr.keyThatStays (((es'[i]?).map (·.key)).getD k) k
                                setObj l' (.map (es'.modify i λe => { e with key, val := x' }) p.2)
                              | none => setObj l' (.map (es'.push { key := k, val := x', born := p.2 }) (p.2 + 1)) : Sem Unit).run E.P w = .ok () w' /\ Goes w0 r s s' r w' /\ s'.lim = s.lim /\ s'.cx = s.cx := by
 obtain ⟨a, s2, h1, h⟩ := bind_some h
 obtain ⟨rfl, hp, q1, q2⟩ := HL h1 hes
 refine ⟨hp, ?_⟩
 rcases q2 with ⟨rfl, q2⟩ | ⟨j, e, e', rfl, q3, q4, q2⟩
 · obtain ⟨g1, g2, g3⟩ := Jg (es2' := es'.push { key := k, val := x', born := p.2 }) hs h hr hc hb (by rw [Array.toList_push]; exact hes.snoc hp rfl rfl hx)
   refine ⟨_, ?_, g1, g2, g3⟩
   simp only [Sem.run_bind, q1, Result.andThen_ok, q2, Jo hw]
 · obtain ⟨e1, h2, h⟩ := Bw h
   rw [q3] at h2
   cases h2
   obtain ⟨h3, h⟩ := AV h
   have hkey := (hes.2 j e e' q3 q4).2.1
   have q4' : es'[j]? = some e' := by rw [<- Array.getElem?_toList]; exact q4
   obtain ⟨g1, g2, g3⟩ := Jg (es2' := es'.modify j λe => { e with key := k, val := x' }) hs h hr hc hb (by
     rw [Wf_ _ _ _ q4']
     exact hes.set hp rfl (hes.2 j e e' q3 q4).2.2.1 hx)
   refine ⟨_, ?_, g1, g2, g3⟩
   have hst := stays (E := E) (old := e'.key) (new := k) (by rw [hkey]; exact h3) w
   simp only [Sem.run_bind, q1, Result.andThen_ok, q2, q4', Option.map_some, Option.getD_some, hst, Jo hw]
theorem AkB_ {m m' k k' x x' v:Value}{s s':St}(he:EnvTy E)(h:Eb E t m k x s= .some v s')(hr:Rel w0 r s.mem w)(hm:VR r m m')(hk:VR r k k')(hx:VR r x x'):
  v=undef/\ ∃w',(Instr.mapUpdate t m' k' x').run E.P w= .ok () w'/\Goes w0 r s s' r w'/\s'.lim=s.lim/\s'.cx=s.cx:=by
 obtain⟨ke,s1,h1,h⟩:=bind_some h
 obtain⟨rfl,hu⟩:=M6 he h1
 cases m with
 |map mo=>
  rcases hm.map_inv with⟨rfl,rfl⟩|⟨l,l',d,rfl,rfl,hb⟩
  ·cases h
  ·obtain⟨p,s2,h2,h⟩:=bind_some (show M.bind (mapAt l) (λp=>M.bind (putE E ke.1 k x l p) λ_=>M.pure undef) s= .some v s' from h)
   obtain⟨g1,g2⟩:=GZ h2
   obtain⟨es',g3,g4⟩:=hr.mapObj g1 hb
   obtain⟨u,s3,h3,h⟩:=bind_some h
   obtain⟨rfl,rfl⟩:=Af h
   obtain⟨hp,w',q1,q2,q3,q4⟩:=TF_ g2 h3 hr g1 hb g3 g4 hx
   have hk':=hk.eq_of_plain hp
   subst hk'
   refine⟨rfl,w', ?_,q2,q3,q4⟩
   rw[<-q1]
   simp only[Instr.mapUpdate,Sem.run_bind,hu,Result.andThen_ok,GQ g3]
   rfl
 |_=>cases h
theorem AbF_ {x x' v:Value}{s s':St}{ts:Array TypeId}{ty:TypeId}{kt et:TypeId}(hts:ts[0]?=some t)(hu: ∀w,(underlying t).run E.P w= .ok (.map kt et) w)(h:EF x s= .some v s')(hr:Rel w0 r s.mem w)(hx:VR r x x'):Yields E w0 r s s' v w (Builtin.len_ ts ty #[x']):=by
 cases x with
 |map m=>
  rcases hx.map_inv with⟨rfl,rfl⟩|⟨l,l',d,rfl,rfl,hb⟩
  ·obtain⟨rfl,rfl⟩:=FS (show pN 0 s= .some v s' from h)
   refine .pure ?_ hr (.int _ _)
   simp[Builtin.len_,hts,hu,goInt]
  ·obtain⟨p,s2,h2,h⟩:=bind_some (show M.bind (mapAt l) (λp=>pN p.1.length) s= .some v s' from h)
   obtain⟨g1,g2⟩:=GZ h2
   obtain⟨es',g3,g4⟩:=hr.mapObj g1 hb
   obtain⟨rfl,rfl⟩:=FS h
   refine .same ?_ g2 hr (.int _ _)
   have:=g4.1
   rw[Array.length_toList]at this
   simp[Builtin.len_,hts,hu,goInt,GQ g3,this]
 |_=>cases h
theorem AlV_ {m m' k k' v:Value}{s s':St}{ts:Array TypeId}{ty:TypeId}(hts:ts[0]?=some t)(he:EnvTy E)(h:kDel E t m k s= .some v s')(hr:Rel w0 r s.mem w)(hm:VR r m m')(hk:VR r k k'):Yields E w0 r s s' v w (Builtin.delete_ ts ty #[m',k']):=by
 obtain⟨ke,s1,h1,h⟩:=bind_some h
 obtain⟨rfl,hu⟩:=M6 he h1
 cases m with
 |map mo=>
  rcases hm.map_inv with⟨rfl,rfl⟩|⟨l,l',d,rfl,rfl,hb⟩
  ·obtain⟨a,s2,h2,h⟩:=bind_some (show M.bind (Cx E true ke.1 k []) (λ_=>M.pure undef) s= .some v s' from h)
   obtain⟨rfl,hp,q1,q2⟩:=HL (r:=r) (es':=[]) h2 ⟨rfl,λi e e' x=>by simp at x⟩
   obtain⟨rfl,rfl⟩:=Af h
   have hk':=hk.eq_of_plain hp
   subst hk'
   refine .pure ?_ hr .undef
   simp[Builtin.delete_,hts,hu,q1]
   rfl
  ·obtain⟨p,s2,h2,h⟩:=bind_some (show M.bind (mapAt l) (λp=>M.bind (Cx E p.1.isEmpty ke.1 k p.1) λr=>(match r with|some j=>M.bind (wrC l (.O (.map (p.1.eraseIdx j) p.2))) λ_=>M.pure undef|none=>M.bind (wrC l (.O (.map p.1 p.2))) λ_=>M.pure undef)) s= .some v s' from h)
   obtain⟨g1,g2⟩:=GZ h2
   obtain⟨es',g3,g4⟩:=hr.mapObj g1 hb
   obtain⟨a,s3,h3,h⟩:=bind_some h
   obtain⟨rfl,hp,q1,q2⟩:=HL h3 g4
   have hk':=hk.eq_of_plain hp
   subst hk'
   rcases q2 with⟨rfl,q2⟩|⟨j,e,e',rfl,q3,q4,q2⟩
   ·obtain⟨u,s5,h6,h⟩:=bind_some h
    obtain⟨rfl,rfl⟩:=Af h
    obtain⟨x1,x2,x3⟩:=Jg (es2':=es') g2 h6 hr g1 hb g4
    refine⟨_,_,r, ?_,x1, .undef,x2,x3⟩
    simp[Builtin.delete_,hts,hu,GQ g3,K0 g4,q1,q2,Jo g3]
    rfl
   ·obtain⟨u,s5,h6,h⟩:=bind_some h
    obtain⟨rfl,rfl⟩:=Af h
    obtain⟨x1,x2,x3⟩:=Jg (es2':=es'.eraseIdxIfInBounds j) g2 h6 hr g1 hb (by rw[Array.toList_eraseIdxIfInBounds];exact g4.erase j)
    refine⟨_,_,r, ?_,x1, .undef,x2,x3⟩
    simp[Builtin.delete_,hts,hu,GQ g3,K0 g4,q1,q2,Jo g3]
    rfl
 |_=>cases h
theorem AhK_ {x x' v:Value}{s s':St}{ts:Array TypeId}{ty:TypeId}(hts:ts[0]?=some t)(he:EnvTy E)(h:aLen E t x s= .some v s')(hr:Rel w0 r s.mem w)(hx:VR r x x'):Yields E w0 r s s' v w (Builtin.len_ ts ty #[x']):=by
 obtain⟨i,s1,h1,h2⟩:=bind_some h
 obtain⟨hi,rfl⟩:=AE h1 he
 have hund:=hi.run_und (w:=w)
 have hall: ∀w,(underlying t).run E.P w= .ok i.u w:=λw=>hi.run_und
 generalize i.u=u at h2 hund hall
 split at h2
 ·obtain⟨rfl,rfl⟩:=FS h2
  cases hx<;>exact .pure (v':= .int .i64 _) (by simp[Builtin.len_,hts,hund,goInt]) hr (.int _ _)
 ·obtain⟨rfl,rfl⟩:=FS h2
  cases hx
  exact .pure (v':= .int .i64 _) (by simp[Builtin.len_,hts,hund,goInt]) hr (.int _ _)
 ·exact AbF_ hts hall h2 hr hx
 ·obtain⟨rfl,rfl⟩:=Af h2
  cases hx with
  |complex e=>
   obtain⟨p,n,c,rfl⟩:=e
   exact .pure (v':= .int .i64 n) (by simp[Builtin.len_,hts,hund,goInt]) hr (.complex ⟨.i64,_,rfl,rfl⟩)
 ·obtain⟨rfl,rfl⟩:=Af h2
  cases hx with
  |complex e=>
   obtain⟨_,p,n,c,rfl⟩:=e
   exact .pure (v':= .int .i64 n) (by simp[Builtin.len_,hts,hund,goInt]) hr (.complex ⟨.i64,_,rfl,rfl⟩)
 ·obtain⟨rfl,rfl⟩:=Af h2
  cases hx with
  |complex e=>
   obtain⟨p,rfl⟩:=e
   exact .pure (v':= .int .i64 p.size) (by simp[Builtin.len_,hts,hund,goInt]) hr (.complex ⟨.i64,_,rfl,rfl⟩)
 ·cases h2
theorem Anq_ {x x' v:Value}{s s':St}(he:EnvTy E)(h:Dz E t x s= .some v s')(hr:Rel w0 r s.mem w)(hf:AK r s.next s'.next)(hx:VR r x x'):Yields E w0 r s s' v w (Instr.range t x'):=by
 obtain⟨i,s1,h1,h2⟩:=bind_some h
 obtain⟨hi,rfl⟩:=AE h1 he
 have hund:=hi.run_und (w:=w)
 generalize i.u=u at h2 hund
 split at h2
 ·rename_i b
  obtain⟨l,s2,h3,h4⟩:=bind_some h2
  obtain⟨rfl,rfl⟩:=Af h4
  cases hx
  obtain⟨q1,q2,q3,q4,q5⟩:=DT_ (o':= .stringIter b 0) h3 hr hf rfl ⟨rfl,rfl⟩
  exact⟨_,_,_,by simp[Instr.range,hund,newObj,Sem.run],q2, .iter q3,q4,q5⟩
 ·cases h2
theorem AkQ_ {x x' v:Value}{ty:TypeId}{s s':St}(h:EC x s= .some v s')(hr:Rel w0 r s.mem w)(hx:VR r x x'):Yields E w0 r s s' v w (Instr.next x' true ty):=by
 unfold EC at h
 split at h
 ·rename_i l
  cases hx with
  | @iter _ l' hb=>
   obtain⟨c,s1,h1,h2⟩:=bind_some h
   obtain⟨h3,h4⟩:=DW h1
   have fin: ∃b pos,c= .O (.sit b pos)/\sitN l b pos s1= .some v s':=by
    cases c with
    |C a b=>cases h2
    |O o=>
     cases o with
     |sit b pos=>
      replace h2:fN pos (λpos=>sitN l b pos) s1= .some v s':=h2
      rw[Ar]at h2
      exact⟨b,pos,rfl,h2⟩
     |_=>cases h2
   obtain⟨b,pos,hc,hs2⟩:=fin
   clear h2
   subst hc
   have h2:=hs2
   clear hs2
   obtain⟨b',d',o',g1,g2,g3⟩:=hr.obj _ _ h3 rfl
   rw[hb]at g1
   cases g1
   cases o' with
   |stringIter b2 p2=>
    obtain⟨rfl,rfl⟩:=g3
    unfold sitN at h2
    rw[DO]at h2
    have hget:(getObj l').run E.P w= .ok (.stringIter b2 p2) w:=by simp[getObj,Sem.run,g2]
    cases hlt:Nat.blt p2 b2.size with
    |true=>
     rw[hlt]at h2
     obtain⟨u,s2,h5,h6⟩:=bind_some h2
     rw[Ar,Ar]at h6
     obtain⟨rfl,rfl⟩:=Af h6
     obtain⟨x1,x2,x3⟩:=Lk (o2':= .stringIter b2 (p2+(Utf8.decode b2 p2).2)) h5 (by rw[h4.1];exact hr) (by rw[h4.1];exact h3) rfl hb ⟨rfl,rfl⟩ rfl
     refine⟨.tuple #[.bool true, .int .i64 (.ofNat p2), .int .i32 (.ofNat (Utf8.decode b2 p2).1)],_,r, ?_,(Goes.same h4 hr).trans x1, ?_,x2.trans h4.2.2.1,x3.trans h4.2.2.2⟩
     ·have hl:p2<b2.size:=Bg hlt
      simp[Instr.next,hget,hl,setObj,Sem.run,g2,goInt,World.setO]
     ·exact VRs.tuple (l:=[_,_,_]) (l':=[_,_,_]) (.cons (.bool _) (.cons (.int _ _) (.cons (.int _ _) .nil)))
    |false=>
     rw[hlt]at h2
     obtain⟨rfl,rfl⟩:=Af h2
     refine .same (v':= .tuple #[.bool false]) ?_ h4 hr (VRs.tuple (l:=[_]) (l':=[_]) (.cons (.bool _) .nil))
     have hl: ¬p2<b2.size:=by
      intro hl
      rw[show Nat.blt p2 b2.size=true from Nat.ble_eq_true_of_le hl]at hlt
      cases hlt
     simp[Instr.next,hget,hl]
   |_=>exact g3.elim
 ·cases h
end
def TmR (r:Inj)(glob:Nat)(tm:T Value)(tmps:Array Value):Prop:= ∀t v,T.get tm t=some v->Nat.testBit glob t=true/\ ∃v',tmps[t]?=some v'/\VR r v v'
structure SlR (r:Inj)(U:Nat->Prop)(ds:List Nat)(rho:Rho)(tm:T Value)(tmps:Array Value):Prop where
 loc: ∀(i d:Nat) (v:Value),U d->ds[i]?=some d->rho[i]?=some v-> ∃v',tmps[d]?=some v'/\VR r v v'
 tm: ∀(t:Nat) (v:Value),U t->T.get tm t=some v-> ∃v',tmps[t]?=some v'/\VR r v v'
theorem TmR.mono {r r':Inj}(h:r.le r'){g:Nat}{tm:T Value}{tmps:Array Value}(k:TmR r g tm tmps):TmR r' g tm tmps:=λt v e=>let ⟨q,v',a,b⟩:=k t v e;⟨q,v',a,b.mono h⟩
theorem SlR.mono {r r':Inj}(h:r.le r'){U:Nat->Prop}{ds:List Nat}{rho:Rho}{tm:T Value}{tmps:Array Value}(k:SlR r U ds rho tm tmps):SlR r' U ds rho tm tmps:=
 ⟨λi d v u a b=>let ⟨v',p,q⟩:=k.loc i d v u a b;⟨v',p,q.mono h⟩,λt v u a=>let ⟨v',p,q⟩:=k.tm t v u a;⟨v',p,q.mono h⟩⟩
theorem CB_ (l:Rho):nth0 l=l[0]?:=by cases l<;>rfl
theorem Sw_: ∀(d:Nat),∃g,nthC d= .mk g/\ ∀l,g l=l[d]?
 |0=>⟨nth0,rfl,CB_⟩
 |d+1=>by
  obtain⟨g,h1,h2⟩:=Sw_ d
  refine⟨λl=>List.rec (motive:=λ_=>Option Value) none (λ_ r _=>g r) l, ?_,λl=> ?_⟩
  ·show Cl.rec (motive:=λ_=>Cl (Rho->Option Value)) (λg=> .mk λl=>List.rec (motive:=λ_=>Option Value) none (λ_ r _=>g r) l) (nthC d)=_
   rw[h1]
  ·cases l with
   |nil=>rfl
   |cons v l=>exact h2 l
theorem PV {t:Nat}: ∀{ds:List Nat} {n:Nat},Gq t ds=some n->ds[n]?=some t
 |[],n,h=>by cases h
 |d::ds,n,h=>by
  have h0:Bool.rec (motive:=λ_=>Option Nat) (Option.rec (motive:=λ_=>Option Nat) none (λn=>some (Nat.succ n)) (Gq t ds)) (some 0) (Nat.beq d t)=some n:=h
  cases e:Nat.beq d t with
  |true=>
   rw[e]at h0
   cases h0
   rw[<-Nat.eq_of_beq_eq_true e];rfl
  |false=>
   rw[e]at h0
   cases e2:Gq t ds with
   |none=>rw[e2]at h0;cases h0
   |some m=>
    rw[e2]at h0
    cases h0
    have:=PV (ds:=ds) e2
    simpa using this
def I3 {α β:Type}(c:Cl (G α))(ds:List Nat)(us:List Operand)(R:Inj->α->β->Prop)(f:Act->β):Prop:=
 ∃g,c= .mk g/\ ∀r U rho tm a v,SlR r U ds rho tm a.tmps->(∀t,Operand.tmp t∈us->U t)->g rho tm=some v->R r v (f a)
theorem Xy_ (ds:List Nat)(t:Nat):I3 (Pg ds t) ds [.tmp t] VR (λa=>a.eval (.tmp t)):=by
 unfold Pg
 cases e:Gq t ds with
 |none=>
  refine⟨_,rfl,λr U rho tm a v hs hu h=> ?_⟩
  obtain⟨v',h1,h2⟩:=hs.tm t v (hu t am) h
  simp only[Act.eval,Array.getD_eq_getD_getElem?,h1]
  exact h2
 |some d=>
  obtain⟨g,h1,h2⟩:=Sw_ d
  simp only[h1]
  refine⟨_,rfl,λr U rho tm a v hs hu h=> ?_⟩
  rw[h2]at h
  obtain⟨v',h3,h4⟩:=hs.loc d t v (hu t am) (PV e) h
  simp only[Act.eval,Array.getD_eq_getD_getElem?,h3]
  exact h4
theorem Be (ds:List Nat)(x:Operand):I3 (BW ds x) ds [x] VR (λa=>a.eval x):=by
 cases x with
 |tmp t=>exact Xy_ ds t
 |const v=>
  unfold BW
  simp only
  cases e:plain v with
  |false=>exact⟨_,rfl,λr U rho tm a v hs hu h=>by cases h⟩
  |true=>exact⟨_,rfl,λr U rho tm a v hs hu h=>by cases h;exact .of_plain e⟩
 |global g=>exact⟨_,rfl,λr U rho tm a v hs hu h=>by cases h⟩
 |func f=>exact⟨_,rfl,λr U rho tm a v hs hu h=>by cases h;exact .func rfl rfl (λi v v' e=>by simp at e) rfl (λi v v' e=>by simp at e)⟩
theorem EG (ds:List Nat): ∀(l:List Operand),I3 (Gr ds l) ds l VRs (λa=>l.map a.eval)
 |[]=>⟨_,rfl,λr U rho tm a v hs hu h=>by cases h;exact .nil⟩
 |x::l=>by
  obtain⟨g,h1,h2⟩:=Be ds x
  obtain⟨g',h3,h4⟩:=EG ds l
  have h0:Gr ds (x::l)=Cl.rec (motive:=λ_=>Cl (G (List Value))) (λg=>Cl.rec (motive:=λ_=>Cl (G (List Value))) (λh=> .mk λr tm=>onO (g r tm) λv=>onO (h r tm) λl=>some (v::l)) (Gr ds l)) (BW ds x):=rfl
  rw[h0,h1,h3]
  refine⟨_,rfl,λr U rho tm a v hs hu h=> ?_⟩
  obtain⟨y,e1,e2⟩:=D4 h
  obtain⟨ys,e3,e4⟩:=D4 e2
  cases e4
  exact .cons (h2 r U rho tm a y hs (λt q=>hu t (by simp at q ⊢;simp[q])) e1) (h4 r U rho tm a ys hs (λt q=>hu t (by simp at q ⊢;simp[q])) e3)
theorem Mz (ds:List Nat): ∀(l:List (Nat×Operand)),I3 (JM ds l) ds (l.map (·.2)) PRs (λa=>l.map λp=>(p.1,a.eval p.2))
 |[]=>⟨_,rfl,λr U rho tm a v hs hu h=>by cases h;exact True.intro⟩
 |x::l=>by
  obtain⟨g,h1,h2⟩:=Be ds x.2
  obtain⟨g',h3,h4⟩:=Mz ds l
  have h0:JM ds (x::l)=Cl.rec (motive:=λ_=>Cl (G (List (Nat×Value)))) (λg=>Cl.rec (motive:=λ_=>Cl (G (List (Nat×Value)))) (λh=> .mk λr tm=>onO (g r tm) λv=>onO (h r tm) λl=>some ((x.1,v)::l)) (JM ds l)) (BW ds x.2):=rfl
  rw[h0,h1,h3]
  refine⟨_,rfl,λr U rho tm a v hs hu h=> ?_⟩
  obtain⟨y,e1,e2⟩:=D4 h
  obtain⟨ys,e3,e4⟩:=D4 e2
  cases e4
  exact⟨rfl,h2 r U rho tm a y hs (λt q=>hu t (by simp at q ⊢;simp[q])) e1,h4 r U rho tm a ys hs (λt q=>hu t (by simp at q ⊢;simp[q])) e3⟩
theorem K6 (ds:List Nat)(x:Option Operand):I3 (Lj ds x) ds x.toList VRo (λa=>x.map a.eval):=by
 cases x with
 |none=>exact⟨_,rfl,λr U rho tm a v hs hu h=>by cases h;exact True.intro⟩
 |some x=>
  obtain⟨g,h1,h2⟩:=Be ds x
  have h0:Lj ds (some x)=Cl.rec (motive:=λ_=>Cl (G (Option Value))) (λg=> .mk λr tm=>onO (g r tm) λv=>some (some v)) (BW ds x):=rfl
  rw[h0,h1]
  refine⟨_,rfl,λr U rho tm a v hs hu h=> ?_⟩
  obtain⟨y,e1,e2⟩:=D4 h
  cases e2
  exact h2 r U rho tm a y hs (λt q=>hu t (by simp at q ⊢;simp[q])) e1
structure NoPan {α:Type}(m:M α):Prop where
 no: ∀s c s',m s= .pan c s'->False
theorem Aq {α:Type}(a:α):NoPan (M.pure a):=⟨λs c s' h=>by cases h⟩
theorem Av {α:Type}:NoPan (aC:M α):=⟨λs c s' h=>by cases h⟩
theorem EO {α:Type}(x:Option α):NoPan (M.ofOpt x):=⟨λs c s' h=>by cases x<;>cases h⟩
theorem Ak {α β:Type}{m:M α}{f:α->M β}(h:NoPan m)(k: ∀a,NoPan (f a)):NoPan (M.bind m f):=⟨λs c s' e=>by
 rcases Pp e with e|⟨a,s1,_,e⟩
 ·exact h.no _ _ _ e
 ·exact(k a).no _ _ _ e⟩
theorem A4 {α:Type}(b:Bool){m:M α}(h:NoPan m):NoPan (M.chk b m):=⟨λs c s' e=>by
 cases b with
 |false=>cases e
 |true=>exact h.no _ _ _ e⟩
theorem EU {α:Type}(b:Bool){m n:M α}(h:NoPan m)(k:NoPan n):NoPan (aT b m n):=by cases b<;>assumption
theorem Bq {α β:Type}(x:Option α){f:α->M β}(k: ∀a,NoPan (f a)):NoPan (M.on x f):=by
 cases x with
 |none=>exact Av
 |some a=>exact k a
theorem Dg {α:Type}(n:Nat){f:Nat->M α}(k: ∀a,NoPan (f a)):NoPan (fN n f):=by rw[Ar];exact k _
theorem KD {α:Type}(n:Int){f:Int->M α}(k: ∀a,NoPan (f a)):NoPan (fI n f):=by rw[Cd];exact k _
theorem LQ {α:Type}(n:Addr){f:Addr->M α}(k: ∀a,NoPan (f a)):NoPan (fA n f):=by rw[CH];exact k _
theorem Um_ {α:Type}(v:Value){f:IntKind->Int->M α}{d:M α}(h: ∀k n,NoPan (f k n))(k:NoPan d):NoPan (Ch v f d):=by
 cases v<;>first|exact h _ _|exact k
theorem HR {α:Type}(b:Bool){m n:M α}(h:NoPan m)(k:NoPan n):NoPan (Bool.rec (motive:=λ_=>M α) m n b):=by cases b<;>assumption
theorem Anr_ {α β:Type}(x:Option α){m:M β}{f:α->M β}(h:NoPan m)(k: ∀a,NoPan (f a)):NoPan (Option.rec (motive:=λ_=>M β) m (λa=>f a) x):=by
 cases x with
 |none=>exact h
 |some a=>exact k a
theorem EY (loc:Nat):NoPan (rdC loc):= .mk λs c s' h=>by
 obtain⟨mem,next,lim,rd,wr,cx⟩:=s
 unfold rdC at h
 simp only at h
 cases hb:Nat.blt loc next<;>rw[hb]at h
 ·cases h
 ·cases e:T.get mem loc<;>rw[e]at h<;>cases h
theorem Da (loc:Nat)(x:Cell):NoPan (wrC loc x):= .mk λs c s' h=>by
 obtain⟨mem,next,lim,rd,wr,cx⟩:=s
 unfold wrC at h
 obtain⟨v,l,r,e⟩:=aZ mem loc x
 simp only[e]at h
 cases hb:Nat.blt loc next<;>rw[hb]at h<;>cases h
theorem Yh_ (loc:Nat):NoPan (delC loc):= .mk λs c s' h=>by
 obtain⟨mem,next,lim,rd,wr,cx⟩:=s
 unfold delC at h
 simp only at h
 cases hb:Nat.blt loc next<;>rw[hb]at h<;>cases h
theorem FE (vs:List Value):NoPan (newL vs):= .mk λs c s' h=>by
 obtain⟨mem,next,lim,rd,wr,cx⟩:=s
 have h0:newL vs ⟨mem,next,lim,rd,wr,cx⟩=fN next λb=>fN (Nat.succ (Nat.add b vs.length)) λn=>R.some b (St.mk (layL b vs b mem) n lim rd wr cx):=rfl
 rw[h0,Ar,Ar]at h
 cases h
theorem KV_ (o:AObj):NoPan (newO o):= .mk λs c s' h=>by
 obtain⟨mem,next,lim,rd,wr,cx⟩:=s
 have h0:newO o ⟨mem,next,lim,rd,wr,cx⟩=fN next λb=>fN (Nat.succ b) λn=>R.some b (St.mk (T.set mem b (.O o)) n lim rd wr cx):=rfl
 rw[h0,Ar,Ar]at h
 cases h
theorem D1 (a:Addr):NoPan (rdV a):=by
 obtain⟨b,o,s⟩:=a
 cases s with
 |some x=>exact Av
 |none=>exact Ak (EY _) λc=>EO _
theorem T8 (a:Addr)(v:Value):NoPan (wrV a v):=by
 obtain⟨b,o,s⟩:=a
 cases s with
 |some x=>exact Av
 |none=>exact Ak (EY _) λc=>A4 _ (Da _ _)
theorem FN: ∀(n:Nat) (a:Addr),NoPan (rdL n a)
 |0,_=>Aq _
 |n+1,a=>by
  have h0:rdL (n+1) a=fA a λa=>M.bind (rdV a) λv=>M.bind (rdL n ⟨a.block,Nat.succ a.off,a.spot⟩) λl=>M.pure (v::l):=rfl
  rw[h0]
  exact LQ _ λa=>Ak (D1 a) λv=>Ak (FN n _) λl=>Aq _
theorem Ie: ∀(vs:List Value) (a:Addr),NoPan (wrL vs a)
 |[],_=>Aq _
 |v::vs,a=>by
  have h0:wrL (v::vs) a=fA a λa=>M.bind (wrV a v) λ_=>wrL vs ⟨a.block,Nat.succ a.off,a.spot⟩:=rfl
  rw[h0]
  exact LQ _ λa=>Ak (T8 a v) λv=>Ie vs _
theorem Jr: ∀(n l:Nat),NoPan (Cg n l)
 |0,_=>Aq _
 |n+1,l=>by
  have h0:Cg (n+1) l=M.bind (delC l) λ_=>Cg n (l+1):=rfl
  rw[h0]
  exact Ak (Yh_ l) λ_=>Jr n _
theorem Bb (x0:_)(x1:_):NoPan (ti x0 x1):=by
 unfold ti
 repeat' (first|exact EO _|intro _|split)
theorem Iu (x0:_):NoPan (pV x0):=by
 unfold pV
 repeat' (first|exact Aq _|apply A4|apply KD|apply Um_|intro _|split)
theorem Ant_ (x0:_)(x1:_)(x2:_)(x3:_)(x4:_):NoPan (Fz x0 x1 x2 x3 x4):=by
 unfold Fz
 repeat' (first|exact Aq _|exact Av|exact Bb _ _|apply Ak|apply Bq|intro _|split)
theorem Akq_ (x0:_)(x1:_):NoPan (GO x0 x1):=by
 unfold GO
 repeat' (first|exact Aq _|exact Av|intro _|split)
theorem Va_ (x0:_)(x1:_)(x2:_):NoPan (Hw x0 x1 x2):=by
 unfold Hw
 repeat' (first|exact Akq_ _ _|apply A4|apply Bq|intro _|split)
theorem YF_ (x0:_)(x1:_)(x2:_)(x3:_)(x4:_)(x5:_)(x6:_):NoPan (AJ x0 x1 x2 x3 x4 x5 x6):=by
 unfold AJ
 repeat' (first|exact Va_ _ _ _|exact Ant_ _ _ _ _ _|exact Iu _|apply EU|apply Bq|intro _|split)
theorem AcJ_ (x0:_):NoPan (lenOf x0):=by
 unfold lenOf
 repeat' (first|exact Aq _|exact Av|intro _|split)
theorem RN_ (x0:_)(x1:_)(x2:_):NoPan (F7 x0 x1 x2):=by
 unfold F7
 repeat' (first|exact Aq _|exact Bb _ _|exact FN _ _|exact D1 _|apply Ak|apply EU|intro _|split)
theorem UO_ (x0:_)(x1:_)(x2:_)(x3:_):NoPan (Hv x0 x1 x2 x3):=by
 unfold Hv
 repeat' (first|exact Bb _ _|exact Ie _ _|apply Ak|apply A4|intro _|split)
theorem LK (x0:_):NoPan (asA x0):=by
 unfold asA
 repeat' (first|exact Aq _|exact Av|intro _|split)
theorem Jb (x0:_)(x1:_)(x2:_):NoPan (bnd x0 x1 x2):=by
 unfold bnd
 repeat' (first|exact Aq _|exact Av|apply A4|intro _|split)
theorem Yc (x0:_):NoPan (ptrA x0):=by
 unfold ptrA
 repeat' (first|exact Aq _|apply LQ|intro _|split)
theorem H3 (x0:_)(x1:_)(x2:_):NoPan (pSl x0 x1 x2):=by
 unfold pSl
 repeat' (first|exact Aq _|apply Dg|apply LQ|intro _|split)
theorem Jn (x0:_):NoPan (pN x0):=by
 unfold pN
 repeat' (first|exact Aq _|apply Dg|intro _|split)
theorem Agl_ (x0:_)(x1:_)(x2:_)(x3:_)(x4:_):NoPan (Gz x0 x1 x2 x3 x4):=by
 unfold Gz
 repeat' (first|exact H3 _ _ _|exact Jb _ _ _|apply Ak|apply A4|apply HR|intro _|split)
theorem VZ_ (x0:_)(x1:_)(x2:_)(x3:_)(x4:_)(x5:_):NoPan (slSl x0 x1 x2 x3 x4 x5):=by
 unfold slSl
 repeat' (first|exact H3 _ _ _|exact Jb _ _ _|apply Ak|apply A4|apply HR|intro _|split)
theorem AoC_ (x0:_)(x1:_)(x2:_):NoPan (EM x0 x1 x2):=by
 unfold EM
 repeat' (first|exact Aq _|exact Jb _ _ _|apply Ak|intro _|split)
theorem Aia_ (x0:_)(x1:_)(x2:_)(x3:_)(x4:_):NoPan (AZ x0 x1 x2 x3 x4):=by
 unfold AZ
 repeat' (first|exact Aq _|exact Av|exact AoC_ _ _ _|exact VZ_ _ _ _ _ _ _|exact Agl_ _ _ _ _ _|exact Jb _ _ _|exact Bb _ _|apply Ak|intro _|split)
theorem Wl (x0:_)(x1:_)(x2:_):NoPan (srcL x0 x1 x2):=by
 unfold srcL
 repeat' (first|exact Aq _|exact Av|exact FN _ _|intro _|split)
theorem Ahl_ (x0:_)(x1:_)(x2:_):NoPan (appN x0 x1 x2):=by
 unfold appN
 repeat' (first|exact Aq _|exact Av|apply A4|intro _|split)
theorem Aax_ (x0:_)(x1:_)(x2:_)(x3:_):NoPan (appL x0 x1 x2 x3):=by
 unfold appL
 repeat' (first|exact Aq _|exact Wl _ _ _|apply EU|intro _|split)
theorem Ald_ (x0:_)(x1:_)(x2:_):NoPan (oldL x0 x1 x2):=by
 unfold oldL
 repeat' (first|exact Aq _|exact FN _ _|intro _|split)
theorem Adf_ (x0:_)(x1:_)(x2:_):NoPan (FM x0 x1 x2):=by
 unfold FM
 repeat' (first|exact Aq _|exact Jr _ _|intro _|split)
theorem Vv_ (x0:_)(x1:_)(x2:_)(x3:_):NoPan (Dc x0 x1 x2 x3):=by
 unfold Dc
 repeat' (first|exact Aq _|exact Av|exact Adf_ _ _ _|exact Da _ _|exact EY _|apply Ak|apply A4|apply EU|apply Dg|intro _|split)
theorem AmM_ (x0:_)(x1:_)(x2:_)(x3:_)(x4:_)(x5:_)(x6:_)(x7:_):NoPan (grow x0 x1 x2 x3 x4 x5 x6 x7):=by
 unfold grow
 repeat' (first|exact Vv_ _ _ _ _|exact Ald_ _ _ _|exact H3 _ _ _|exact FE _|exact Da _ _|apply Ak|apply A4|apply Dg|apply HR|intro _|split)
theorem Zv_ (x0:_)(x1:_)(x2:_)(x3:_)(x4:_)(x5:_):NoPan (Fj x0 x1 x2 x3 x4 x5):=by
 unfold Fj
 repeat' (first|exact Aq _|exact H3 _ _ _|exact Ie _ _|apply Ak|intro _|split)
theorem Ahr_ (x0:_)(x1:_)(x2:_)(x3:_)(x4:_):NoPan (BV x0 x1 x2 x3 x4):=by
 unfold BV
 repeat' (first|exact Av|exact Zv_ _ _ _ _ _ _|exact AmM_ _ _ _ _ _ _ _ _|exact Aax_ _ _ _ _|exact Ahl_ _ _ _|exact Bb _ _|apply Ak|apply EU|intro _|split)
theorem Abh_ (x0:_)(x1:_)(x2:_):NoPan (Cz x0 x1 x2):=by
 unfold Cz
 repeat' (first|exact Aq _|exact Av|exact EO _|exact Bb _ _|apply Ak|intro _|split)
theorem AnX_ (x0:_)(x1:_)(x2:_)(x3:_):NoPan (BU x0 x1 x2 x3):=by
 unfold BU
 repeat' (first|exact Aq _|exact Av|exact EO _|exact Bb _ _|exact FE _|exact Da _ _|apply Ak|apply A4|intro _|split)
theorem Hk_ (x0:_)(x1:_)(x2:_)(x3:_):NoPan (Gh x0 x1 x2 x3):=by
 unfold Gh
 repeat' (first|exact Aq _|exact EO _|exact Bb _ _|apply Ak|apply EU|intro _|split)
theorem YZ_ (x0:_)(x1:_)(x2:_)(x3:_)(x4:_):NoPan (Fu x0 x1 x2 x3 x4):=by
 unfold Fu
 repeat' (first|exact Av|exact Wl _ _ _|exact Jn _|exact AcJ_ _|exact Bb _ _|exact Ie _ _|apply Ak|apply Dg|intro _|split)
theorem GI (x0:_):NoPan (mapAt x0):=by
 unfold mapAt
 repeat' (first|exact Aq _|exact Av|exact EY _|apply Ak|intro _|split)
theorem Ux_ (x0:_):NoPan (EF x0):=by
 unfold EF
 repeat' (first|exact Av|exact GI _|exact Jn _|apply Ak|intro _|split)
theorem AcF_ (x0:_)(x1:_)(x2:_):NoPan (aLen x0 x1 x2):=by
 unfold aLen
 repeat' (first|exact Aq _|exact Av|exact Ux_ _|exact Jn _|exact Bb _ _|apply Ak|intro _|split)
theorem ZD_ (x0:_)(x1:_)(x2:_):NoPan (aCap x0 x1 x2):=by
 unfold aCap
 repeat' (first|exact Av|exact Jn _|exact Bb _ _|apply Ak|apply A4|intro _|split)
theorem WS_ (x0:_)(x1:_)(x2:_):NoPan (EV x0 x1 x2):=by
 unfold EV
 repeat' (first|exact Aq _|exact Av|exact Bb _ _|exact Ie _ _|apply Ak|apply A4|intro _|split)
theorem ZT_ (x0:_):NoPan (zeroV x0):=by
 unfold zeroV
 repeat' (first|exact Aq _|exact EO _|apply EU|intro _|split)
theorem IJ (E:_)(e:_)(t:_)(k:_)(es:_):NoPan (Cx E e t k es):=A4 _ (Bq _ λ_=>Aq _)
theorem N5 (x0:_)(x1:_)(x2:_):NoPan (DM x0 x1 x2):=by
 unfold DM
 repeat' (first|exact Aq _|apply HR|intro _|split)
theorem Ft_ (x0:_)(x1:_):NoPan (zeroOf x0 x1):=by
 unfold zeroOf
 repeat' (first|exact ZT_ _|exact Bb _ _|apply Ak|intro _|split)
theorem Agt_ (E:_)(a:_)(b:_)(k:_)(c:_):NoPan (Nk E a b k c):=Ak (IJ _ _ _ _ _) λr=>by
 cases r with
 |none=>exact Ak (Ft_ _ _) λ_=>N5 _ _ _
 |some j=>exact Av
theorem Zi_ (E:_)(a:_)(b:_)(k:_)(c:_)(es:_):NoPan (DK E a b k c es):=Ak (IJ _ _ _ _ _) λr=>by
 cases r with
 |none=>exact Ak (Ft_ _ _) λ_=>N5 _ _ _
 |some j=>exact Bq _ λ_=>N5 _ _ _
theorem RM (x0:_)(x1:_):NoPan (mapT x0 x1):=by
 unfold mapT
 repeat' (first|exact Aq _|exact Av|exact Bb _ _|apply Ak|intro _|split)
theorem AnS_ (E:_)(t:_)(c:_)(x:_)(k:_):NoPan (B6 E t c x k):=Ak (RM _ _) λke=>by
 cases x with
 |map m=>
  cases m with
  |none=>exact Agt_ _ _ _ _ _
  |some l=>exact Ak (GI _) λp=>Zi_ _ _ _ _ _ _
 |_=>exact Av
theorem Abn_ (E:_)(t:_)(k:_)(x:_)(l:_)(p:_):NoPan (putE E t k x l p):=Ak (IJ _ _ _ _ _) λr=>by
 cases r with
 |none=>exact Da _ _
 |some j=>exact Bq _ λ_=>A4 _ (Da _ _)
theorem Ahh_ (E:_)(t:_)(m:_)(k:_)(x:_):NoPan (Eb E t m k x):=Ak (RM _ _) λke=>by
 cases m with
 |map m=>
  cases m with
  |none=>exact Av
  |some l=>exact Ak (GI _) λp=>Ak (Abn_ _ _ _ _ _ _) λ_=>Aq _
 |_=>exact Av
theorem AmL_:NoPan (DQ):=by
 unfold DQ
 repeat' (first|exact Aq _|exact KV_ _|apply Ak|intro _|split)
theorem Tk_ (E:_)(t:_)(m:_)(k:_):NoPan (kDel E t m k):=Ak (RM _ _) λke=>by
 cases m with
 |map m=>
  cases m with
  |none=>exact Ak (IJ _ _ _ _ _) λ_=>Aq _
  |some l=>exact Ak (GI _) λp=>Ak (IJ _ _ _ _ _) λr=>by cases r<;>exact Ak (Da _ _) λ_=>Aq _
 |_=>exact Av
theorem Alr_ (x0:_)(x1:_)(x2:_)(x3:_):NoPan (AH x0 x1 x2 x3):=by
 unfold AH
 repeat' (first|exact Av|exact Tk_ _ _ _ _|exact WS_ _ _ _|exact ZD_ _ _ _|exact AcF_ _ _ _|exact YZ_ _ _ _ _ _|exact Ahr_ _ _ _ _ _|exact Iu _|apply A4|apply Bq|intro _|split)
theorem Adh_ (x0:_)(x1:_)(x2:_)(x3:_):NoPan (idxN x0 x1 x2 x3):=by
 unfold idxN
 repeat' (first|exact Av|exact Yc _|exact Bb _ _|apply Ak|apply A4|intro _|split)
theorem Pa (x0:_):NoPan (asN x0):=by
 unfold asN
 repeat' (first|exact Aq _|exact Av|intro _|split)
theorem Aru_ (x0:_)(x1:_)(x2:_):NoPan (Au x0 x1 x2):=by
 unfold Au
 repeat' (first|exact Aq _|exact Av|apply HR|intro _|split)
theorem Kq_ (x0:_):NoPan (ptrN x0):=by
 unfold ptrN
 repeat' (first|exact Aq _|intro _|split)
theorem Zy_ (x0:_)(x1:_):NoPan (CM x0 x1):=by
 unfold CM
 repeat' (first|exact Kq_ _|exact Bb _ _|exact FE _|apply Ak|intro _|split)
theorem AkR_ (x0:_):NoPan (kBox x0):=by
 unfold kBox
 repeat' (first|exact Kq_ _|exact FE _|apply Ak|intro _|split)
theorem AlU_ (x0:_)(x1:_)(x2:_):NoPan (Bd x0 x1 x2):=by
 unfold Bd
 repeat' (first|exact LK _|exact RN_ _ _ _|apply Ak|intro _|split)
theorem Vz_ (x0:_)(x1:_)(x2:_)(x3:_):NoPan (Az x0 x1 x2 x3):=by
 unfold Az
 repeat' (first|exact Aq _|exact LK _|exact UO_ _ _ _ _|apply Ak|intro _|split)
theorem XP_ (x0:_):NoPan (kNil x0):=by
 unfold kNil
 repeat' (first|exact Aq _|exact Av|intro _|split)
theorem Amg_ (b:Bool):NoPan (pB b):=⟨λs c s' h=>by cases b<;>cases h⟩
theorem Ka (x0:_)(x1:_)(x2:_):NoPan (CX x0 x1 x2):=by
 unfold CX
 repeat' (first|exact Iu _|apply A4|apply Bq|intro _|split)
theorem AbH_ (P:Program)(v:Value):NoPan (xorU P v):=by
 have h:=Ka P .xor v
 cases v with
 |int k n=>
  cases n with
  |negSucc m=>exact Ka P .xor (.int k (.negSucc m))
  |ofNat m=>
   show NoPan (Option.rec (motive:=λ_=>M Value) (CX P .xor (.int k (.ofNat m))) (λx=>M.pure x) (notK k m))
   exact Anr_ _ (Ka _ _ _) λ_=>Aq _
 |_=>exact h
theorem Acb_ (x0:_)(x1:_)(x2:_):NoPan (kUn x0 x1 x2):=by
 unfold kUn
 repeat' (first|exact Aq _|exact AbH_ _ _|exact Ka _ _ _|exact Amg_ _|intro _|split)
theorem AjS_ (x0:_)(x1:_):NoPan (strOf x0 x1):=by
 unfold strOf
 repeat' (first|exact Aq _|exact FN _ _|apply Ak|apply Bq|intro _|split)
theorem AkZ_ (x0:_)(x1:_)(x2:_)(x3:_)(x4:_):NoPan (Fp x0 x1 x2 x3 x4):=by
 unfold Fp
 repeat' (first|exact Av|exact AjS_ _ _|exact Bb _ _|apply Ak|intro _|split)
theorem Alm_ (x0:_)(x1:_)(x2:_)(x3:_)(x4:_):NoPan (Fx x0 x1 x2 x3 x4):=by
 unfold Fx
 repeat' (first|exact Aq _|exact Iu _|exact Bb _ _|apply Ak|apply Bq|apply KD|intro _|split)
theorem PT (x0:_)(x1:_)(x2:_)(x3:_):NoPan (DH x0 x1 x2 x3):=by
 unfold DH
 repeat' (first|exact Alm_ _ _ _ _ _|exact AkZ_ _ _ _ _ _|exact Iu _|apply A4|apply Bq|intro _|split)
theorem Oc_ (x0:_)(x1:_):NoPan (rowN x0 x1):=by
 unfold rowN
 repeat' (first|exact H3 _ _ _|exact FE _|exact Da _ _|apply Ak|apply A4|intro _|split)
theorem AoJ_ (l:List UInt8):NoPan (FJ l):=by
 unfold FJ
 rw[J8]
 exact Dg _ λn=>Oc_ _ _
theorem Afz_ (x0:_)(x1:_)(x2:_)(x3:_):NoPan (Gu x0 x1 x2 x3):=by
 unfold Gu
 repeat' (first|exact Av|exact AoJ_ _|exact PT _ _ _ _|exact Bb _ _|apply Ak|intro _|split)
theorem Aon_ (x0:_)(x1:_)(x2:_)(x3:_)(x4:_)(x5:_):NoPan (Ed x0 x1 x2 x3 x4 x5):=by
 unfold Ed
 repeat' (first|exact Av|exact PT _ _ _ _|exact Bb _ _|apply Ak|intro _|split)
theorem Aah_ (x0:_)(x1:_)(x2:_)(x3:_):NoPan (Ce x0 x1 x2 x3):=by
 unfold Ce
 repeat' (first|exact Aon_ _ _ _ _ _ _|exact Afz_ _ _ _ _|exact PT _ _ _ _|intro _|split)
theorem Aja_ (x0:_)(x1:_):NoPan (GX x0 x1):=by
 unfold GX
 repeat' (first|exact Aq _|exact Av|apply A4|intro _|split)
theorem Ady_ (x0:_)(x1:_)(x2:_):NoPan (FT x0 x1 x2):=by
 unfold FT
 repeat' (first|exact Aja_ _ _|exact Bb _ _|apply Ak|intro _|split)
theorem Akp_ (x0:_)(x1:_)(x2:_):NoPan (Gl x0 x1 x2):=by
 unfold Gl
 repeat' (first|exact Aq _|exact Av|exact Bb _ _|apply Ak|intro _|split)
theorem AaA_ (x0:_)(x1:_)(x2:_)(x3:_):NoPan (mkSl x0 x1 x2 x3):=by
 unfold mkSl
 repeat' (first|exact Aq _|exact Av|exact Bb _ _|exact FE _|apply Ak|apply A4|intro _|split)
theorem XR_ (x0:_)(x1:_)(x2:_)(x3:_):NoPan (Ez x0 x1 x2 x3):=by
 unfold Ez
 repeat' (first|exact AaA_ _ _ _ _|exact Pa _|exact Bb _ _|apply Ak|intro _|split)
theorem SX (x0:_)(x1:_)(x2:_):NoPan (DJ x0 x1 x2):=by
 unfold DJ
 repeat' (first|exact Aq _|exact Av|exact Bb _ _|apply Ak|intro _|split)
theorem Ake_ (x0:_)(x1:_)(x2:_)(x3:_):NoPan (kFld x0 x1 x2 x3):=by
 unfold kFld
 repeat' (first|exact SX _ _ _|exact Yc _|exact LK _|exact Bb _ _|apply Ak|apply A4|intro _|split)
theorem Tc_ (x0:_):NoPan (asCs x0):=by
 unfold asCs
 repeat' (first|exact Aq _|exact Av|intro _|split)
theorem AoY_ (x0:_)(x1:_)(x2:_)(x3:_):NoPan (Fq x0 x1 x2 x3):=by
 unfold Fq
 repeat' (first|exact Tc_ _|exact SX _ _ _|exact Hk_ _ _ _ _|exact Bb _ _|apply Ak|intro _|split)
theorem AoU_ (x0:_)(x1:_)(x2:_)(x3:_):NoPan (B8 x0 x1 x2 x3):=by
 unfold B8
 repeat' (first|exact Pa _|exact Adh_ _ _ _ _|exact Bb _ _|apply Ak|intro _|split)
theorem Yu_ (x0:_)(x1:_)(x2:_)(x3:_):NoPan (idxV x0 x1 x2 x3):=by
 unfold idxV
 repeat' (first|exact Aq _|exact Av|exact Hk_ _ _ _ _|exact Bb _ _|apply Ak|apply A4|apply Bq|intro _|split)
theorem AgQ_ (x0:_)(x1:_)(x2:_)(x3:_):NoPan (kIdx x0 x1 x2 x3):=by
 unfold kIdx
 repeat' (first|exact Yu_ _ _ _ _|exact Pa _|exact Bb _ _|apply Ak|intro _|split)
theorem AbY_ (x0:_)(x1:_):NoPan (kExt x0 x1):=by
 unfold kExt
 repeat' (first|exact Av|exact EO _|intro _|split)
theorem AhE_ (x0:_)(x1:_)(x2:_):NoPan (Dz x0 x1 x2):=by
 unfold Dz
 repeat' (first|exact Aq _|exact Av|exact Bb _ _|exact KV_ _|apply Ak|intro _|split)
theorem Anp_ (x0:_)(x1:_)(x2:_):NoPan (sitN x0 x1 x2):=by
 unfold sitN
 repeat' (first|exact Aq _|exact Da _ _|apply Ak|apply EU|apply Dg|intro _|split)
theorem Wz_ (x0:_):NoPan (EC x0):=by
 unfold EC
 repeat' (first|exact Av|exact Anp_ _ _ _|exact EY _|apply Ak|apply Dg|intro _|split)
def OpV (E:Env)(o:Oper)(c:Cl OpT)(ds:List Nat):Prop:=
 ∃f,c= .mk f/\(∀call round rho tm,NoPan (f call round rho tm))/\
  ∀call round (w0 w:World) (r:Inj) (U:Nat->Prop) rho tm (a:Act) s v s',SlR r U ds rho tm a.tmps->(∀t,Operand.tmp t∈o.op.operands.toList->U t)->Rel w0 r s.mem w->f call round rho tm s= .some v s'->AK r s.next s'.next->
   ∃v' w' r',((execOp a.eval o).run E.P w= .ok (.value v') w'\/((execOp a.eval o).run E.P w= .ok .skip w'/\v'=undef))/\Goes w0 r s s' r' w'/\VR r' v v'/\s'.lim=s.lim/\s'.cx=s.cx
section
variable {E:Env}{ds:List Nat}{o:Oper}
def Cp (m:Sem Value):Sem Next:=do pure (.value (<-m))
theorem Yields.val {w0 w:World}{r:Inj}{s s':St}{v:Value}{m:Sem Value}(h:Yields E w0 r s s' v w m){n:Sem Next}(hn:n=Cp m):
  ∃v' w' r',(n.run E.P w= .ok (.value v') w'\/(n.run E.P w= .ok .skip w'/\v'=undef))/\Goes w0 r s s' r' w'/\VR r' v v'/\s'.lim=s.lim/\s'.cx=s.cx:=by
 obtain⟨v',w',r',h1,h2,h3,h4,h5⟩:=h
 exact⟨v',w',r', .inl (by rw[hn];simp[Cp,h1]),h2,h3,h4,h5⟩
theorem Dd {α:Type}{x:Option α}{f:α->St->R Value}{s s':St}{v:Value}(h:Option.rec (motive:=λ_=>R Value) .none (λa=>f a s) x= .some v s'): ∃a,x=some a/\f a s= .some v s':=by
 cases x with
 |none=>cases h
 |some a=>exact⟨a,rfl,h⟩
theorem Dw {α:Type}{g:Option α}{f:α->M Value}(h: ∀a,NoPan (f a)):NoPan (λs=>Option.rec (motive:=λ_=>R Value) .none (λa=>f a s) g):=⟨λs c s' e=>by
 cases g with
 |none=>cases e
 |some a=>exact(h a).no _ _ _ e⟩
theorem En_ {x:Operand}(hx:o.op.operands.toList=[x])(ho: ∀a:Act,execOp a.eval o=pure (.value (a.eval x))):OpV E o (ES ds x) ds:=by
 obtain⟨g,h1,h2⟩:=Be ds x
 refine⟨_,by unfold ES;rw[h1],λ_ _ rho tm=>Dw (f:=λa s=> .some a s) (g:=g rho tm) λa=>Aq a, ?_⟩
 intro call round w0 w r U rho tm a s v s' hs hu hr h hf
 obtain⟨y,e1,e2⟩:=Dd (f:=λa s=> .some a s) h
 cases e2
 exact⟨_,w,r, .inl (by rw[ho];rfl), .of_rel rfl hr,h2 _ _ _ _ _ _ hs (λt q=>hu t (by first|(rw[hx];simp at q ⊢;simp[q])|exact hx _ q)) e1,rfl,rfl⟩
theorem Dl {x:Operand}{k:Value->M Value}{m:Value->Sem Value}(hx:o.op.operands.toList=[x])(ho: ∀a:Act,execOp a.eval o=Cp (m (a.eval x)))(np: ∀y,NoPan (k y))
  (hk: ∀{w0 w:World} {r:Inj} {y y':Value} {s v s'},k y s= .some v s'->Rel w0 r s.mem w->AK r s.next s'.next->VR r y y'->Yields E w0 r s s' v w (m y')):OpV E o (A7 ds x k) ds:=by
 obtain⟨g,h1,h2⟩:=Be ds x
 refine⟨_,by unfold A7;rw[h1],λ_ _ rho tm=>Dw (g:=g rho tm) np, ?_⟩
 intro call round w0 w r U rho tm a s v s' hs hu hr h hf
 obtain⟨y,e1,e2⟩:=Dd h
 exact(hk e2 hr hf (h2 _ _ _ _ _ _ hs (λt q=>hu t (by first|(rw[hx];simp at q ⊢;simp[q])|exact hx _ q)) e1)).val (ho a)
theorem HZ {x y:Operand}{k:Value->Value->M Value}{m:Value->Value->Sem Value}(hx:o.op.operands.toList=[x,y])(ho: ∀a:Act,execOp a.eval o=Cp (m (a.eval x) (a.eval y)))(np: ∀y z,NoPan (k y z))
  (hk: ∀{w0 w:World} {r:Inj} {y y' z z':Value} {s v s'},k y z s= .some v s'->Rel w0 r s.mem w->AK r s.next s'.next->VR r y y'->VR r z z'->Yields E w0 r s s' v w (m y' z')):OpV E o (B5 ds x y k) ds:=by
 obtain⟨g,h1,h2⟩:=Be ds x
 obtain⟨g',h3,h4⟩:=Be ds y
 refine⟨_,by unfold B5;rw[h1,h3],λ_ _ rho tm=>Dw (g:=g rho tm) (f:=λa s=>Option.rec (motive:=λ_=>R Value) .none (λb=>k a b s) (g' rho tm)) λa=>Dw (np a), ?_⟩
 intro call round w0 w r U rho tm a s v s' hs hu hr h hf
 obtain⟨y,e1,e2⟩:=Dd (f:=λa s=>Option.rec (motive:=λ_=>R Value) .none (λb=>k a b s) (g' rho tm)) h
 obtain⟨z,e3,e4⟩:=Dd e2
 exact(hk e4 hr hf (h2 _ _ _ _ _ _ hs (λt q=>hu t (by first|(rw[hx];simp at q ⊢;simp[q])|exact hx _ q)) e1) (h4 _ _ _ _ _ _ hs (λt q=>hu t (by rw[hx];simp at q ⊢;simp[q])) e3)).val (ho a)
theorem LF_ {l:List (Nat×Operand)}{k:List (Nat×Value)->M Value}{m:List (Nat×Value)->Sem Value}(hx:o.op.operands.toList=l.map (·.2))(ho: ∀a:Act,execOp a.eval o=Cp (m (l.map λp=>(p.1,a.eval p.2))))(np: ∀y,NoPan (k y))
  (hk: ∀{w0 w:World} {r:Inj} {y y':List (Nat×Value)} {s v s'},k y s= .some v s'->Rel w0 r s.mem w->AK r s.next s'.next->PRs r y y'->Yields E w0 r s s' v w (m y')):OpV E o (Fa ds l k) ds:=by
 obtain⟨g,h1,h2⟩:=Mz ds l
 refine⟨_,by unfold Fa;rw[h1],λ_ _ rho tm=>Dw (g:=g rho tm) np, ?_⟩
 intro call round w0 w r U rho tm a s v s' hs hu hr h hf
 obtain⟨y,e1,e2⟩:=Dd h
 exact(hk e2 hr hf (h2 _ _ _ _ _ _ hs (λt q=>hu t (by first|(rw[hx];simp at q ⊢;simp[q])|exact hx _ q)) e1)).val (ho a)
