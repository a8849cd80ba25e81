import Derived.Test.YtofanlcjeohcjaaIBz02
import Derived.Lib.ConvBytes
import Derived.Calls
namespace Go.Proofs.Ytofanlcjeohcjaa.Am
open Go.RowKit
section
variable {E:Env}{w0 w:World}{r:Inj}{t:Nat}
theorem enc {q need:Nat}(h:need<capU):(capU*q+need)/capU=q/\(capU*q+need)%capU=need:=by
 have hp:=Ks
 constructor
 ·rw[Nat.mul_add_div hp,Nat.div_eq_of_lt h];rfl
 ·rw[Nat.mul_add_mod,Nat.mod_eq_of_lt h]
theorem enc2 {m sz:Nat}(h:sz<1024):(m*1024+sz)/1024=m/\(m*1024+sz)%1024=sz:=J
theorem YH {r':Inj}{b bb o m need size x cap':Nat}(h1:r'.blk b=some (bb,o))(h2:r'.ext m=some ⟨x,bb,o+need*size,size⟩)(hs0:0<size)(hs1:size<1024)(hn:need<capU)(hc:cap'=need+x):
  VR r' (.slice (some ⟨b,0,none⟩) need (capU*(m*1024+size)+need)) (.slice (some ⟨bb,o,none⟩) need cap'):=by
 obtain⟨e1,e2⟩:=enc (q:=m*1024+size) hn
 obtain⟨e3,e4⟩:=enc2 (m:=m) hs1
 have:=VR.sl (r:=r') (b:=b) (o:=0) (b':=bb) (d:=o) (l:=need) (c:=capU*(m*1024+size)+need) (c':=cap') h1 (.inr ⟨by rw[e1];omega,_,by rw[e1,e3];exact h2,by rw[e1,e4],by rw[e2];exact hc,rfl,by rw[e2];show 0+o+need*size=o+need*size;omega⟩) (by rw[e2];exact Nat.le_refl _)
 rw[Nat.zero_add]at this
 exact this
theorem Axd_ {vs vs':List Value}{s2 s3 s4 s5:St}{b need size e cap' q:Nat}{u:Unit}{v:Value}{zs:Array Value}(hr:Rel w0 r s2.mem w)(hn:newL vs s2= .some b s3)(hw:wrC (b+need*size) (.O (.tok false q)) s3= .some u s4)(hq:size=q%1024)(hK:1024<=q->(∀v∈zs.toList,∃m,v= .int .u8 m)/\vs'.length+zs.size<=9223372036854775807)
  (hp:pSl ⟨b,0,none⟩ need (capU*((b+need*size)*1024+size)+need) s4= .some v s5) (hf:AU r s2.next s5.next) (hv:VRs r vs vs') (hlen:vs.length=need*size) (hs0:0<size) (hs1:size<1024) (hnu:need<capU) (hcap:need<=cap')
  (hzs:zs.size=(cap'-need)*size): ∃r',Goes w0 r s2 s5 r' (w.drew.alloc (.cells (vs'.toArray++zs) e))/\VR r' v (.slice (some ⟨w.heap.size,0,none⟩) need cap')/\s5.lim=s2.lim/\s5.cx=s2.cx:=by
 obtain⟨rfl,rfl⟩:=HK hp
 have hbn:=(Hz hn).1
 obtain⟨r',g1,g2,g3,g4,g5,rfl⟩:=Acs_ (w:=w.drew) (m:=b+need*size) (x:=cap'-need) hr.drew hn hw hq (by rw[hbn,hlen]) hf hv (c:=vs'.toArray++zs) e
  (λi v h=>by
   have hi:=(List.getElem?_eq_some_iff.1 h).1
   rw[Array.getElem?_append_left (by simpa using hi)]
   simpa using h)
  (by simp[hzs])
  (λh i v hi hv'=>by
   rw[Array.getElem?_append_right (by simpa using hi)]at hv'
   exact(hK h).1 v (by simpa using Array.mem_of_getElem? hv'))
  (λh=>by simpa using(hK h).2)
 refine⟨r',g1, ?_,g4,g5⟩
 refine YH (x:=cap'-need) g2 ?_ hs0 hs1 hnu J
 rw[hlen]at g3
 rw[Nat.zero_add]
 exact g3
theorem ET_ {vs vs':List Value}{s2 s3 s4 s5:St}{b need size cap' bb o q:Nat}{u:Unit}{v:Value}(hr:Rel w0 r s2.mem w)(hn:newL vs s2= .some b s3)(hw:wrC (b+need*size) (.O (.tok false q)) s3= .some u s4)(hq:size=q%1024)
  (hp:pSl ⟨b,0,none⟩ need (capU*((b+need*size)*1024+size)+need) s4= .some v s5) (hf:AU r s2.next s5.next) (hv:VRs r vs vs') (hlen:vs.length=need*size) (hs0:0<size) (hs1:size<1024) (hnu:need<capU) (hcap:need<=cap')
  (hb1:w0.heap.size<=bb) (hb2:bb<w.heap.size) (hvs: ∀(i:Nat) (v:Value),vs'[i]?=some v->w.cell? ⟨bb,o+i,none⟩=some v)
  (hcell: ∀j,j<cap'*size-> ∃v',w.cell? ⟨bb,o+j,none⟩=some v'/\w.frozen? ⟨bb,o+j,none⟩=false)
  (hno: ∀loc b v d,T.get s2.mem loc=some (.C b v)->r.blk b=some (bb,d)->loc-b+d<o)
  (htk: ∀t2 sz k2,T.get s2.mem t2=some (.O (.tok false sz))->r.ext t2=some k2->k2.b≠bb)
  (hK:1024<=q->(∀j v,need*size<=j->j<cap'*size->w.cell? ⟨bb,o+j,none⟩=some v-> ∃m,v= .int .u8 m)/\o+cap'*size<=9223372036854775807):
  ∃r',Goes w0 r s2 s5 r' w/\VR r' v (.slice (some ⟨bb,o,none⟩) need cap')/\s5.lim=s2.lim/\s5.cx=s2.cx:=by
 obtain⟨rfl,rfl⟩:=HK hp
 have hbn:=(Hz hn).1
 have hmul:need*size+(cap'-need)*size=cap'*size:=by rw[<-Nat.add_mul];congr 1;omega
 obtain⟨r',g1,g2,g3,g4,g5,rfl⟩:=AoW_ (m:=b+need*size) (x:=cap'-need) hr hn hw hq (by rw[hbn,hlen]) hf hv hb1 hb2 hvs (λj hj=>hcell j J) hno htk (λh j v h1 h2 h3=>(hK h).1 j v J J h3) (λh=>by rw[hlen,hmul];exact(hK h).2)
 refine⟨r',g1, ?_,g4,g5⟩
 refine YH (x:=cap'-need) g2 ?_ hs0 hs1 hnu J
 rw[hlen]at g3
 exact g3
theorem Rn_ {size lb tok f:Nat}{base:Option Addr}{s s':St}(h:DK size base lb tok s= .some f s'):(tok=0/\s=s'/\f=1)\/(tok≠0/\ ∃sz,T.get s.mem (tok/1024)=some (.O (.tok false sz))/\sz%1024=size/\f=sz/1024/\tok%1024=size/\s'.next=s.next/\s'.lim=s.lim/\s'.cx=s.cx/\
  ∀loc c,T.get s'.mem loc=some c->((loc=tok/1024/\c= .O (.tok true size))\/(loc≠tok/1024/\T.get s.mem loc=some c))/\(∀a,base=some a-> ¬(a.block+a.off<=loc/\loc<a.block+a.off+lb*size))):=by
 unfold DK at h
 rw[En]at h
 by_cases h0:Nat.beq tok 0=true
 ·rw[if_pos h0]at h
  obtain⟨h1,rfl⟩:=Aq h
  exact .inl ⟨Nat.eq_of_beq_eq_true h0,rfl,h1.symm⟩
 ·rw[if_neg h0]at h
  have hne:tok≠0:=λe=>h0 (by rw[e];rfl)
  obtain⟨c,s1,h1,h2⟩:=bind_some h
  obtain⟨g1,g2⟩:=F7 h1
  split at h2
  ·rename_i sz
   obtain⟨h3,h4⟩:=Bw h2
   rw[Bool.and_eq_true]at h3
   have e1:sz%1024=size:=Nat.eq_of_beq_eq_true h3.1
   have e2:tok%1024=size:=Nat.eq_of_beq_eq_true h3.2
   obtain⟨u1,s2,h5,h6⟩:=bind_some h4
   obtain⟨u2,s3,h8,h7⟩:=bind_some h6
   rw[AB]at h7
   obtain⟨hf,rfl⟩:=Aq h7
   obtain⟨k1,k2,k3,k4⟩:=FZ h5
   have set: ∀loc c,T.get s2.mem loc=some c->((loc=tok/1024/\c= .O (.tok true size))\/(loc≠tok/1024/\T.get s.mem loc=some c)):=by
    intro loc c e
    rw[k1,T.get_set,g2.1]at e
    split at e
    ·cases e;exact .inl ⟨by assumption,rfl⟩
    ·exact .inr ⟨by assumption,e⟩
   refine .inr ⟨hne,sz,g1,e1,hf.symm,e2, ?_⟩
   unfold FM at h8
   split at h8
   ·rename_i a
    obtain⟨q1,q2,q3,q4⟩:=NH _ _ h8
    refine⟨q2.trans (k2.trans g2.2.1),q3.trans (k3.trans g2.2.2.1),q4.trans (k4.trans g2.2.2.2),λloc c e=> ?_⟩
    obtain⟨x1,x2⟩:=q1 loc c e
    exact⟨set _ _ x1,λa' ea=>by cases ea;exact x2⟩
   ·obtain⟨_,rfl⟩:=Aq h8
    exact⟨k2.trans g2.2.1,k3.trans g2.2.2.1,k4.trans g2.2.2.2,λloc c e=>⟨set _ _ e,λa' ea=>by cases ea⟩⟩
  ·cases h2
theorem IC {size f:Nat}{g:Bool}(h:size<1024):flg size f g%1024=size:=by
 unfold flg
 cases Nat.beq f 1&&g
 ·exact Nat.mod_eq_of_lt h
 ·show(size+1024)%1024=size
  omega
theorem LF {size f:Nat}{g:Bool}(h:size<1024)(hq:1024<=flg size f g):f=1/\g=true:=by
 unfold flg at hq
 cases hc:(Nat.beq f 1&&g)with
 |false=>
  rw[hc]at hq
  have:1024<=size:=hq
  omega
 |true=>
  rw[Bool.and_eq_true]at hc
  exact⟨Nat.eq_of_beq_eq_true hc.1,hc.2⟩
theorem AwS_ {z:Array Value}{k:Nat}{v:Value}(h:v∈(Builtin.zeroCells z k).toList):v∈z.toList:=by
 unfold Builtin.zeroCells at h
 rw[Array.toList_map]at h
 obtain⟨i,hi,rfl⟩:=List.mem_map.1 h
 have hi':i<k*z.size:=by simpa using hi
 have hz:0<z.size:=by
  rcases Nat.eq_zero_or_pos z.size with e|e
  ·rw[e]at hi';omega
  ·exact e
 have hlt:=Nat.mod_lt i hz
 rw[getElem!_pos z _ hlt,<-Array.getElem_toList hlt]
 exact List.getElem_mem _
variable {ts:Array TypeId}{ty:TypeId}{t2 e:Nat}{u2:TypeDesc}{ni:TypeInfo}{z x':Value}{n len c:Nat}{news news':List Value}{base:Option Addr}{y' v:Value}{s s':St}
theorem Za_ (v:Value):v.oneCell'=oneCell v:=by cases v<;>rfl
theorem QM: ∀(n:Nat) {a:Addr} {s s':St} {l:List Value},rdL n a s= .some l s'-> ∀j,j<n-> ∃v,T.get s.mem (a.block+a.off+j)=some (.C a.block v)\/T.get s.mem (a.block+a.off+j)=some (.O (.old a.block v))
 |0,_,_,_,_,_,j,hj=>absurd hj (Nat.not_lt_zero _)
 |n+1,a,s,s',l,h,j,hj=>by
  have h0:rdL (n+1) a=fA a λa=>M.bind (rdV a) λv=>M.bind (rdL n ⟨a.block,Nat.succ a.off,a.spot⟩) λl=>M.pure (v::l):=rfl
  rw[h0,C1]at h
  obtain⟨v,s1,h1,h2⟩:=bind_some h
  obtain⟨l1,s2,h3,h4⟩:=bind_some h2
  obtain⟨_,g1,g2⟩:=ZW h1
  cases j with
  |zero=>exact⟨v,g1⟩
  |succ j=>
   obtain⟨v1,q⟩:=QM n h3 j J
   rw[g2.1]at q
   refine⟨v1, ?_⟩
   have e:a.block+a.off+(j+1)=a.block+Nat.succ a.off+j:=J
   rw[e]
   exact q
theorem Asu_ (hts0:ts[0]?=some t)(hts1:ts[1]?=some t2)(ht:E.P.underlying t=some (.slice e))(ht2:E.P.underlying t2=some u2)(hi:E.P.info? e=some ni)(hz:ni.zero=some z)(hzs:z.cells.size=ni.size)
  {g:Bool} (hgz:g=true->(∀v∈z.cells.toList,∃m,v= .int .u8 m)/\ni.size=1) (hs:GE E.P w u2 x' n ni.size ni.bytes z news') (hn:VRs r news news') (hv:VR r (.slice base len c) y') (h:grow ni.size ni.bytes g base len c n news s= .some v s') (hle: ¬(len+n<=c%capU)) (hr:Rel w0 r s.mem w) (hf:AU r s.next s'.next):
  Yields E w0 r s s' v w (Builtin.append_ ts ty #[y',x']):=by
 unfold grow at h
 obtain⟨hc,h⟩:=Bw h
 simp only[Bool.and_eq_true,Bool.or_eq_true]at hc
 obtain⟨⟨⟨⟨⟨c1,c2⟩,c3⟩,c4⟩,c5⟩,c6⟩:=hc
 have hb:=Nat.le_of_ble_eq_true c1
 have hs0:0<ni.size:=BF c2
 have hs1:ni.size<1024:=BF c3
 have hnl:news.length=n*ni.size:=Nat.eq_of_beq_eq_true c5
 have hmul:(len+n)*(ni.bytes+1)=(len+n)*ni.bytes+(len+n):=Nat.mul_succ _ _
 have hnu:len+n<capU:=by unfold capU;omega
 obtain⟨old,s1,h1,h⟩:=bind_some h
 obtain⟨f,s2,h2,h⟩:=bind_some h
 obtain⟨b,s3,h3,h⟩:=bind_some h
 rw[AB,AB]at h
 obtain⟨u4,s4,h4,h5⟩:=bind_some h
 change newL (old.take (len*ni.size)++news) s2=_ at h3
 change wrC (b+(len+n)*ni.size) _ s3=_ at h4
 change pSl ⟨b,0,none⟩ (len+n) (capU*((b+(len+n)*ni.size)*1024+ni.size)+(len+n)) s4=_ at h5
 have fin: ∀{olds:List Value} {base':Option Addr} {c':Nat} {r0:Inj},y'= .slice base' len c'->VRs r (old.take (len*ni.size)) olds->olds.length=len*ni.size->(Builtin.firstCells ni.size len (.slice base' len c')).run E.P w.drew= .ok olds.toArray w.drew->
   c'<len+n->Rel w0 r s2.mem w->s2.next=s.next->s2.lim=s.lim->s2.cx=s.cx->Yields E w0 r s s' v w (Builtin.append_ ts ty #[y',x']):=by
  intro olds base' c' _ hy ho hol hrun hg hr2 e1 e2 e3
  subst hy
  have hv':VRs r (old.take (len*ni.size)++news) (olds++news'):=ho.append hn
  have hge:=grownCap_ge w (len+n) c' e
  obtain⟨r',g1,g2,g3,g4⟩:=Axd_ (e:=e) (cap':=grownCap w (len+n) c' e) (zs:=Builtin.zeroCells z.cells (grownCap w (len+n) c' e-(len+n))) hr2 h3 h4 (IC hs1).symm (λh=>⟨λv hv=>(hgz (LF hs1 h).2).1 v (AwS_ hv),by
    have hm:=grownCap_le_maxLen w (len+n) c' e (by unfold maxLen;omega)
    have h1:=(hgz (LF hs1 h).2).2
    rw[size_zeroCells,hzs,List.length_append,<-hn.1,hnl,hol,h1]
    unfold maxLen at hm
    omega⟩) h5 (by rw[e1];exact hf) hv'
   (by rw[List.length_append,ho.1,hol,hnl,<-Nat.add_mul]) hs0 hs1 hnu hge (by rw[size_zeroCells,hzs])
  refine⟨_,_,r', ?_,⟨g1.le,by rw[<-e1];exact g1.nxt,λb h=>by rw[<-e1];exact g1.domB b h,λb h=>by rw[<-e1];exact g1.domE b h,g1.rel⟩,g2,g3.trans e2,g4.trans e3⟩
  rw[Ajq_ hts0 hts1 ht ht2 hi hz hs hrun hg hb]
  congr 3
  simp
 by_cases hq:c/capU=0
 ·
  have hK:oldL ni.size base len s= .some old s1:=by
   have:Nat.beq (Nat.div c capU) 0=true:=by
    have e:Nat.div c capU=0:=hq
    rw[e];rfl
   rw[this]at h1
   exact h1
  have hcc:=VE_ hq
  rcases Rn_ h2 with⟨_,rfl,_⟩|⟨e1,_⟩
  ·unfold oldL at hK
   split at hK
   ·rename_i a
    rcases hv.sl_inv with⟨a2,c2,rfl,ha2,hc,hlen⟩|⟨_,q1,_⟩
    ·rcases hc with⟨_,rfl⟩|⟨q1,_⟩
     ·obtain⟨l',g1,g2,g3,g4⟩:=E0 _ hK hr ha2
      have hol:old.length=len*ni.size:=by rw[g3.1,g1]
      have hrun:=run_loadCells_list (P:=E.P) w.drew a2 l' (λj v e=>by have:=g2 j v e;simpa using this)
      rw[g1]at hrun
      exact fin (r0:=r) rfl (by rw[<-hol,List.take_length];exact g3) g1 (by simpa [Builtin.firstCells]using hrun) J (by rw[g4.1];exact hr) g4.2.1 g4.2.2.1 g4.2.2.2
     ·exact absurd hq q1
    ·exact absurd hq q1
   ·obtain⟨rfl,rfl⟩:=Aq hK
    cases hv
    exact fin (r0:=r) (olds:=[]) rfl (by simpa using VRs.nil) am (by simp[Builtin.firstCells]) J hr rfl rfl rfl
  ·exact absurd hq e1
 ·
  have h1':oldL ni.size base (c%capU) s= .some old s1:=by
   have:Nat.beq (Nat.div c capU) 0=false:=by
    cases e:Nat.beq (Nat.div c capU) 0 with
    |true=>exact absurd (Nat.eq_of_beq_eq_true e) hq
    |false=>rfl
   rw[this]at h1
   exact h1
  have hlb:0<c%capU:=by
   rcases c4 with c4|c4
   ·exact BF c4
   ·have:c=0:=Nat.eq_of_beq_eq_true c4
    rw[this,Nat.zero_div]at hq
    exact absurd rfl hq
  rcases Rn_ h2 with⟨e1,_⟩|⟨_,qs,u1,uq,uf,uu2,u3,uu4,u5,u6⟩
  ·exact absurd e1 hq
  ·cases base with
   |none=>
    cases hv
    exact absurd (Nat.zero_div _) hq
   |some a=>
    rcases hv.sl_inv with⟨a2,cc,rfl,ha2,hc,hlen⟩|⟨_,_,q2,_⟩
    ·rcases hc with⟨e1,_⟩|⟨_,k,k1,k2,k3,k4,k5⟩
     ·exact absurd e1 hq
     ·have hsz:k.sz=ni.size:=k2.trans uu2
      have h1'':rdL (c%capU*ni.size) a s= .some old s1:=h1'
      obtain⟨l',g1,g2,g3,g4⟩:=E0 _ h1'' hr ha2
      have hmem0:=QM _ h1''
      change T.get s1.mem (c/capU/1024)=_ at u1
      rw[g4.1]at u1
      obtain⟨k',t1,t2',t3,t4,t5,t6⟩:=hr.tok _ _ u1
      rw[k1]at t1
      cases t1
      have hr2:Rel w0 r s2.mem w:=hr.lessTok λloc c e=>by
       rcases(u6 loc c e).1 with⟨_,h⟩|⟨_,h⟩
       ·exact .inr ⟨_,h,J⟩
       ·rw[g4.1]at h;exact .inl h
      have hlm:len*ni.size<=c%capU*ni.size:=Nat.mul_le_mul_right _ hlen
      have hol:(l'.take (len*ni.size)).length=len*ni.size:=by rw[List.length_take,g1];omega
      have hrun:=run_loadCells_list (P:=E.P) w.drew a2 (l'.take (len*ni.size)) (λj v e=>by
       rw[List.getElem?_take]at e
       split at e
       ·have:=g2 j v e;simpa using this
       ·cases e)
      rw[hol]at hrun
      by_cases hroom:len+n<=cc
      ·obtain⟨b0,o0,bb,d,rfl,rfl,hblk⟩:=ha2
       subst k4
       have hmem: ∀j,j<c%capU*ni.size-> ∃v,T.get s.mem (b0+o0+j)=some (.C b0 v):=λj hj=>by
        obtain⟨v,q⟩:=hmem0 j hj
        rcases q with q|q
        ·exact⟨v,q⟩
        ·exact absurd (hr.oldLt q hblk) (Nat.not_lt_of_le t3)
       have hcell: ∀j,j<cc*ni.size-> ∃v',w.cell? ⟨k.b,o0+d+j,none⟩=some v'/\w.frozen? ⟨k.b,o0+d+j,none⟩=false:=by
        intro j hj
        by_cases hj1:j<c%capU*ni.size
        ·obtain⟨v1,q⟩:=hmem j hj1
         change T.get s.mem (b0+o0+j)=some (.C b0 v1)at q
         rw[Nat.add_assoc]at q
         obtain⟨v',q1,_,q3⟩:=hr.load q hblk
         rw[show o0+d+j=o0+j+d by omega]
         exact⟨v',q1,q3⟩
        ·have hcm:cc*ni.size=c%capU*ni.size+k.e*ni.size:=by rw[k3,Nat.add_mul]
         obtain⟨v',y1,y2,_⟩:=t5 (j-c%capU*ni.size) (by rw[hsz];omega)
         rw[hsz]at k5
         change o0+d+_=_ at k5
         rw[<-k5,show o0+d+c%capU*ni.size+(j-c%capU*ni.size)=o0+d+j by omega]at y1 y2
         exact⟨v',y1,y2⟩
       have hnl':news'.length=n*ni.size:=by rw[<-hn.1];exact hnl
       have hcm2:(len+n)*ni.size<=cc*ni.size:=Nat.mul_le_mul_right _ hroom
       rw[Nat.add_mul]at hcm2
       have hcell2: ∀j,j<news'.length-> ∃v',w.cell? ⟨k.b,o0+d+len*ni.size+j,none⟩=some v'/\w.frozen? ⟨k.b,o0+d+len*ni.size+j,none⟩=false:=by
        intro j hj
        have:=hcell (len*ni.size+j) J
        rw[<-Nat.add_assoc]at this
        exact this
       have hst:(storeCells ((⟨k.b,o0+d,none⟩:Addr).add (len*ni.size)) news').run E.P w= .ok () (w.setCells k.b (o0+d+len*ni.size) news'):=by
        rw[Ea]
        refine run_storeCells_cells k.b _ news' 0 w (λj hj=> ?_) (λj hj=> ?_) (λv hv=> ?_)
        ·obtain⟨v',q,_⟩:=hcell2 j hj;rw[Nat.add_zero,q];rfl
        ·obtain⟨v',_,q⟩:=hcell2 j hj;rw[Nat.add_zero];exact q
        ·rw[Za_]
         obtain⟨i,hi,rfl⟩:=List.getElem_of_mem hv
         have hi':i<news.length:=by rw[hn.1];exact hi
         have:=hn.2 i _ _ (List.getElem?_eq_getElem hi') (List.getElem?_eq_getElem hi)
         rw[this.oneCell]
         exact List.all_eq_true.1 c6 _ (List.getElem_mem hi')
       have hno: ∀loc b v d',T.get s2.mem loc=some (.C b v)->r.blk b=some (k.b,d')->loc-b+d'<o0+d:=by
        intro loc b v d' e1 e2
        obtain⟨x1,x2⟩:=u6 loc _ e1
        have x3:=x2 _ rfl
        rcases x1 with⟨_,x1⟩|⟨_,x1⟩
        ·cases x1
        ·rw[g4.1]at x1
         have q:=t6 _ _ _ _ x1 e2
         rw[hsz]at k5
         change o0+d+_=_ at k5
         rcases Nat.lt_or_ge (loc-b+d') (o0+d)with q2|q2
         ·exact q2
         ·exfalso
          obtain⟨v1,q3⟩:=hmem (loc-b+d'-(o0+d)) J
          change T.get s.mem (b0+o0+_)=some (.C b0 v1)at q3
          have q4:=hr.sep _ _ _ _ _ _ _ _ _ x1 q3 e2 hblk J
          apply x3
          change b0+o0<=loc/\loc<b0+o0+c%capU*ni.size
          omega
       have htk: ∀t2 sz k2,T.get s2.mem t2=some (.O (.tok false sz))->r.ext t2=some k2->k2.b≠k.b:=by
        intro t2 sz k2' e1 e2 heq
        rcases(u6 t2 _ e1).1 with⟨_,x1⟩|⟨x0,x1⟩
        ·cases x1
        ·rw[g4.1]at x1
         exact x0 (hr.sepT _ _ _ _ _ _ x1 u1 e2 k1 heq)
       have hr3:Rel w0 r s2.mem (w.setCells k.b (o0+d+len*ni.size) news'):=hr2.setFrees t3 htk news' _ (λj hj=>by obtain⟨v',q,_⟩:=hcell2 j hj;rw[q];rfl) (λloc b v d' e1 e2=>by have:=hno _ _ _ _ e1 e2;omega)
       have hin:=World.cell?_setCells_in k.b news' (o0+d+len*ni.size) w (λj hj=>by obtain⟨v',q,_⟩:=hcell2 j hj;rw[q];rfl)
       have hout: ∀p,p<o0+d+len*ni.size\/o0+d+len*ni.size+news'.length<=p->(w.setCells k.b (o0+d+len*ni.size) news').cell? ⟨k.b,p,none⟩=w.cell? ⟨k.b,p,none⟩:=λp hp=>World.cell?_setCells_out k.b news' _ w ⟨k.b,p,none⟩ λ_ _=>hp
       obtain⟨r',f1,f2,f3,f4⟩:=ET_ (cap':=cc) (bb:=k.b) (o:=o0+d) hr3 h3 h4 (IC hs1).symm h5 (by rw[u3,g4.2.1];exact hf) ((g3.take (len*ni.size)).append hn) (by rw[List.length_append,(g3.take (len*ni.size)).1,hol,hnl,<-Nat.add_mul]) hs0 hs1 hnu hroom t3
        (by have:=hr3.dom _ _ _ hblk;exact this.2) (λi v e=>by
         rw[List.getElem?_append]at e
         split at e
         ·rename_i hi
          rw[hol]at hi
          rw[hout _ (.inl J)]
          rw[List.getElem?_take,if_pos hi]at e
          have:=g2 i v e
          rw[Ea]at this
          exact this
         ·rename_i hi
          rw[hol]at e hi
          obtain⟨hi2,rfl⟩:=List.getElem?_eq_some_iff.1 e
          have:=hin _ hi2
          rw[show o0+d+len*ni.size+(i-len*ni.size)=o0+d+i by omega]at this
          exact this) (λj hj=>by
         obtain⟨v',q1,q2⟩:=hcell j hj
         by_cases hj2:o0+d+j<o0+d+len*ni.size\/o0+d+len*ni.size+news'.length<=o0+d+j
         ·exact⟨v',by rw[hout _ hj2];exact q1,by rw[World.frozen?_setCells];exact q2⟩
         ·have hj3:j-len*ni.size<news'.length:=J
          have:=hin _ hj3
          rw[show o0+d+len*ni.size+(j-len*ni.size)=o0+d+j by omega]at this
          exact⟨_,this,by rw[World.frozen?_setCells];exact q2⟩) hno htk
        (λh=>⟨λj v h1 h2 h3=>by
         have hf1:=(LF hs1 h).1
         have hcm:cc*ni.size=c%capU*ni.size+k.e*ni.size:=by rw[k3,Nat.add_mul]
         have hlm2:c%capU*ni.size<=(len+n)*ni.size:=Nat.mul_le_mul_right _ J
         rw[hout _ (.inr (by rw[hnl'];rw[Nat.add_mul]at h1;omega))]at h3
         obtain⟨v',y1,y2,y3⟩:=t5 (j-c%capU*ni.size) (by rw[hsz];omega)
         rw[hsz]at k5
         change o0+d+_=_ at k5
         rw[<-k5,show o0+d+c%capU*ni.size+(j-c%capU*ni.size)=o0+d+j by omega]at y1
         rw[h3]at y1
         cases y1
         exact(y3 J).1,by
         have hf1:=(LF hs1 h).1
         have hcm:cc*ni.size=c%capU*ni.size+k.e*ni.size:=by rw[k3,Nat.add_mul]
         have hlt:(c%capU+1)*ni.size<=cc*ni.size:=Nat.mul_le_mul_right _ J
         rw[Nat.add_mul]at hlt
         obtain⟨v',_,_,y3⟩:=t5 0 (by rw[hsz];omega)
         have y4:=(y3 J).2
         rw[hsz]at y4 k5
         change o0+d+_=_ at k5
         omega⟩)
       have e1:s2.next=s.next:=u3.trans g4.2.1
       exact⟨_,_,r',QW hts0 hts1 ht ht2 hi hz hs hroom hst,⟨f1.le,by rw[<-e1];exact f1.nxt,λb h=>by rw[<-e1];exact f1.domB b h,λb h=>by rw[<-e1];exact f1.domE b h,f1.rel⟩,f2,f3.trans (uu4.trans g4.2.2.1),f4.trans (u5.trans g4.2.2.2)⟩
      ·exact fin (r0:=r) rfl (g3.take _) hol (by simpa [Builtin.firstCells]using hrun) J hr2 (u3.trans g4.2.1) (uu4.trans g4.2.2.1) (u5.trans g4.2.2.2)
    ·omega
end
section
variable {E:Env}{w0 w:World}{r:Inj}{t t2:Nat}
theorem XO_ {z:List Value}(h:DL z=true){v:Value}(hv:v∈z): ∃m,v= .int .u8 m:=by
 unfold DL at h
 split at h
 ·rw[List.mem_singleton]at hv
  exact⟨_,hv⟩
 ·cases h
theorem Ahn_ {z:List Value}(h:DL z=true):z.length=1:=by
 unfold DL at h
 split at h
 ·rfl
 ·cases h
theorem Yields.before {s s1 s':St}{v:Value}{m:Sem Value}(hs:Same s s1)(h:Yields E w0 r s1 s' v w m):Yields E w0 r s s' v w m:=by
 obtain⟨v',w',r',h1,h2,h3,h4,h5⟩:=h
 exact⟨v',w',r',h1,⟨h2.le,by rw[<-hs.2.1];exact h2.nxt,λb h=>by rw[<-hs.2.1];exact h2.domB b h,λb h=>by rw[<-hs.2.1];exact h2.domE b h,h2.rel⟩,h3,h4.trans hs.2.2.1,h5.trans hs.2.2.2⟩
theorem Aju_ {ts:Array TypeId}{ty:TypeId}{x x' y y' v:Value}{s s':St}(hts0:ts[0]?=some t)(hts1:ts[1]?=some t2)(he:EnvTy E)(h:CK E t t2 y x s= .some v s')(hr:Rel w0 r s.mem w)(hf:AU r s.next s'.next)(hy:VR r y y')(hx:VR r x x'):
  Yields E w0 r s s' v w (Builtin.append_ ts ty #[y',x']):=by
 obtain⟨i,s1,h1,h2⟩:=bind_some h
 obtain⟨hi,rfl⟩:=AW h1 he
 obtain⟨i2,s1,h3,h4⟩:=bind_some h2
 obtain⟨hi2,rfl⟩:=AW h3 he
 have ht:=hi.und
 have ht2:=hi2.und
 generalize i.u=u at h4 ht
 split at h4
 ·rename_i e base len c
  obtain⟨ie,s1,h5,h6⟩:=bind_some h4
  obtain⟨hie,rfl⟩:=AW h5 he
  obtain⟨n,s1,h7,h8⟩:=bind_some h6
  obtain⟨news,s2,h9,h10⟩:=bind_some h8
  obtain⟨ni,q1,q2,q3,z,q4,q5⟩:=hie.info
  obtain⟨g1,g2,news',g3,g4⟩:=Asz_ (E:=E) h7 h9 hr hx hie q5
  have hzs:z.cells.size=ni.size:=by rw[<-Array.length_toList,q5,hie.len,q2]
  rw[<-q2,<-q3]at g4
  rw[En]at h10
  have hr2:Rel w0 r s2.mem w:=by rw[g1.1];exact hr
  refine Yields.before g1 ?_
  by_cases hle:Nat.ble (Nat.add len n) (Nat.mod c capU)=true
  ·rw[if_pos hle,<-q2]at h10
   exact Aed_ hts0 hts1 ht ht2 q1 q4 g4 g3 g2 hy h10 (Nat.le_of_ble_eq_true hle) hr2
  ·rw[if_neg hle,<-q2,<-q3]at h10
   exact Asu_ hts0 hts1 ht ht2 q1 q4 hzs (λhg=>⟨λv hv=>XO_ hg (by rw[<-q5];exact hv),by
    have:=Ahn_ hg
    rw[<-hzs,<-Array.length_toList,q5,this]⟩) g4 g3 hy h10 (λhh=>hle (Nat.ble_eq_true_of_le hh)) hr2 (by rw[g1.2.1];exact hf)
 ·cases h4
end
section
variable {w0 w:World}{r:Inj}{mem:T Cell}
def World.setO (w:World)(b:Nat)(o:Obj):World:={w with heap:=w.heap.setIfInBounds b o}
theorem RE (b:Nat)(o:Obj):(World.setO w b o).heap.size=w.heap.size:=by simp[World.setO]
theorem Auh_ {b:Nat}(h:b<w.heap.size)(o:Obj):(World.setO w b o).heap[b]?=some o:=by simp[World.setO,h]
theorem HI {b c:Nat}(h:c≠b)(o:Obj):(World.setO w b o).heap[c]?=w.heap[c]?:=by
 simp only[World.setO]
 exact Array.getElem?_setIfInBounds_ne (λe=>h e.symm)
theorem Fe_ {b:Nat}{o:Obj}(a:Addr)(h:a.block≠b):(World.setO w b o).cell? a=w.cell? a:=by
 unfold World.cell?
 rw[HI h]
theorem CC_ {b:Nat}{o:Obj}(a:Addr)(h:a.block≠b):(World.setO w b o).frozen? a=w.frozen? a:=by
 unfold World.frozen?
 rw[HI h]
theorem Rel.storeO (h:Rel w0 r mem w){l l' d:Nat}{o o2:AObj}{o2':Obj}(hc:T.get mem l=some (.O o))(ht:o.isTok=false)(hb:r.blk l=some (l',d))(ho:OR r o2 o2')(ht2:o2.isTok=false):
  Rel w0 r (T.set mem l (.O o2)) (World.setO w l' o2'):=by
 obtain⟨b1,d1,ow,g1,g2,g3⟩:=h.obj _ _ hc ht
 rw[hb]at g1
 cases g1
 have hlt:=(h.dom _ _ _ hb).2
 have old: ∀loc c,T.get (T.set mem l (.O o2)) loc=some c->(loc=l/\c= .O o2)\/(loc≠l/\T.get mem loc=some c):=by
  intro loc c e
  rw[T.get_set]at e
  split at e
  ·cases e;exact .inl ⟨by assumption,rfl⟩
  ·exact .inr ⟨by assumption,e⟩
 have oldC: ∀loc b v,T.get (T.set mem l (.O o2)) loc=some (.C b v)->T.get mem loc=some (.C b v):=by
  intro loc b v e
  rcases old _ _ e with⟨_,e⟩|⟨_,e⟩
  ·cases e
  ·exact e
 have oldT: ∀loc u sz,T.get (T.set mem l (.O o2)) loc=some (.O (.tok u sz))->T.get mem loc=some (.O (.tok u sz)):=by
  intro loc u sz e
  rcases old _ _ e with⟨_,e⟩|⟨_,e⟩
  ·cases e;cases ht2
  ·exact e
 have anyO: ∀loc o1,T.get (T.set mem l (.O o2)) loc=some (.O o1)->o1.isTok=false-> ∃o3,T.get mem loc=some (.O o3)/\o3.isTok=false:=by
  intro loc o1 e t1
  rcases old _ _ e with⟨e1,_⟩|⟨_,e⟩
  ·rw[e1];exact⟨o,hc,ht⟩
  ·exact⟨o1,e,t1⟩
 have cellNe: ∀b' off v,w.cell? ⟨b',off,none⟩=some v->b'≠l':=by
  intro b' off v e hx
  subst hx
  unfold World.cell? at e
  rw[g2]at e
  cases ow with
  |cells c t f=>exact g3.cells
  |_=>cases e
 have hnew:=h.olds.newO _ _ _ _ hc ht hb
 refine⟨?_,λx y z e=>by rw[RE];exact h.dom x y z e, ?_, ?_, ?_, ?_, ?_, ?_,h.known,λx n e=>by
  obtain⟨p,q⟩:=h.szs x n (oldT _ _ _ e)
  refine⟨p,q.to (Inj.le_refl r) λb' q1 q2=> ?_⟩
  have hne:b'≠l':=by
   intro hx
   subst hx
   obtain⟨c,e,lo,hi,q3,_⟩:=q2
   rw[g2]at q3
   cases q3
   exact g3.cells
  exact q2.heap (HI hne _),
  h.oldsTo (Inj.le_refl r) λloc c e=>by
   rcases old _ _ e with⟨e1,e⟩|⟨_,e⟩
   ·exact .inr (.inr (.inr ⟨_,_,_,e,ht2,by rw[e1];exact hb,hnew⟩))
   ·exact .inl e⟩
 ·have hlo:=hnew
  exact h.below.trans ⟨rfl,rfl,rfl,by rw[RE];exact Nat.le_refl _,λk hk=>HI J _⟩
 ·intro loc b v e
  obtain⟨b2,d2,v2,k1,k2,k3,k4,k5⟩:=h.cell _ _ _ (oldC _ _ _ e)
  have hne:=cellNe _ _ _ k3
  exact⟨b2,d2,v2,k1,k2,by rw[Fe_ _ hne];exact k3,k4,by rw[CC_ _ hne];exact k5⟩
 ·intro l1 l2 b1 v1 b2 v2 bb d1 d2 e1 e2
  exact h.sep _ _ _ _ _ _ _ _ _ (oldC _ _ _ e1) (oldC _ _ _ e2)
 ·intro loc ob e t1
  rcases old _ _ e with⟨e1,e2⟩|⟨hne,e⟩
  ·cases e2
   subst e1
   exact⟨l',d,o2',hb,Auh_ hlt _,ho⟩
  ·obtain⟨b2,d2,o',k1,k2,k3⟩:=h.obj _ _ e t1
   refine⟨b2,d2,o',k1, ?_,k3⟩
   rw[HI]
   ·exact k2
   ·intro hx
    subst hx
    exact hne (h.sepO _ _ _ _ _ _ _ e hc t1 ht k1 hb)
 ·intro l1 l2 o1 o3 bb d1 d2 e1 e2 t1 t2 r1 r2
  obtain⟨p1,q1,q2⟩:=anyO _ _ e1 t1
  obtain⟨p2,q3,q4⟩:=anyO _ _ e2 t2
  exact h.sepO _ _ _ _ _ _ _ q1 q3 q2 q4 r1 r2
 ·intro t sz e
  obtain⟨k,k1,k2,k3,k4,k5,k6⟩:=h.tok _ _ (oldT _ _ _ e)
  refine⟨k,k1,k2,k3,by rw[RE];exact k4,λj hj=> ?_,λloc b v d e1=>k6 _ _ _ _ (oldC _ _ _ e1)⟩
  obtain⟨v',p1,p2⟩:=k5 j hj
  have hne:=cellNe _ _ _ p1
  exact⟨v',by rw[Fe_ _ hne];exact p1,by rw[CC_ _ hne];exact p2⟩
 ·intro t1 t2 s1 s2 k1 k2 e1 e2
  exact h.sepT _ _ _ _ _ _ (oldT _ _ _ e1) (oldT _ _ _ e2)
theorem YE_ (w:World)(o:Obj):(w.alloc o).heap[w.heap.size]?=some o:=by
 show(w.heap.push o)[w.heap.size]?=some o
 rw[Array.getElem?_push,if_pos rfl]
end
theorem CU_ {w0 w:World}{r:Inj}{l l' d:Nat}{o o2:AObj}{o2':Obj}{s s':St}{u:Unit}(h:wrC l (.O o2) s= .some u s')(hr:Rel w0 r s.mem w)(hc:T.get s.mem l=some (.O o))(ht:o.isTok=false)(hb:r.blk l=some (l',d))(ho:OR r o2 o2')(ht2:o2.isTok=false):
  Goes w0 r s s' r (World.setO w l' o2')/\s'.lim=s.lim/\s'.cx=s.cx:=by
 obtain⟨h1,h2,h3,h4⟩:=FZ h
 exact⟨.of_rel h2 (by rw[h1];exact hr.storeO hc ht hb ho ht2),h3,h4⟩
theorem KS {β:Type}: ∀(l:List UInt8) (K:List Value->β),fBs l K=K (C7 l)
 |[],K=>rfl
 |b::l,K=>by
  have h0:fBs (b::l) K=fN b.toNat λn=>fBs l λvs=>K (.int .u8 (.ofNat n)::vs):=rfl
  rw[h0,AB,KS l]
  rfl
section
variable {E:Env}{w0 w:World}{r:Inj}{t:Nat}
theorem Awb_ (l:List UInt8): ∀v∈C7 l,plain v=true:=λv hv=>by
 obtain⟨b,_,rfl⟩:=List.mem_map.1 hv
 rfl
theorem Avv_ {b:ByteArray}{v:Value}{s s':St}{e:TypeId}(h:Gl b.data.toList s= .some v s')(hr:Rel w0 r s.mem w)(hf:AU r s.next s'.next):
  ∃v' r',v'= .slice (some ⟨w.heap.size,0,none⟩) b.size (grownCap w b.size 0 e)/\Goes w0 r s s' r' (Lib.bytesWorld w e b)/\VR r' v v'/\s'.lim=s.lim/\s'.cx=s.cx:=by
 unfold Gl at h
 rw[KS,AB]at h
 unfold rowN at h
 obtain⟨hlt,h⟩:=Bw h
 obtain⟨bl,s1,e1,h⟩:=bind_some h
 obtain⟨u,s2,e2,h⟩:=bind_some h
 have hlen:(C7 b.data.toList).length=b.size:=by
  show(List.map _ _).length=_
  rw[List.length_map]
  exact Array.length_toList
 have hge:b.size<=grownCap w b.size 0 e:=grownCap_ge _ _ _ _
 have hr':Rel w0 r s.mem (Lib.bytesWorld w e b):=hr.beyond ⟨rfl,rfl,rfl,by rw[Lib.bytesWorld_size];exact Nat.le_succ _,λk hk=>Lib.bytesWorld_at_old w e b k hk⟩
 have hcs:(Lib.bytesCells w e b).size=grownCap w b.size 0 e:=by
  show(Array.map _ _++Array.replicate _ _).size=_
  rw[Array.size_append,Array.size_map,Array.size_replicate]
  show b.size+_=_
  omega
 have cellat: ∀j,(Lib.bytesWorld w e b).cell? ⟨w.heap.size,0+j,none⟩=(Lib.bytesCells w e b)[j]?:=λj=>by
  rw[Nat.zero_add]
  simp[World.cell?,Lib.bytesWorld_at_new]
 obtain⟨r',k1,k2,k3,k4⟩:=ET_ (need:=(C7 b.data.toList).length) (size:=1) (cap':=grownCap w b.size 0 e) (bb:=w.heap.size) (o:=0) (vs':=C7 b.data.toList) hr' e1 e2 rfl h hf (Fr (Awb_ _)) (by rw[Nat.mul_one]) al al (BF hlt)
  (by rw[hlen];exact hge) hr.below.size (by rw[Lib.bytesWorld_size];exact Nat.lt_succ_self _)
  (λi x hx=>by
   have hi:i<(C7 b.data.toList).length:=(List.getElem?_eq_some_iff.1 hx).1
   rw[cellat i]
   have h1:(Lib.bytesCells w e b)[i]?=(b.data.map λb=>Value.int .u8 b.toNat)[i]?:=Array.getElem?_append_left (by rw[Array.size_map];rw[hlen]at hi;exact hi)
   rw[h1,<-hx]
   show _=(List.map _ _)[i]?
   rw[List.getElem?_map,Array.getElem?_map]
   simp)
  (λj hj=>by
   rw[Nat.mul_one]at hj
   have hj':j<(Lib.bytesCells w e b).size:=by rw[hcs];exact hj
   refine⟨(Lib.bytesCells w e b)[j],by rw[cellat j];exact Array.getElem?_eq_getElem hj', ?_⟩
   rw[Nat.zero_add]
   simp[World.frozen?,Lib.bytesWorld_at_new]
   omega)
  (λloc b v d e1 e2=>absurd (hr.dom _ _ _ e2).2 (Nat.lt_irrefl _))
  (λt2 sz k2 e1 e2 hk=>by
   obtain⟨k,g1,_,_,g2,_⟩:=hr.tok _ _ e1
   rw[g1]at e2
   cases e2
   rw[hk]at g2
   exact absurd g2 (Nat.lt_irrefl _))
  (λh=>absurd h al)
 rw[hlen]at k2
 exact⟨_,r',rfl,k1,k2,k3,k4⟩
theorem Aqz_ {d n c:Nat}{a:Addr}{x' v:Value}{s s':St}(he:EnvTy E)(h:Eu E t d a n c s= .some v s')(hr:Rel w0 r s.mem w)(hx:VR r (.slice (some a) n c) x'):Yields E w0 r s s' v w (convert t d x'):=by
 unfold Eu at h
 obtain⟨is,s1,h1,h2⟩:=bind_some h
 obtain⟨his,rfl⟩:=AW h1 he
 obtain⟨id,s1,h3,h4⟩:=bind_some h2
 obtain⟨hid,rfl⟩:=AW h3 he
 generalize hu:is.u=u at h4
 generalize hu2:id.u=u2 at h4
 split at h4
 ·cases h4
 ·exact Ri he h4 hr hx
theorem Yq_ {d:Nat}{x x' v:Value}{s s':St}(he:EnvTy E)(h:Cy E t d x s= .some v s')(hr:Rel w0 r s.mem w)(hf:AU r s.next s'.next)(hx:VR r x x'):Yields E w0 r s s' v w (convert t d x'):=by
 unfold Cy at h
 split at h
 ·rename_i b
  unfold GF at h
  obtain⟨is,s1,h1,h2⟩:=bind_some h
  obtain⟨his,rfl⟩:=AW h1 he
  obtain⟨id,s1,h3,h4⟩:=bind_some h2
  obtain⟨hid,rfl⟩:=AW h3 he
  generalize hu2:id.u=u2 at h4
  split at h4
  ·rename_i e
   obtain⟨ie,s1,h5,h6⟩:=bind_some h4
   obtain⟨hie,rfl⟩:=AW h5 he
   generalize hu3:ie.u=u3 at h6
   split at h6
   ·have e1:=his.und
    have e2:=hid.und
    have e3:=hie.und
    rw[hu2]at e2;rw[hu3]at e3
    obtain⟨v',r',rfl,g1,g2,g3,g4⟩:=Avv_ (e:=e) h6 hr hf
    cases hx
    exact⟨_,_,r',Lib.run_convert_string_bytes w t d e b e1 e2 e3,g1,g2,g3,g4⟩
   ·cases h6
  ·exact Ri he h4 hr hx
 ·exact Aqz_ he h hr hx
 ·exact Ri he h hr hx
end
theorem Cq {α β:Type}{P:Program}(x:Sem α)(f:α->Sem β):semP P (x >>= f)=(semP P x).bind λa=>semP P (f a):=by
 show semP P (Sem.bind x f)=_
 induction x with
 |pure a=>rfl
 |program k ih=>exact ih P
 |_=>rfl
theorem Ef {α:Type}{P:Program}(a:α):semP P (pure a:Sem α)=some a:=rfl
section
variable {E:Env}{w0 w:World}{r:Inj}{t:Nat}
theorem AaX_ {l:Nat}{s s':St}{p:List MapEntry×Nat}(h:FE l s= .some p s'):T.get s.mem l=some (.O (.map p.1 p.2))/\Same s s':=by
 obtain⟨c,s1,h1,h2⟩:=bind_some h
 obtain⟨h3,h4⟩:=F7 h1
 cases c with
 |C a b=>cases h2
 |O o=>
  cases o with
  |map es n=>
   obtain⟨rfl,rfl⟩:=Aq h2
   exact⟨h3,h4⟩
  |_=>cases h2
theorem Rel.mapObj {mem:T Cell}(h:Rel w0 r mem w){l l' d n:Nat}{es:List MapEntry}(hc:T.get mem l=some (.O (.map es n)))(hb:r.blk l=some (l',d)): ∃es',w.heap[l']?=some (.map es' n)/\EsR r es es'.toList:=by
 obtain⟨b',d',o',g1,g2,g3⟩:=h.obj _ _ hc rfl
 rw[hb]at g1
 cases g1
 unfold OR at g3
 cases o' with
 |map es' c'=>exact⟨es',by rw[g2,g3.1],g3.2⟩
 |_=>exact g3.elim
theorem VR.map_inv {m:Option Nat}{v':Value}(h:VR r (.map m) v'):(m=none/\v'= .map none)\/ ∃l l' d,m=some l/\v'= .map (some l')/\r.blk l=some (l',d):=by
 cases h with
 |mapNil=>exact .inl ⟨rfl,rfl⟩
 |map e=>exact .inr ⟨_,_,_,rfl,rfl,e⟩
theorem Aoq_ {P:Program}{l:Nat}{es:Array MapEntry}{n:Nat}(h:w.heap[l]?=some (.map es n)):(getObj l).run P w= .ok (.map es n) w:=by simp[getObj,Sem.run,h]
theorem AfH_ {x x' v:Value}{s s':St}{ts:Array TypeId}{ty:TypeId}{kt et:TypeId}(hts:ts[0]?=some t)(hu: ∀w,(underlying t).run E.P w= .ok (.map kt et) w)(h:Gq x s= .some v s')(hr:Rel w0 r s.mem w)(hx:VR r x x'):Yields E w0 r s s' v w (Builtin.len_ ts ty #[x']):=by
 cases x with
 |map m=>
  rcases hx.map_inv with⟨rfl,rfl⟩|⟨l,l',d,rfl,rfl,hb⟩
  ·obtain⟨rfl,rfl⟩:=Gg (show pN 0 s= .some v s' from h)
   refine .pure ?_ hr (.int _ _)
   simp[Builtin.len_,hts,hu,goInt]
  ·obtain⟨p,s2,h2,h⟩:=bind_some (show M.bind (FE l) (λp=>pN p.1.length) s= .some v s' from h)
   obtain⟨g1,g2⟩:=AaX_ h2
   obtain⟨es',g3,g4⟩:=hr.mapObj g1 hb
   obtain⟨rfl,rfl⟩:=Gg h
   refine .same ?_ g2 hr (.int _ _)
   have:=g4.1
   rw[Array.length_toList]at this
   simp[Builtin.len_,hts,hu,goInt,Aoq_ g3,this]
 |_=>cases h
theorem AdU_ {x x' v:Value}{s s':St}{ts:Array TypeId}{ty:TypeId}(hts:ts[0]?=some t)(he:EnvTy E)(h:aLen E t x s= .some v s')(hr:Rel w0 r s.mem w)(hx:VR r x x'):Yields E w0 r s s' v w (Builtin.len_ ts ty #[x']):=by
 obtain⟨i,s1,h1,h2⟩:=bind_some h
 obtain⟨hi,rfl⟩:=AW h1 he
 have hund:=hi.run_und (w:=w)
 have hall: ∀w,(underlying t).run E.P w= .ok i.u w:=λw=>hi.run_und
 generalize i.u=u at h2 hund hall
 split at h2
 ·obtain⟨rfl,rfl⟩:=Gg h2
  cases hx<;>exact .pure (v':= .int .i64 _) (by simp[Builtin.len_,hts,hund,goInt]) hr (.int _ _)
 ·obtain⟨rfl,rfl⟩:=Gg h2
  cases hx
  exact .pure (v':= .int .i64 _) (by simp[Builtin.len_,hts,hund,goInt]) hr (.int _ _)
 ·exact AfH_ hts hall h2 hr hx
 ·obtain⟨rfl,rfl⟩:=Aq h2
  cases hx with
  |complex e=>
   obtain⟨p,n,c,rfl⟩:=e
   exact .pure (v':= .int .i64 n) (by simp[Builtin.len_,hts,hund,goInt]) hr (.complex ⟨.i64,_,rfl,rfl⟩)
 ·obtain⟨rfl,rfl⟩:=Aq h2
  cases hx with
  |complex e=>
   obtain⟨_,p,n,c,rfl⟩:=e
   exact .pure (v':= .int .i64 n) (by simp[Builtin.len_,hts,hund,goInt]) hr (.complex ⟨.i64,_,rfl,rfl⟩)
 ·obtain⟨rfl,rfl⟩:=Aq h2
  cases hx with
  |complex e=>
   obtain⟨p,rfl⟩:=e
   exact .pure (v':= .int .i64 p.size) (by simp[Builtin.len_,hts,hund,goInt]) hr (.complex ⟨.i64,_,rfl,rfl⟩)
 ·cases h2
end
def TmR (r:Inj)(glob:Nat)(tm:T Value)(tmps:Array Value):Prop:= ∀t v,T.get tm t=some v->Nat.testBit glob t=true/\ ∃v',tmps[t]?=some v'/\VR r v v'
structure SlR (r:Inj)(U:Nat->Prop)(ds:List Nat)(rho:Rho)(tm:T Value)(tmps:Array Value):Prop where
 loc: ∀(i d:Nat) (v:Value),U d->ds[i]?=some d->rho[i]?=some v-> ∃v',tmps[d]?=some v'/\VR r v v'
 tm: ∀(t:Nat) (v:Value),U t->T.get tm t=some v-> ∃v',tmps[t]?=some v'/\VR r v v'
theorem TmR.mono {r r':Inj}(h:r.le r'){g:Nat}{tm:T Value}{tmps:Array Value}(k:TmR r g tm tmps):TmR r' g tm tmps:=λt v e=>let ⟨q,v',a,b⟩:=k t v e;⟨q,v',a,b.mono h⟩
theorem SlR.mono {r r':Inj}(h:r.le r'){U:Nat->Prop}{ds:List Nat}{rho:Rho}{tm:T Value}{tmps:Array Value}(k:SlR r U ds rho tm tmps):SlR r' U ds rho tm tmps:=
 ⟨λi d v u a b=>let ⟨v',p,q⟩:=k.loc i d v u a b;⟨v',p,q.mono h⟩,λt v u a=>let ⟨v',p,q⟩:=k.tm t v u a;⟨v',p,q.mono h⟩⟩
theorem Tv_ (l:Rho):nth0 l=l[0]?:=by cases l<;>rfl
theorem SN: ∀(d:Nat),∃g,nthC d= .mk g/\ ∀l,g l=l[d]?
 |0=>⟨nth0,rfl,Tv_⟩
 |d+1=>by
  obtain⟨g,h1,h2⟩:=SN d
  refine⟨λl=>List.rec (motive:=λ_=>Option Value) none (λ_ r _=>g r) l, ?_,λl=> ?_⟩
  ·show Cl.rec (motive:=λ_=>Cl (Rho->Option Value)) (λg=> .mk λl=>List.rec (motive:=λ_=>Option Value) none (λ_ r _=>g r) l) (nthC d)=_
   rw[h1]
  ·cases l with
   |nil=>rfl
   |cons v l=>exact h2 l
theorem QA {t:Nat}: ∀{ds:List Nat} {n:Nat},Gi t ds=some n->ds[n]?=some t
 |[],n,h=>by cases h
 |d::ds,n,h=>by
  have h0:Bool.rec (motive:=λ_=>Option Nat) (Option.rec (motive:=λ_=>Option Nat) none (λn=>some (Nat.succ n)) (Gi t ds)) (some 0) (Nat.beq d t)=some n:=h
  cases e:Nat.beq d t with
  |true=>
   rw[e]at h0
   cases h0
   rw[<-Nat.eq_of_beq_eq_true e];rfl
  |false=>
   rw[e]at h0
   cases e2:Gi t ds with
   |none=>rw[e2]at h0;cases h0
   |some m=>
    rw[e2]at h0
    cases h0
    have:=QA (ds:=ds) e2
    simpa using this
def Hu {α β:Type}(c:Cl (G α))(ds:List Nat)(us:List Operand)(R:Inj->α->β->Prop)(f:Act->β):Prop:=
 ∃g,c= .mk g/\ ∀r U rho tm a v,SlR r U ds rho tm a.tmps->(∀t,Operand.tmp t∈us->U t)->g rho tm=some v->R r v (f a)
theorem Aee_ (ds:List Nat)(t:Nat):Hu (Sy ds t) ds [.tmp t] VR (λa=>a.eval (.tmp t)):=by
 unfold Sy
 cases e:Gi t ds with
 |none=>
  refine⟨_,rfl,λr U rho tm a v hs hu h=> ?_⟩
  obtain⟨v',h1,h2⟩:=hs.tm t v (hu t am) h
  simp only[Act.eval,Array.getD_eq_getD_getElem?,h1]
  exact h2
 |some d=>
  obtain⟨g,h1,h2⟩:=SN d
  simp only[h1]
  refine⟨_,rfl,λr U rho tm a v hs hu h=> ?_⟩
  rw[h2]at h
  obtain⟨v',h3,h4⟩:=hs.loc d t v (hu t am) (QA e) h
  simp only[Act.eval,Array.getD_eq_getD_getElem?,h3]
  exact h4
theorem BD (ds:List Nat)(x:Operand):Hu (Cp ds x) ds [x] VR (λa=>a.eval x):=by
 cases x with
 |tmp t=>exact Aee_ ds t
 |const v=>
  unfold Cp
  simp only
  cases e:plain v with
  |false=>exact⟨_,rfl,λr U rho tm a v hs hu h=>by cases h⟩
  |true=>exact⟨_,rfl,λr U rho tm a v hs hu h=>by cases h;exact .of_plain e⟩
 |global g=>exact⟨_,rfl,λr U rho tm a v hs hu h=>by cases h⟩
 |func f=>exact⟨_,rfl,λr U rho tm a v hs hu h=>by cases h;exact .func rfl rfl (λi v v' e=>by simp at e) rfl (λi v v' e=>by simp at e)⟩
theorem Er (ds:List Nat): ∀(l:List Operand),Hu (Fk ds l) ds l VRs (λa=>l.map a.eval)
 |[]=>⟨_,rfl,λr U rho tm a v hs hu h=>by cases h;exact .nil⟩
 |x::l=>by
  obtain⟨g,h1,h2⟩:=BD ds x
  obtain⟨g',h3,h4⟩:=Er ds l
  have h0:Fk ds (x::l)=Cl.rec (motive:=λ_=>Cl (G (List Value))) (λg=>Cl.rec (motive:=λ_=>Cl (G (List Value))) (λh=> .mk λr tm=>onO (g r tm) λv=>onO (h r tm) λl=>some (v::l)) (Fk ds l)) (Cp ds x):=rfl
  rw[h0,h1,h3]
  refine⟨_,rfl,λr U rho tm a v hs hu h=> ?_⟩
  obtain⟨y,e1,e2⟩:=EG h
  obtain⟨ys,e3,e4⟩:=EG e2
  cases e4
  exact .cons (h2 r U rho tm a y hs (λt q=>hu t (by simp at q ⊢;simp[q])) e1) (h4 r U rho tm a ys hs (λt q=>hu t (by simp at q ⊢;simp[q])) e3)
theorem Mb (ds:List Nat): ∀(l:List (Nat×Operand)),Hu (KL ds l) ds (l.map (·.2)) PRs (λa=>l.map λp=>(p.1,a.eval p.2))
 |[]=>⟨_,rfl,λr U rho tm a v hs hu h=>by cases h;exact True.intro⟩
 |x::l=>by
  obtain⟨g,h1,h2⟩:=BD ds x.2
  obtain⟨g',h3,h4⟩:=Mb ds l
  have h0:KL ds (x::l)=Cl.rec (motive:=λ_=>Cl (G (List (Nat×Value)))) (λg=>Cl.rec (motive:=λ_=>Cl (G (List (Nat×Value)))) (λh=> .mk λr tm=>onO (g r tm) λv=>onO (h r tm) λl=>some ((x.1,v)::l)) (KL ds l)) (Cp ds x.2):=rfl
  rw[h0,h1,h3]
  refine⟨_,rfl,λr U rho tm a v hs hu h=> ?_⟩
  obtain⟨y,e1,e2⟩:=EG h
  obtain⟨ys,e3,e4⟩:=EG e2
  cases e4
  exact⟨rfl,h2 r U rho tm a y hs (λt q=>hu t (by simp at q ⊢;simp[q])) e1,h4 r U rho tm a ys hs (λt q=>hu t (by simp at q ⊢;simp[q])) e3⟩
theorem LJ (ds:List Nat)(x:Option Operand):Hu (Kv ds x) ds x.toList VRo (λa=>x.map a.eval):=by
 cases x with
 |none=>exact⟨_,rfl,λr U rho tm a v hs hu h=>by cases h;exact True.intro⟩
 |some x=>
  obtain⟨g,h1,h2⟩:=BD ds x
  have h0:Kv ds (some x)=Cl.rec (motive:=λ_=>Cl (G (Option Value))) (λg=> .mk λr tm=>onO (g r tm) λv=>some (some v)) (Cp ds x):=rfl
  rw[h0,h1]
  refine⟨_,rfl,λr U rho tm a v hs hu h=> ?_⟩
  obtain⟨y,e1,e2⟩:=EG h
  cases e2
  exact h2 r U rho tm a y hs (λt q=>hu t (by simp at q ⊢;simp[q])) e1
structure NoPan {α:Type}(m:M α):Prop where
 no: ∀s c s',m s= .pan c s'->False
theorem AG {α:Type}(a:α):NoPan (M.pure a):=⟨λs c s' h=>by cases h⟩
theorem AT {α:Type}:NoPan (aC:M α):=⟨λs c s' h=>by cases h⟩
theorem Fs {α:Type}(x:Option α):NoPan (M.ofOpt x):=⟨λs c s' h=>by cases x<;>cases h⟩
theorem AC {α β:Type}{m:M α}{f:α->M β}(h:NoPan m)(k: ∀a,NoPan (f a)):NoPan (M.bind m f):=⟨λs c s' e=>by
 rcases Pn e with e|⟨a,s1,_,e⟩
 ·exact h.no _ _ _ e
 ·exact(k a).no _ _ _ e⟩
theorem BB {α:Type}(b:Bool){m:M α}(h:NoPan m):NoPan (M.chk b m):=⟨λs c s' e=>by
 cases b with
 |false=>cases e
 |true=>exact h.no _ _ _ e⟩
theorem Fq {α:Type}(b:Bool){m n:M α}(h:NoPan m)(k:NoPan n):NoPan (aO b m n):=by cases b<;>assumption
theorem B2 {α β:Type}(x:Option α){f:α->M β}(k: ∀a,NoPan (f a)):NoPan (M.on x f):=by
 cases x with
 |none=>exact AT
 |some a=>exact k a
theorem E6 {α:Type}(n:Nat){f:Nat->M α}(k: ∀a,NoPan (f a)):NoPan (fN n f):=by rw[AB];exact k _
theorem Fn_ {α:Type}(n:Int){f:Int->M α}(k: ∀a,NoPan (f a)):NoPan (fI n f):=by rw[EB];exact k _
theorem Jq {α:Type}(n:Addr){f:Addr->M α}(k: ∀a,NoPan (f a)):NoPan (fA n f):=by rw[C1];exact k _
theorem ZL_ {α:Type}(v:Value){f:IntKind->Int->M α}{d:M α}(h: ∀k n,NoPan (f k n))(k:NoPan d):NoPan (CJ v f d):=by
 cases v<;>first|exact h _ _|exact k
theorem HJ {α:Type}(b:Bool){m n:M α}(h:NoPan m)(k:NoPan n):NoPan (Bool.rec (motive:=λ_=>M α) m n b):=by cases b<;>assumption
theorem Arr_ {α β:Type}(x:Option α){m:M β}{f:α->M β}(h:NoPan m)(k: ∀a,NoPan (f a)):NoPan (Option.rec (motive:=λ_=>M β) m (λa=>f a) x):=by
 cases x with
 |none=>exact h
 |some a=>exact k a
theorem Gt (loc:Nat):NoPan (rdC loc):= .mk λs c s' h=>by
 obtain⟨mem,next,lim,rd,wr,cx⟩:=s
 unfold rdC at h
 simp only at h
 cases hb:Nat.blt loc next<;>rw[hb]at h
 ·cases h
 ·cases e:T.get mem loc<;>rw[e]at h<;>cases h
theorem Fv (loc:Nat)(x:Cell):NoPan (wrC loc x):= .mk λs c s' h=>by
 obtain⟨mem,next,lim,rd,wr,cx⟩:=s
 unfold wrC at h
 obtain⟨v,l,r,e⟩:=aS mem loc x
 simp only[e]at h
 cases hb:Nat.blt loc next<;>rw[hb]at h<;>cases h
theorem Arx_ (loc:Nat):NoPan (delC loc):= .mk λs c s' h=>by
 obtain⟨mem,next,lim,rd,wr,cx⟩:=s
 unfold delC at h
 simp only at h
 cases hb:Nat.blt loc next<;>rw[hb]at h<;>cases h
theorem Hh (vs:List Value):NoPan (newL vs):= .mk λs c s' h=>by
 obtain⟨mem,next,lim,rd,wr,cx⟩:=s
 have h0:newL vs ⟨mem,next,lim,rd,wr,cx⟩=fN next λb=>fN (Nat.succ (Nat.add b vs.length)) λn=>R.some b (St.mk (layL b vs b mem) n lim rd wr cx):=rfl
 rw[h0,AB,AB]at h
 cases h
theorem Ue (a:Addr):NoPan (rdV a):=by
 obtain⟨b,o,s⟩:=a
 cases s with
 |some x=>exact AT
 |none=>exact AC (Gt _) λc=>Fs _
theorem Ahc_ (a:Addr)(v:Value):NoPan (wrV a v):=by
 obtain⟨b,o,s⟩:=a
 cases s with
 |some x=>exact AT
 |none=>exact AC (Gt _) λc=>BB _ (Fv _ _)
theorem FH: ∀(n:Nat) (a:Addr),NoPan (rdL n a)
 |0,_=>AG _
 |n+1,a=>by
  have h0:rdL (n+1) a=fA a λa=>M.bind (rdV a) λv=>M.bind (rdL n ⟨a.block,Nat.succ a.off,a.spot⟩) λl=>M.pure (v::l):=rfl
  rw[h0]
  exact Jq _ λa=>AC (Ue a) λv=>AC (FH n _) λl=>AG _
theorem Iq: ∀(vs:List Value) (a:Addr),NoPan (wrL vs a)
 |[],_=>AG _
 |v::vs,a=>by
  have h0:wrL (v::vs) a=fA a λa=>M.bind (wrV a v) λ_=>wrL vs ⟨a.block,Nat.succ a.off,a.spot⟩:=rfl
  rw[h0]
  exact Jq _ λa=>AC (Ahc_ a v) λv=>Iq vs _
theorem Mj: ∀(n l:Nat),NoPan (CR n l)
 |0,_=>AG _
 |n+1,l=>by
  have h0:CR (n+1) l=M.bind (delC l) λ_=>CR n (l+1):=rfl
  rw[h0]
  exact AC (Arx_ l) λ_=>Mj n _
theorem Bq (x0:_)(x1:_):NoPan (ti x0 x1):=by
 unfold ti
 repeat' (first|exact Fs _|intro _|split)
theorem IJ (x0:_):NoPan (pV x0):=by
 unfold pV
 repeat' (first|exact AG _|apply BB|apply Fn_|apply ZL_|intro _|split)
theorem Aez_ (x0:_)(x1:_)(x2:_)(x3:_)(x4:_):NoPan (EV x0 x1 x2 x3 x4):=by
 unfold EV
 repeat' (first|exact AG _|exact AT|exact Bq _ _|apply AC|apply B2|intro _|split)
theorem AaS_ (x0:_)(x1:_):NoPan (GS x0 x1):=by
 unfold GS
 repeat' (first|exact AG _|exact AT|intro _|split)
theorem Awn_ (x0:_)(x1:_)(x2:_):NoPan (GM x0 x1 x2):=by
 unfold GM
 repeat' (first|exact AaS_ _ _|apply BB|apply B2|intro _|split)
theorem AdI_ (x0:_)(x1:_)(x2:_)(x3:_)(x4:_)(x5:_)(x6:_):NoPan (AP x0 x1 x2 x3 x4 x5 x6):=by
 unfold AP
 repeat' (first|exact Awn_ _ _ _|exact Aez_ _ _ _ _ _|exact IJ _|apply Fq|apply B2|intro _|split)
theorem Apj_ (x0:_):NoPan (lenOf x0):=by
 unfold lenOf
 repeat' (first|exact AG _|exact AT|intro _|split)
theorem RJ_ (x0:_)(x1:_)(x2:_):NoPan (Es x0 x1 x2):=by
 unfold Es
 repeat' (first|exact AG _|exact Bq _ _|exact FH _ _|exact Ue _|apply AC|apply Fq|intro _|split)
theorem Alb_ (x0:_)(x1:_)(x2:_)(x3:_):NoPan (G6 x0 x1 x2 x3):=by
 unfold G6
 repeat' (first|exact Bq _ _|exact Iq _ _|apply AC|apply BB|intro _|split)
theorem KY (x0:_):NoPan (asA x0):=by
 unfold asA
 repeat' (first|exact AG _|exact AT|intro _|split)
theorem JV (x0:_)(x1:_)(x2:_):NoPan (bnd x0 x1 x2):=by
 unfold bnd
 repeat' (first|exact AG _|exact AT|apply BB|intro _|split)
theorem X3 (x0:_):NoPan (ptrA x0):=by
 unfold ptrA
 repeat' (first|exact AG _|apply Jq|intro _|split)
theorem Ij (x0:_)(x1:_)(x2:_):NoPan (pSl x0 x1 x2):=by
 unfold pSl
 repeat' (first|exact AG _|apply E6|apply Jq|intro _|split)
theorem K7 (x0:_):NoPan (pN x0):=by
 unfold pN
 repeat' (first|exact AG _|apply E6|intro _|split)
theorem AmK_ (x0:_)(x1:_)(x2:_)(x3:_)(x4:_):NoPan (F3 x0 x1 x2 x3 x4):=by
 unfold F3
 repeat' (first|exact Ij _ _ _|exact JV _ _ _|apply AC|apply BB|apply HJ|intro _|split)
theorem AdW_ (x0:_)(x1:_)(x2:_)(x3:_)(x4:_)(x5:_):NoPan (slSl x0 x1 x2 x3 x4 x5):=by
 unfold slSl
 repeat' (first|exact Ij _ _ _|exact JV _ _ _|apply AC|apply BB|apply HJ|intro _|split)
theorem ApM_ (x0:_)(x1:_)(x2:_):NoPan (FC x0 x1 x2):=by
 unfold FC
 repeat' (first|exact AG _|exact JV _ _ _|apply AC|intro _|split)
theorem ArJ_ (x0:_)(x1:_)(x2:_)(x3:_)(x4:_):NoPan (Be x0 x1 x2 x3 x4):=by
 unfold Be
 repeat' (first|exact AG _|exact AT|exact ApM_ _ _ _|exact AdW_ _ _ _ _ _ _|exact AmK_ _ _ _ _ _|exact JV _ _ _|exact Bq _ _|apply AC|intro _|split)
theorem Mi_ (x0:_)(x1:_)(x2:_):NoPan (srcL x0 x1 x2):=by
 unfold srcL
 repeat' (first|exact AG _|exact AT|exact FH _ _|intro _|split)
theorem AlT_ (x0:_)(x1:_)(x2:_):NoPan (appN x0 x1 x2):=by
 unfold appN
 repeat' (first|exact AG _|exact AT|apply BB|intro _|split)
theorem Xr_ (x0:_)(x1:_)(x2:_)(x3:_):NoPan (appL x0 x1 x2 x3):=by
 unfold appL
 repeat' (first|exact AG _|exact Mi_ _ _ _|apply Fq|intro _|split)
theorem AaN_ (x0:_)(x1:_)(x2:_):NoPan (oldL x0 x1 x2):=by
 unfold oldL
 repeat' (first|exact AG _|exact FH _ _|intro _|split)
theorem Afr_ (x0:_)(x1:_)(x2:_):NoPan (FM x0 x1 x2):=by
 unfold FM
 repeat' (first|exact AG _|exact Mj _ _|intro _|split)
theorem AmD_ (x0:_)(x1:_)(x2:_)(x3:_):NoPan (DK x0 x1 x2 x3):=by
 unfold DK
 repeat' (first|exact AG _|exact AT|exact Afr_ _ _ _|exact Fv _ _|exact Gt _|apply AC|apply BB|apply Fq|apply E6|intro _|split)
theorem Arj_ (x0:_)(x1:_)(x2:_)(x3:_)(x4:_)(x5:_)(x6:_)(x7:_):NoPan (grow x0 x1 x2 x3 x4 x5 x6 x7):=by
 unfold grow
 repeat' (first|exact AmD_ _ _ _ _|exact AaN_ _ _ _|exact Ij _ _ _|exact Hh _|exact Fv _ _|apply AC|apply BB|apply E6|apply HJ|intro _|split)
theorem Aje_ (x0:_)(x1:_)(x2:_)(x3:_)(x4:_)(x5:_):NoPan (Fp x0 x1 x2 x3 x4 x5):=by
 unfold Fp
 repeat' (first|exact AG _|exact Ij _ _ _|exact Iq _ _|apply AC|intro _|split)
theorem AqF_ (x0:_)(x1:_)(x2:_)(x3:_)(x4:_):NoPan (CK x0 x1 x2 x3 x4):=by
 unfold CK
 repeat' (first|exact AT|exact Aje_ _ _ _ _ _ _|exact Arj_ _ _ _ _ _ _ _ _|exact Xr_ _ _ _ _|exact AlT_ _ _ _|exact Bq _ _|apply AC|apply Fq|intro _|split)
theorem AcR_ (x0:_)(x1:_)(x2:_):NoPan (Br x0 x1 x2):=by
 unfold Br
 repeat' (first|exact AG _|exact AT|exact Fs _|exact Bq _ _|apply AC|intro _|split)
theorem Acj_ (x0:_)(x1:_)(x2:_)(x3:_):NoPan (BS x0 x1 x2 x3):=by
 unfold BS
 repeat' (first|exact AG _|exact AT|exact Fs _|exact Bq _ _|exact Hh _|exact Fv _ _|apply AC|apply BB|intro _|split)
theorem Vc (x0:_)(x1:_)(x2:_)(x3:_):NoPan (Ev x0 x1 x2 x3):=by
 unfold Ev
 repeat' (first|exact AG _|exact Fs _|exact Bq _ _|apply AC|apply Fq|intro _|split)
theorem AlF_ (x0:_)(x1:_)(x2:_)(x3:_)(x4:_):NoPan (Gm x0 x1 x2 x3 x4):=by
 unfold Gm
 repeat' (first|exact AT|exact Mi_ _ _ _|exact K7 _|exact Apj_ _|exact Bq _ _|exact Iq _ _|apply AC|apply E6|intro _|split)
theorem DV_ (x0:_):NoPan (FE x0):=by
 unfold FE
 repeat' (first|exact AG _|exact AT|exact Gt _|apply AC|intro _|split)
theorem AiD_ (x0:_):NoPan (Gq x0):=by
 unfold Gq
 repeat' (first|exact AT|exact DV_ _|exact K7 _|apply AC|intro _|split)
theorem Anx_ (x0:_)(x1:_)(x2:_):NoPan (aLen x0 x1 x2):=by
 unfold aLen
 repeat' (first|exact AG _|exact AT|exact AiD_ _|exact K7 _|exact Bq _ _|apply AC|intro _|split)
theorem Apv_ (x0:_)(x1:_)(x2:_):NoPan (aCap x0 x1 x2):=by
 unfold aCap
 repeat' (first|exact AT|exact K7 _|exact Bq _ _|apply AC|apply BB|intro _|split)
theorem Aye_ (x0:_)(x1:_)(x2:_):NoPan (Jf x0 x1 x2):=by
 unfold Jf
 repeat' (first|exact AG _|exact AT|exact Bq _ _|exact Iq _ _|apply AC|apply BB|intro _|split)
theorem AvP_ (x0:_):NoPan (zeroV x0):=by
 unfold zeroV
 repeat' (first|exact AG _|exact Fs _|apply Fq|intro _|split)
theorem Lt_ (E:_)(e:_)(t:_)(k:_)(es:_):NoPan (JB E e t k es):=BB _ (B2 _ λ_=>AG _)
theorem WL_ (x0:_)(x1:_):NoPan (mapT x0 x1):=by
 unfold mapT
 repeat' (first|exact AG _|exact AT|exact Bq _ _|apply AC|intro _|split)
theorem AxY_ (E:_)(t:_)(m:_)(k:_):NoPan (kDel E t m k):=AC (WL_ _ _) λke=>by
 cases m with
 |map m=>
  cases m with
  |none=>exact AC (Lt_ _ _ _ _ _) λ_=>AG _
  |some l=>exact AC (DV_ _) λp=>AC (Lt_ _ _ _ _ _) λr=>by cases r<;>exact AC (Fv _ _) λ_=>AG _
 |_=>exact AT
theorem AfY_ (x0:_)(x1:_)(x2:_)(x3:_):NoPan (Bg x0 x1 x2 x3):=by
 unfold Bg
 repeat' (first|exact AT|exact Apv_ _ _ _|exact Anx_ _ _ _|exact AlF_ _ _ _ _ _|exact AqF_ _ _ _ _ _|exact IJ _|apply BB|apply B2|intro _|split)
theorem AcB_ (x0:_)(x1:_)(x2:_)(x3:_):NoPan (idxN x0 x1 x2 x3):=by
 unfold idxN
 repeat' (first|exact AT|exact X3 _|exact Bq _ _|apply AC|apply BB|intro _|split)
theorem Rk (x0:_):NoPan (asN x0):=by
 unfold asN
 repeat' (first|exact AG _|exact AT|intro _|split)
theorem Adi_ (x0:_)(x1:_)(x2:_):NoPan (Ay x0 x1 x2):=by
 unfold Ay
 repeat' (first|exact AG _|exact AT|apply HJ|intro _|split)
theorem BK_ (x0:_):NoPan (ptrN x0):=by
 unfold ptrN
 repeat' (first|exact AG _|intro _|split)
theorem AoP_ (x0:_)(x1:_):NoPan (A6 x0 x1):=by
 unfold A6
 repeat' (first|exact BK_ _|exact Bq _ _|exact Hh _|apply AC|intro _|split)
theorem Atc_ (x0:_):NoPan (kBox x0):=by
 unfold kBox
 repeat' (first|exact BK_ _|exact Hh _|apply AC|intro _|split)
theorem Aha_ (x0:_)(x1:_)(x2:_):NoPan (AE x0 x1 x2):=by
 unfold AE
 repeat' (first|exact KY _|exact RJ_ _ _ _|apply AC|intro _|split)
theorem Xu_ (x0:_)(x1:_)(x2:_)(x3:_):NoPan (Ax x0 x1 x2 x3):=by
 unfold Ax
 repeat' (first|exact AG _|exact KY _|exact Alb_ _ _ _ _|apply AC|intro _|split)
theorem AeC_ (x0:_):NoPan (kNil x0):=by
 unfold kNil
 repeat' (first|exact AG _|exact AT|intro _|split)
theorem AwX_ (b:Bool):NoPan (pB b):=⟨λs c s' h=>by cases b<;>cases h⟩
theorem Jo (x0:_)(x1:_)(x2:_):NoPan (C6 x0 x1 x2):=by
 unfold C6
 repeat' (first|exact IJ _|apply BB|apply B2|intro _|split)
theorem Adt_ (P:Program)(v:Value):NoPan (xorU P v):=by
 have h:=Jo P .xor v
 cases v with
 |int k n=>
  cases n with
  |negSucc m=>exact Jo P .xor (.int k (.negSucc m))
  |ofNat m=>
   show NoPan (Option.rec (motive:=λ_=>M Value) (C6 P .xor (.int k (.ofNat m))) (λx=>M.pure x) (notK k m))
   exact Arr_ _ (Jo _ _ _) λ_=>AG _
 |_=>exact h
theorem Afc_ (x0:_)(x1:_)(x2:_):NoPan (kUn x0 x1 x2):=by
 unfold kUn
 repeat' (first|exact AG _|exact Adt_ _ _|exact Jo _ _ _|exact AwX_ _|intro _|split)
theorem ZS_ (x0:_)(x1:_):NoPan (strOf x0 x1):=by
 unfold strOf
 repeat' (first|exact AG _|exact FH _ _|apply AC|apply B2|intro _|split)
theorem Aaj_ (x0:_)(x1:_)(x2:_)(x3:_)(x4:_):NoPan (Gc x0 x1 x2 x3 x4):=by
 unfold Gc
 repeat' (first|exact AT|exact ZS_ _ _|exact Bq _ _|apply AC|intro _|split)
theorem AsZ_ (x0:_)(x1:_)(x2:_)(x3:_)(x4:_):NoPan (FS x0 x1 x2 x3 x4):=by
 unfold FS
 repeat' (first|exact AG _|exact IJ _|exact Bq _ _|apply AC|apply B2|apply Fn_|intro _|split)
theorem Nb (x0:_)(x1:_)(x2:_)(x3:_):NoPan (D6 x0 x1 x2 x3):=by
 unfold D6
 repeat' (first|exact AsZ_ _ _ _ _ _|exact Aaj_ _ _ _ _ _|exact IJ _|apply BB|apply B2|intro _|split)
theorem Xm_ (x0:_)(x1:_):NoPan (rowN x0 x1):=by
 unfold rowN
 repeat' (first|exact Ij _ _ _|exact Hh _|exact Fv _ _|apply AC|apply BB|intro _|split)
theorem AjS_ (l:List UInt8):NoPan (Gl l):=by
 unfold Gl
 rw[KS]
 exact E6 _ λn=>Xm_ _ _
theorem Zs_ (x0:_)(x1:_)(x2:_)(x3:_):NoPan (GF x0 x1 x2 x3):=by
 unfold GF
 repeat' (first|exact AT|exact AjS_ _|exact Nb _ _ _ _|exact Bq _ _|apply AC|intro _|split)
theorem AwY_ (x0:_)(x1:_)(x2:_)(x3:_)(x4:_)(x5:_):NoPan (Eu x0 x1 x2 x3 x4 x5):=by
 unfold Eu
 repeat' (first|exact AT|exact Nb _ _ _ _|exact Bq _ _|apply AC|intro _|split)
theorem Axz_ (x0:_)(x1:_)(x2:_)(x3:_):NoPan (Cy x0 x1 x2 x3):=by
 unfold Cy
 repeat' (first|exact AwY_ _ _ _ _ _ _|exact Zs_ _ _ _ _|exact Nb _ _ _ _|intro _|split)
theorem AeM_ (x0:_)(x1:_):NoPan (Gx x0 x1):=by
 unfold Gx
 repeat' (first|exact AG _|exact AT|apply BB|intro _|split)
theorem ArK_ (x0:_)(x1:_)(x2:_):NoPan (F9 x0 x1 x2):=by
 unfold F9
 repeat' (first|exact AeM_ _ _|exact Bq _ _|apply AC|intro _|split)
theorem AxB_ (x0:_)(x1:_)(x2:_):NoPan (EP x0 x1 x2):=by
 unfold EP
 repeat' (first|exact AG _|exact AT|exact Bq _ _|apply AC|intro _|split)
theorem Avr_ (x0:_)(x1:_)(x2:_)(x3:_):NoPan (mkSl x0 x1 x2 x3):=by
 unfold mkSl
 repeat' (first|exact AG _|exact AT|exact Bq _ _|exact Hh _|apply AC|apply BB|intro _|split)
theorem AnA_ (x0:_)(x1:_)(x2:_)(x3:_):NoPan (EY x0 x1 x2 x3):=by
 unfold EY
 repeat' (first|exact Avr_ _ _ _ _|exact Rk _|exact Bq _ _|apply AC|intro _|split)
theorem TD (x0:_)(x1:_)(x2:_):NoPan (Du x0 x1 x2):=by
 unfold Du
 repeat' (first|exact AG _|exact AT|exact Bq _ _|apply AC|intro _|split)
theorem ApY_ (x0:_)(x1:_)(x2:_)(x3:_):NoPan (kFld x0 x1 x2 x3):=by
 unfold kFld
 repeat' (first|exact TD _ _ _|exact X3 _|exact KY _|exact Bq _ _|apply AC|apply BB|intro _|split)
theorem AcL_ (x0:_):NoPan (asCs x0):=by
 unfold asCs
 repeat' (first|exact AG _|exact AT|intro _|split)
theorem AjT_ (x0:_)(x1:_)(x2:_)(x3:_):NoPan (Dv x0 x1 x2 x3):=by
 unfold Dv
 repeat' (first|exact AcL_ _|exact TD _ _ _|exact Vc _ _ _ _|exact Bq _ _|apply AC|intro _|split)
theorem Anl_ (x0:_)(x1:_)(x2:_)(x3:_):NoPan (BJ x0 x1 x2 x3):=by
 unfold BJ
 repeat' (first|exact Rk _|exact AcB_ _ _ _ _|exact Bq _ _|apply AC|intro _|split)
theorem ApO_ (x0:_)(x1:_)(x2:_)(x3:_):NoPan (idxV x0 x1 x2 x3):=by
 unfold idxV
 repeat' (first|exact AG _|exact AT|exact Vc _ _ _ _|exact Bq _ _|apply AC|apply BB|apply B2|intro _|split)
theorem ArX_ (x0:_)(x1:_)(x2:_)(x3:_):NoPan (kIdx x0 x1 x2 x3):=by
 unfold kIdx
 repeat' (first|exact ApO_ _ _ _ _|exact Rk _|exact Bq _ _|apply AC|intro _|split)
theorem AhY_ (x0:_)(x1:_):NoPan (kExt x0 x1):=by
 unfold kExt
 repeat' (first|exact AT|exact Fs _|intro _|split)
theorem Aot_ (x0:_)(x1:_)(x2:_):NoPan (okV x0 x1 x2):=by
 unfold okV
 repeat' (first|exact AG _|exact AT|apply HJ|intro _|split)
theorem AnY_ (x0:_)(x1:_)(x2:_)(x3:_):NoPan (ET x0 x1 x2 x3):=by
 unfold ET
 repeat' (first|exact AT|exact Aot_ _ _ _|exact AvP_ _|exact Bq _ _|apply AC|apply Fq|apply B2|intro _|split)
def OpV (E:Env)(o:Oper)(c:Cl OpT)(ds:List Nat):Prop:=
 ∃f,c= .mk f/\(∀call round rho tm,NoPan (f call round rho tm))/\
  ∀call round (w0 w:World) (r:Inj) (U:Nat->Prop) rho tm (a:Act) s v s',SlR r U ds rho tm a.tmps->(∀t,Operand.tmp t∈o.op.operands.toList->U t)->Rel w0 r s.mem w->f call round rho tm s= .some v s'->AU r s.next s'.next->
   ∃v' w' r',((execOp a.eval o).run E.P w= .ok (.value v') w'\/((execOp a.eval o).run E.P w= .ok .skip w'/\v'=undef))/\Goes w0 r s s' r' w'/\VR r' v v'/\s'.lim=s.lim/\s'.cx=s.cx
section
variable {E:Env}{ds:List Nat}{o:Oper}
def Do (m:Sem Value):Sem Next:=do pure (.value (<-m))
theorem Yields.val {w0 w:World}{r:Inj}{s s':St}{v:Value}{m:Sem Value}(h:Yields E w0 r s s' v w m){n:Sem Next}(hn:n=Do m):
  ∃v' w' r',(n.run E.P w= .ok (.value v') w'\/(n.run E.P w= .ok .skip w'/\v'=undef))/\Goes w0 r s s' r' w'/\VR r' v v'/\s'.lim=s.lim/\s'.cx=s.cx:=by
 obtain⟨v',w',r',h1,h2,h3,h4,h5⟩:=h
 exact⟨v',w',r', .inl (by rw[hn];simp[Do,h1]),h2,h3,h4,h5⟩
theorem DQ {α:Type}{x:Option α}{f:α->St->R Value}{s s':St}{v:Value}(h:Option.rec (motive:=λ_=>R Value) .none (λa=>f a s) x= .some v s'): ∃a,x=some a/\f a s= .some v s':=by
 cases x with
 |none=>cases h
 |some a=>exact⟨a,rfl,h⟩
theorem DH {α:Type}{g:Option α}{f:α->M Value}(h: ∀a,NoPan (f a)):NoPan (λs=>Option.rec (motive:=λ_=>R Value) .none (λa=>f a s) g):=⟨λs c s' e=>by
 cases g with
 |none=>cases e
 |some a=>exact(h a).no _ _ _ e⟩
theorem Th {x:Operand}(hx:o.op.operands.toList=[x])(ho: ∀a:Act,execOp a.eval o=pure (.value (a.eval x))):OpV E o (Fj ds x) ds:=by
 obtain⟨g,h1,h2⟩:=BD ds x
 refine⟨_,by unfold Fj;rw[h1],λ_ _ rho tm=>DH (f:=λa s=> .some a s) (g:=g rho tm) λa=>AG a, ?_⟩
 intro call round w0 w r U rho tm a s v s' hs hu hr h hf
 obtain⟨y,e1,e2⟩:=DQ (f:=λa s=> .some a s) h
 cases e2
 exact⟨_,w,r, .inl (by rw[ho];rfl), .of_rel rfl hr,h2 _ _ _ _ _ _ hs (λt q=>hu t (by first|(rw[hx];simp at q ⊢;simp[q])|exact hx _ q)) e1,rfl,rfl⟩
theorem El {x:Operand}{k:Value->M Value}{m:Value->Sem Value}(hx:o.op.operands.toList=[x])(ho: ∀a:Act,execOp a.eval o=Do (m (a.eval x)))(np: ∀y,NoPan (k y))
  (hk: ∀{w0 w:World} {r:Inj} {y y':Value} {s v s'},k y s= .some v s'->Rel w0 r s.mem w->AU r s.next s'.next->VR r y y'->Yields E w0 r s s' v w (m y')):OpV E o (Bp ds x k) ds:=by
 obtain⟨g,h1,h2⟩:=BD ds x
 refine⟨_,by unfold Bp;rw[h1],λ_ _ rho tm=>DH (g:=g rho tm) np, ?_⟩
 intro call round w0 w r U rho tm a s v s' hs hu hr h hf
 obtain⟨y,e1,e2⟩:=DQ h
 exact(hk e2 hr hf (h2 _ _ _ _ _ _ hs (λt q=>hu t (by first|(rw[hx];simp at q ⊢;simp[q])|exact hx _ q)) e1)).val (ho a)
theorem JQ {x y:Operand}{k:Value->Value->M Value}{m:Value->Value->Sem Value}(hx:o.op.operands.toList=[x,y])(ho: ∀a:Act,execOp a.eval o=Do (m (a.eval x) (a.eval y)))(np: ∀y z,NoPan (k y z))
  (hk: ∀{w0 w:World} {r:Inj} {y y' z z':Value} {s v s'},k y z s= .some v s'->Rel w0 r s.mem w->AU r s.next s'.next->VR r y y'->VR r z z'->Yields E w0 r s s' v w (m y' z')):OpV E o (CW ds x y k) ds:=by
 obtain⟨g,h1,h2⟩:=BD ds x
 obtain⟨g',h3,h4⟩:=BD ds y
 refine⟨_,by unfold CW;rw[h1,h3],λ_ _ rho tm=>DH (g:=g rho tm) (f:=λa s=>Option.rec (motive:=λ_=>R Value) .none (λb=>k a b s) (g' rho tm)) λa=>DH (np a), ?_⟩
 intro call round w0 w r U rho tm a s v s' hs hu hr h hf
 obtain⟨y,e1,e2⟩:=DQ (f:=λa s=>Option.rec (motive:=λ_=>R Value) .none (λb=>k a b s) (g' rho tm)) h
 obtain⟨z,e3,e4⟩:=DQ e2
 exact(hk e4 hr hf (h2 _ _ _ _ _ _ hs (λt q=>hu t (by first|(rw[hx];simp at q ⊢;simp[q])|exact hx _ q)) e1) (h4 _ _ _ _ _ _ hs (λt q=>hu t (by rw[hx];simp at q ⊢;simp[q])) e3)).val (ho a)
theorem WM {l:List (Nat×Operand)}{k:List (Nat×Value)->M Value}{m:List (Nat×Value)->Sem Value}(hx:o.op.operands.toList=l.map (·.2))(ho: ∀a:Act,execOp a.eval o=Do (m (l.map λp=>(p.1,a.eval p.2))))(np: ∀y,NoPan (k y))
  (hk: ∀{w0 w:World} {r:Inj} {y y':List (Nat×Value)} {s v s'},k y s= .some v s'->Rel w0 r s.mem w->AU r s.next s'.next->PRs r y y'->Yields E w0 r s s' v w (m y')):OpV E o (Fz ds l k) ds:=by
 obtain⟨g,h1,h2⟩:=Mb ds l
 refine⟨_,by unfold Fz;rw[h1],λ_ _ rho tm=>DH (g:=g rho tm) np, ?_⟩
 intro call round w0 w r U rho tm a s v s' hs hu hr h hf
 obtain⟨y,e1,e2⟩:=DQ h
 exact(hk e2 hr hf (h2 _ _ _ _ _ _ hs (λt q=>hu t (by first|(rw[hx];simp at q ⊢;simp[q])|exact hx _ q)) e1)).val (ho a)
