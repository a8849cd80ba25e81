/- A region whose order is open:each step of whatever order is drawn keeps what is known;at the end it is as in the order of the text. -/
import Derived.Test.YtapojfiplajfaaaGreatDoorWnn07
import Derived.Test.YtapojfiplajfaaaGreatDoorWnn05
namespace Go.Proofs.YtapojfiplajfaaaGreatDoor.Am
open Go.RowKit
section
variable {E:Env}{glob N:Nat}{ops:Array Oper}{call round:CallT}{cops:List COp}{x:Tra}{m:Nat}
/-- What is known when those in L have been carried out. -/
structure Inv (ops:Array Oper)(x:Tra)(m N:Nat)(w0:World)(r0:Inj)(t0:Array Value)(L:Array Bool)(mt:T Cell)(t:Array Value)(w:World)(r:Inj):Prop where
 size:L.size=ops.size
 rel:Rel w0 r mt w
 off: ∀j,m≤j→j<ops.size→L.getD j true=false
 mem: ∀l,T.get mt l=memD x (fun i=>L.getD i true) m l
 dom: ∀b,x.Nx 0≤b→b<x.Nx m→(r.blk b≠none∨r.ext b≠none)→ ∃i,i<m∧L.getD i true=true∧x.Nx i≤b∧b<x.Nx (i+1)
 slot: ∀(i:Nat) (o:Oper) (d:Nat),ops[i]?=some o→L.getD i true=true→o.dst=some d→ ∃v',t[d]?=some v'∧VR r (x.V i) v'
 keep: ∀(d:Nat),(∀(i:Nat) (o:Oper),ops[i]?=some o→L.getD i true=true→o.dst≠some d)→t[d]?=t0[d]?
 tsz:t.size=N
 le:r0.le r
 domB: ∀b,r.blk b≠none→r0.blk b≠none∨(x.Nx 0≤b∧b<x.Nx m)
 domE: ∀b,r.ext b≠none→r0.ext b≠none∨(x.Nx 0≤b∧b<x.Nx m)
 clo: ∀j,j<m→L.getD j true=true→ ∀i,Bf ops j i→L.getD i true=true
theorem getD_set {L:Array Bool}{j:Nat}(hj:j<L.size):(L.setIfInBounds j true).getD j true=true∧ ∀i,i≠j→(L.setIfInBounds j true).getD i true=L.getD i true:=by
 constructor
 ·simp[Array.getD_eq_getD_getElem?,hj]
 ·intro i hi
  simp only[Array.getD_eq_getD_getElem?]
  rw[Array.getElem?_setIfInBounds_ne (fun e=>hi e.symm)]
theorem ready_some {L:Array Bool}(_hs:L.size=ops.size){j:Nat}(h:j∈Region.ready .any ops L):j<ops.size∧L.getD j true=false∧ ∀o,ops[j]?=some o→ ∀e∈o.after,Region.binds .any e=true→L.getD e.on false=true:=by
 unfold Region.ready at h
 rw[List.mem_filter,List.mem_range,Bool.and_eq_true,Bool.not_eq_true']at h
 obtain⟨h1,h2,h3⟩:=h
 refine⟨h1,h2,fun o ho e he hb=> ?_⟩
 rw[ho]at h3
 have h4:o.after.all (fun e=> !Region.binds .any e||L.getD e.on false)=true:=by simpa using h3
 have:=Array.all_eq_true_iff_forall_mem.1 h4 e he
 rw[hb]at this
 simpa using this
theorem getD_ft {L:Array Bool}{i:Nat}(h:L.getD i false=true):L.getD i true=true:=by
 rw[Array.getD_eq_getD_getElem?]at h ⊢
 cases e:L[i]? with
 |none=>rw[e]at h;cases h
 |some b=>rw[e]at h;exact h
theorem getD_tf {L:Array Bool}{i:Nat}(hi:i<L.size)(h:L.getD i true=true):L.getD i false=true:=by
 rw[Array.getD_eq_getD_getElem?]at h ⊢
 rw[Array.getElem?_eq_getElem hi]at h ⊢
 exact h
variable (H:Pre E glob N ops call round cops x m)
include H
theorem Inv.before {w0 w:World}{r0 r:Inj}{t0 t:Array Value}{L:Array Bool}{mt:T Cell}(I:Inv ops x m N w0 r0 t0 L mt t w r){j:Nat}(hjn:j<ops.size)
  (hready: ∀o,ops[j]?=some o→ ∀e∈o.after,Region.binds .any e=true→L.getD e.on false=true): ∀i,Bf ops j i→L.getD i true=true:=by
 intro i hb
 obtain⟨o',e,q1,q2,q3,q4⟩:=Bf_edge hb
 have he':=hready o' q1 e q2 q3
 rcases q4 with q4|q4
 ·rw[q4];exact getD_ft he'
 ·have h1:=H.edge q1 q2 q3
  refine I.clo e.on ?_ (getD_ft he') i q4
  rcases Nat.lt_or_ge e.on m with h|h
  ·exact h
  ·have h2:=I.off e.on h (by omega)
   rw[getD_ft he']at h2
   cases h2
/-- What comes next is one of the first,as long as one of these is open. -/
theorem Inv.small {w0 w:World}{r0 r:Inj}{t0 t:Array Value}{L:Array Bool}{mt:T Cell}(I:Inv ops x m N w0 r0 t0 L mt t w r){j:Nat}(last: ∀j,m≤j→j<ops.size→ ∀i,i<m→Bf ops j i)(hj:j∈Region.ready .any ops L)(hc:0<cnt (fun i=> !L.getD i true) m):j<m:=by
 obtain⟨hjn,hjL,hready⟩:=ready_some I.size hj
 rcases Nat.lt_or_ge j m with h|h
 ·exact h
 ·obtain⟨i,h1,h2,_⟩:=cnt_pos hc
  rw[I.before H hjn hready i (last j h hjn i h1)]at h2
  cases h2
/-- One operation of those that may come next. -/
theorem Inv.step (he:EnvTy E)(c1:CallOK E call)(c2:RoundOK E round){w0 w:World}{r0 r:Inj}{t0 t:Array Value}{L:Array Bool}{mt:T Cell}(hT0:TmR r0 glob (x.Tm 0) t0)
  (I:Inv ops x m N w0 r0 t0 L mt t w r) {j:Nat} (hj:j∈Region.ready .any ops L) (hjn:j<m) (b:Frame) (dfs:List Deferred) (cs:List Frame) (k:List Item) (rest:List Nat):
  ∃mt' t' w' r',Inv ops x m N w0 r0 t0 (L.setIfInBounds j true) mt' t' w' r'∧Steps E.P (lone (frm b t dfs (.inRegion ops (j::rest)::k)) cs w) (lone (frm b t' dfs (.inRegion ops rest::k)) cs w'):=by
 obtain⟨hjn0,hjL,hready⟩:=ready_some I.size hj
 obtain⟨o,g,f,ho,hg,hnew,hcomp,tr,hrh,htm⟩:=H.op hjn
 have hms:m≤ops.size:=H.len
 -- what lies before j has been carried out
 have before: ∀i,Bf ops j i→L.getD i true=true:=I.before H hjn0 hready
 have notj: ∀i,i<m→L.getD i true=true→ ¬Bf ops i j:=by
  intro i hi hL hb
  have:=I.clo i hi hL j hb
  rw[hjL]at this
  cases this
 have lateSep: ∀i,j<i→i<m→L.getD i true=true→(∀l,¬(x.Wr j l∧(x.Rd i l∨x.Wr i l)))∧(∀l,¬(x.Wr i l∧x.Rd j l)):=fun i h1 h2 h3=>H.sep h1 h2 (notj i h2 h3)
 -- memory reads as j expects it
 have agree: ∀l,x.Rd j l∨x.Wr j l→T.get mt l=T.get (x.Mm j) l:=by
  intro l hl
  rw[I.mem l,memD_high (j:=j) (by omega)]
  ·refine memD_low H (by omega) fun i hi hw=> ?_
   by_cases hb:Bf ops j i
   ·exact before i hb
   ·exact absurd ⟨hw,hl⟩ ((H.sep hi hjn hb).1 l)
  ·intro i h1 h2 h3 h4
   rcases Nat.lt_or_ge j i with h5|h5
   ·obtain⟨s1,s2⟩:=lateSep i h5 h2 h3
    rcases hl with hl|hl
    ·exact s2 l ⟨h4,hl⟩
    ·exact s1 l ⟨hl, .inr h4⟩
   ·rw[show i=j by omega,hjL]at h3
    cases h3
 obtain⟨t',q1,q2,q3,q4,q5,q6,q7,q8⟩:=tr.run.any ⟨mt,x.Nx j,x.Nx j,[],[], .no⟩ rfl rfl rfl agree
 obtain⟨hloc,hop⟩:=opG_ok (ops:=ops) (keep:=keepD o.dst glob) he ho hg hcomp
 obtain⟨d1,d2,d3⟩:=H.ds (Nat.le_of_lt hjn)
 have slots:SlR r (fun y=>y∈looksL ops.toList o) (dsAt ops.toList j) (x.Rh j) (x.Tm j) t:=by
  constructor
  ·intro p d v hu e1 e2
   obtain⟨q,oq,a1,a2,a3,a4⟩:=d2 p d e1
   rw[a4]at e2
   cases e2
   have hb:=H.looks ho a2 a3 hu (by omega)
   rw[Nat.max_eq_right (by omega),Nat.min_eq_left (by omega)]at hb
   exact I.slot q oq d a2 (before q hb) a3
  ·intro y v hu e1
   rcases H.tm (Nat.le_of_lt hjn) e1 with⟨q,oq,a1,a2,a3,a4,a5⟩|⟨a1,a2⟩
   ·have hb:=H.looks ho a2 a3 hu (by omega)
    rw[Nat.max_eq_right (by omega),Nat.min_eq_left (by omega)]at hb
    rw[a5]
    exact I.slot q oq y a2 (before q hb) a3
   ·obtain⟨p1,v',p2,p3⟩:=hT0 y v a1
    refine⟨v', ?_,p3.mono I.le⟩
    rw[I.keep y]
    ·exact p2
    ·intro i oi hoi hLi hdi
     have hi0:i<ops.size:=(Array.getElem?_eq_some_iff.1 hoi).1
     have hi:i<m:=by
      rcases Nat.lt_or_ge i m with h|h
      ·exact h
      ·rw[I.off i h hi0]at hLi;cases hLi
     rcases Nat.lt_trichotomy i j with h|h|h
     ·rw[a2 i oi h hoi hdi]at p1;cases p1
     ·rw[h,hjL]at hLi;cases hLi
     ·have hb:=H.looks ho hoi hdi hu (by omega)
      rw[Nat.max_eq_left (by omega),Nat.min_eq_right (by omega)]at hb
      exact notj i hi hLi hb
 have fresh:Fresh r (x.Nx j) (x.Nx (j+1)):=by
  intro b h1 h2
  have lo:x.Nx 0≤b:=Nat.le_trans (H.nx (Nat.zero_le _) (Nat.le_of_lt hjn)) h1
  have hi:b<x.Nx m:=Nat.lt_of_lt_of_le h2 (H.nx hjn (Nat.le_refl _))
  have no: ¬(r.blk b≠none∨r.ext b≠none):=by
   intro hn
   obtain⟨i,a1,a2,a3,a4⟩:=I.dom b lo hi hn
   rcases Nat.lt_trichotomy i j with h|h|h
   ·have:=H.nx (i:=i+1) (j:=j) h (Nat.le_of_lt hjn);omega
   ·rw[h,hjL]at a2;cases a2
   ·have:=H.nx (i:=j+1) (j:=i) h (Nat.le_of_lt a1);omega
  exact⟨Classical.byContradiction fun h=>no (.inl h),Classical.byContradiction fun h=>no (.inr h)⟩
 simp only at q2 q3 q4
 obtain⟨w',r',dfs',cs',k1,k2,k3,v',k4,k5⟩:=hop call round c1 c2 w0 w r _ (x.Rh j) (x.Tm j) b t dfs cs (dfs,cs) ⟨mt,x.Nx j,x.Nx j,[],[], .no⟩ (.inl (x.V j)) t' slots (fun _ h=>h) d1 I.rel ⟨rfl,rfl⟩ (Nat.le_refl _)
  (by rw[q2];exact fresh) q1 rest k
 rw[q4]at k2
 obtain⟨rfl,rfl⟩:=k2
 obtain⟨g1,g2⟩:=getD_set (L:=L) (j:=j) (by rw[I.size];exact hjn0)
 refine⟨t'.mem,putT t o.dst v',w',r',⟨by simp[I.size],k1.rel,fun q h1 h2=>by rw[g2 q (by omega)];exact I.off q h1 h2, ?_, ?_, ?_, ?_,by rw[putT_size];exact I.tsz,Inj.le_trans I.le k1.le, ?_, ?_, ?_⟩,k5⟩
 ·intro l
  obtain⟨a1,a2⟩:=memD_add (x:=x) (D:=fun i=>L.getD i true) (D':=fun i=>(L.setIfInBounds j true).getD i true) (l:=l) hjL g1 g2 hjn (fun i h1 h2 h3 h4=>(lateSep i h1 h2 h3).1 l ⟨h4.2, .inr h4.1⟩)
  by_cases hw:x.Wr j l
  ·rw[a1 hw];exact q7 l hw
  ·rw[a2 hw,q8 l hw];exact I.mem l
 ·intro b' h1 h2 h3
  have old:(r.blk b'≠none∨r.ext b'≠none)∨(x.Nx j≤b'∧b'<x.Nx (j+1)):=by
   rcases h3 with h3|h3
   ·rcases k1.domB b' h3 with h|h
    ·exact .inl (.inl h)
    ·rw[q2]at h;exact .inr h
   ·rcases k1.domE b' h3 with h|h
    ·exact .inl (.inr h)
    ·rw[q2]at h;exact .inr h
  rcases old with h|h
  ·obtain⟨i,a1,a2,a3⟩:=I.dom b' h1 h2 h
   refine⟨i,a1, ?_,a3⟩
   by_cases e:i=j
   ·rw[e];exact g1
   ·rw[g2 i e];exact a2
  ·exact⟨j,hjn,g1,h⟩
 ·intro i oi d hoi hLi hdi
  by_cases e:i=j
  ·subst e
   rw[ho]at hoi
   cases hoi
   rw[hdi]
   exact⟨v',putT_self (by rw[I.tsz];exact H.dst_lt ho hdi),k4⟩
  ·rw[g2 i e]at hLi
   obtain⟨u,a1,a2⟩:=I.slot i oi d hoi hLi hdi
   refine⟨u, ?_,a2.mono k1.le⟩
   rw[putT_other]
   ·exact a1
   ·intro h
    exact e (H.dst_inj hoi ho hdi h)
 ·intro d hd
  rw[putT_other]
  ·exact I.keep d fun i oi hoi hLi=>hd i oi hoi (by
    by_cases e:i=j
    ·rw[e];exact g1
    ·rw[g2 i e];exact hLi)
  ·exact hd j o ho g1
 ·intro b' h
  rcases k1.domB b' h with h|h
  ·exact I.domB b' h
  ·rw[q2]at h
   exact .inr ⟨Nat.le_trans (H.nx (Nat.zero_le _) (Nat.le_of_lt hjn)) h.1,Nat.lt_of_lt_of_le h.2 (H.nx hjn (Nat.le_refl _))⟩
 ·intro b' h
  rcases k1.domE b' h with h|h
  ·exact I.domE b' h
  ·rw[q2]at h
   exact .inr ⟨Nat.le_trans (H.nx (Nat.zero_le _) (Nat.le_of_lt hjn)) h.1,Nat.lt_of_lt_of_le h.2 (H.nx hjn (Nat.le_refl _))⟩
 ·intro i hi hLi y hb
  by_cases e:i=j
  ·subst e
   have:=before y hb
   by_cases e':y=i
   ·rw[e'];exact g1
   ·rw[g2 y e'];exact this
  ·rw[g2 i e]at hLi
   have:=I.clo i hi hLi y hb
   by_cases e':y=j
   ·rw[e'];exact g1
   ·rw[g2 y e'];exact this
theorem ready_at {L:Array Bool}(hs:L.size=ops.size){i:Nat}(h1:i<ops.size)(h2:L.getD i true=false)(h3: ∀j,j<i→L.getD j true=true):i∈Region.ready .any ops L:=by
 unfold Region.ready
 rw[List.mem_filter,List.mem_range,Bool.and_eq_true]
 refine⟨h1,by rw[h2];rfl, ?_⟩
 rw[Array.getElem?_eq_getElem h1]
 simp only[Option.map_some,Option.getD_some]
 rw[Array.all_eq_true_iff_forall_mem]
 intro e he
 cases hb:Region.binds .any e with
 |false=>rfl
 |true=>
  have hlt:=H.edge (Array.getElem?_eq_getElem h1) he hb
  rw[getD_tf (by rw[hs];omega) (h3 e.on hlt)]
  rfl
theorem ready_ne {L:Array Bool}(hs:L.size=ops.size)(h:0<cnt (fun i=> !L.getD i true) m):Region.ready .any ops L≠[]:=by
 obtain⟨i,h0,h2,h3⟩:=cnt_pos h
 have h1:i<ops.size:=Nat.lt_of_lt_of_le h0 H.len
 exact List.ne_nil_of_mem (ready_at H hs h1 (by simpa using h2) fun j hj=>by simpa using h3 j hj)
/-- The whole of an order,to the last one that may stand behind all others. -/
theorem Inv.run (few:ops.size≤m+1)(last: ∀j,m≤j→j<ops.size→ ∀i,i<m→Bf ops j i)(he:EnvTy E)(c1:CallOK E call)(c2:RoundOK E round){w0:World}{r0:Inj}{t0:Array Value}(hT0:TmR r0 glob (x.Tm 0) t0)(b:Frame)(dfs:List Deferred)(cs:List Frame)(k:List Item):
  ∀(fuel tp:Nat) (L:Array Bool) (mt:T Cell) (t:Array Value) (w:World) (r:Inj),Inv ops x m N w0 r0 t0 L mt t w r→cnt (fun i=> !L.getD i true) m=fuel→
   ∃L' mt' t' w' r',Inv ops x m N w0 r0 t0 L' mt' t' w' r'∧(∀i,i<m→L'.getD i true=true)∧
    Steps E.P (lone (frm b t dfs (.inRegion ops (Region.linearise.go .any ops (fuel+(ops.size-m)) tp L [])::k)) cs w) (lone (frm b t' dfs (.inRegion ops (List.range' m (ops.size-m))::k)) cs w')
 |0,tp,L,mt,t,w,r,I,hc=>by
  have hall: ∀i,i<m→L.getD i true=true:=fun i hi=>by
   have:=cnt_zero hc i hi
   simpa using this
  refine⟨L,mt,t,w,r,I,hall, ?_⟩
  have hgo:Region.linearise.go .any ops (0+(ops.size-m)) tp L []=List.range' m (ops.size-m):=by
   have h1:=H.len
   have h2:=few
   rcases Nat.lt_or_ge m ops.size with h|h
   ·have e1:ops.size-m=1:=by omega
    rw[e1]
    have hmem:=ready_at H I.size h (I.off m (Nat.le_refl _) h) hall
    have hlen:0<(Region.ready .any ops L).length:=List.length_pos_iff.2 (List.ne_nil_of_mem hmem)
    have hi:tp%(Region.ready .any ops L).length<(Region.ready .any ops L).length:=Nat.mod_lt _ hlen
    obtain⟨j,hj⟩: ∃j,(Region.ready .any ops L)[tp%(Region.ready .any ops L).length]?=some j:=⟨_,List.getElem?_eq_getElem hi⟩
    obtain⟨p1,p2,_⟩:=ready_some I.size (List.mem_of_getElem? hj)
    have hjm:j=m:=by
     rcases Nat.lt_or_ge j m with q|q
     ·rw[hall j q]at p2;cases p2
     ·omega
    subst hjm
    have h0:Region.linearise.go .any ops (0+1) tp L []=match (Region.ready .any ops L)[tp%(Region.ready .any ops L).length]? with
     |some i=>Region.linearise.go .any ops 0 (tp/(Region.ready .any ops L).length) (L.setIfInBounds i true) [i]
     |none=>[].reverse:=rfl
    rw[h0,hj]
    rfl
   ·have e1:ops.size-m=0:=by omega
    rw[e1]
    rfl
  rw[hgo]
  exact .refl _ _
 |fuel+1,tp,L,mt,t,w,r,I,hc=>by
  have hne:=ready_ne H I.size (by rw[hc];omega)
  have hlen:0<(Region.ready .any ops L).length:=List.length_pos_iff.2 hne
  have hi:tp%(Region.ready .any ops L).length<(Region.ready .any ops L).length:=Nat.mod_lt _ hlen
  obtain⟨j,hj⟩: ∃j,(Region.ready .any ops L)[tp%(Region.ready .any ops L).length]?=some j:=⟨_,List.getElem?_eq_getElem hi⟩
  have hmem:j∈Region.ready .any ops L:=List.mem_of_getElem? hj
  have hgo:Region.linearise.go .any ops (fuel+1+(ops.size-m)) tp L []=j::Region.linearise.go .any ops (fuel+(ops.size-m)) (tp/(Region.ready .any ops L).length) (L.setIfInBounds j true) []:=by
   rw[Nat.add_right_comm]
   have h0:Region.linearise.go .any ops (fuel+(ops.size-m)+1) tp L []=match (Region.ready .any ops L)[tp%(Region.ready .any ops L).length]? with
    |some i=>Region.linearise.go .any ops (fuel+(ops.size-m)) (tp/(Region.ready .any ops L).length) (L.setIfInBounds i true) [i]
    |none=>[].reverse:=rfl
   rw[h0,hj]
   simp only
   rw[linearise_go_acc]
   rfl
  rw[hgo]
  obtain⟨hjn,hjL,_⟩:=ready_some I.size hmem
  have hjm:j<m:=I.small H last hmem (by rw[hc];omega)
  obtain⟨mt1,t1,w1,r1,I1,s1⟩:=I.step H he c1 c2 hT0 hmem hjm b dfs cs k (Region.linearise.go .any ops (fuel+(ops.size-m)) (tp/(Region.ready .any ops L).length) (L.setIfInBounds j true) [])
  obtain⟨g1,g2⟩:=getD_set (L:=L) (j:=j) (by rw[I.size];exact hjn)
  have hc1:cnt (fun i=> !(L.setIfInBounds j true).getD i true) m=fuel:=by
   have:=cnt_one (p:=fun i=> !L.getD i true) (q:=fun i=> !(L.setIfInBounds j true).getD i true) (i:=j) (by simp[hjL]) (by simp[g1]) (fun i hi=>by simp only[g2 i hi]) hjm
   omega
  obtain⟨L',mt',t',w',r',I',hall,s2⟩:=Inv.run few last he c1 c2 hT0 b dfs cs k fuel _ _ mt1 t1 w1 r1 I1 hc1
  exact⟨L',mt',t',w',r',I',hall,s1.trans s2⟩
/-- A region whose order is open ends as in the order of the text. -/
theorem Pre.draw_ok (few:ops.size≤m+1)(last: ∀j,m≤j→j<ops.size→ ∀i,i<m→Bf ops j i)(he:EnvTy E)(c1:CallOK E call)(c2:RoundOK E round){w0 w:World}{r:Inj}{t:Array Value}(hT:TmR r glob (x.Tm 0) t)(ht:t.size=N)(hr:Rel w0 r (x.Mm 0) w)(hfr:Fresh r (x.Nx 0) (x.Nx m))
  (b:Frame) (dfs:List Deferred) (cs:List Frame) (k:List Item) (tp:Nat):
  ∃t' w' r',(∀s s':St,s.next=x.Nx 0→s'.next=x.Nx m→s'.mem=x.Mm m→Goes w0 r s s' r' w')∧TmR r' glob (x.Tm m) t'∧t'.size=N∧SlR r' (fun _=>True) (dsAt ops.toList m) (x.Rh m) (x.Tm m) t'∧(∀d,d∉dstL ops.toList→t'[d]?=t[d]?)∧
   Steps E.P (lone (frm b t dfs (.inRegion ops (Region.linearise .any ops tp)::k)) cs w) (lone (frm b t' dfs (.inRegion ops (List.range' m (ops.size-m))::k)) cs w'):=by
 have hL: ∀i,i<ops.size→(Array.replicate ops.size false).getD i true=false:=fun i hi=>by
  rw[Array.getD_eq_getD_getElem?,Array.getElem?_replicate,if_pos hi];rfl
 have I0:Inv ops x m N w0 r t (Array.replicate ops.size false) (x.Mm 0) t w r:=by
  refine⟨by simp,hr,fun j _ hj=>hL j hj,fun l=> ?_,fun b h1 h2 h3=> ?_,fun i o d hi hl=> ?_,fun _ _=>rfl,ht,Inj.le_refl r,fun _ h=> .inl h,fun _ h=> .inl h,fun j hj hl=> ?_⟩
  ·rw[memD_high (j:=0) (Nat.zero_le _)]
   ·rfl
   ·intro i _ hi hd;rw[hL i (Nat.lt_of_lt_of_le hi H.len)]at hd;cases hd
  ·obtain⟨a1,a2⟩:=hfr b h1 h2
   rcases h3 with h3|h3
   ·exact absurd a1 h3
   ·exact absurd a2 h3
  ·rw[hL i (Array.getElem?_eq_some_iff.1 hi).1]at hl;cases hl
  ·rw[hL j (Nat.lt_of_lt_of_le hj H.len)]at hl;cases hl
 have hc:cnt (fun i=> !(Array.replicate ops.size false).getD i true) m=m:=by
  rw[cnt_congr (q:=fun _=>true) fun i hi=>by rw[hL i (Nat.lt_of_lt_of_le hi H.len)];rfl]
  exact cnt_all _
 obtain⟨L',mt',t',w',r',I,hall,s⟩:=Inv.run H few last he c1 c2 (w0:=w0) (r0:=r) (t0:=t) hT b dfs cs k m tp _ _ _ _ _ I0 hc
 have hfuel:m+(ops.size-m)=ops.size:=by have:=H.len;omega
 rw[hfuel]at s
 have hmem: ∀l,T.get (x.Mm m) l=T.get mt' l:=fun l=>by
  rw[I.mem l]
  exact(memD_low H (Nat.le_refl _) fun i hi _=>hall i hi).symm
 have hT':TmR r' glob (x.Tm m) t':=by
  intro y v e
  rcases H.tm (Nat.le_refl _) e with⟨q,oq,a1,a2,a3,a4,a5⟩|⟨a1,a2⟩
  ·rw[a5]
   exact⟨a4,I.slot q oq y a2 (hall q a1) a3⟩
  ·obtain⟨p1,v',p2,p3⟩:=hT y v a1
   refine⟨p1,v', ?_,p3.mono I.le⟩
   rw[I.keep y]
   ·exact p2
   ·intro i oi hoi hLi hdi
    have hi0:i<ops.size:=(Array.getElem?_eq_some_iff.1 hoi).1
    rcases Nat.lt_or_ge i m with h|h
    ·rw[a2 i oi h hoi hdi]at p1
     cases p1
    ·rw[I.off i h hi0]at hLi;cases hLi
 refine⟨t',w',r',fun s s' e1 e2 e3=>⟨I.le,by rw[e1,e2];exact H.nx (Nat.zero_le _) (Nat.le_refl _),fun b hb=>by rw[e1,e2];exact I.domB b hb,fun b hb=>by rw[e1,e2];exact I.domE b hb, ?_⟩,hT',I.tsz,⟨fun p d v _ e1 e2=> ?_,fun y v _ e=>(hT' y v e).2⟩,fun d hd=>I.keep d fun i o ho _ hx=>hd (mem_dstL (by rw[Array.mem_toList_iff];exact Array.mem_of_getElem? ho) hx),s⟩
 ·rw[e3]
  exact I.rel.less fun l c e=>by rw[←hmem l];exact e
 ·obtain⟨q,oq,a1,a2,a3,a4⟩:=(H.ds (Nat.le_refl m)).2.1 p d e1
  rw[a4]at e2
  cases e2
  exact I.slot q oq d a2 (hall q a1) a3
/-- An order up to an operation that panics:what stands behind it waits for it;what it need not wait for makes nothing and turns nothing. -/
theorem Inv.runP (late: ∀q,m<q→q<ops.size→Bf ops q m)(free: ∀i,i<m→ ¬Bf ops m i→(∀l,¬x.Wr i l))(he:EnvTy E)(c1:CallOK E call)(c2:RoundOK E round){w0:World}{r0:Inj}{t0:Array Value}(hT0:TmR r0 glob (x.Tm 0) t0)(b:Frame)(dfs:List Deferred)(cs:List Frame)(k:List Item){base:List Deferred×List Frame}
  {o:Oper} {g:Option (Nat×Bool)} {f:OpT} (ho:ops[m]?=some o) (hg:compG ops.toList (dsAt ops.toList m) o.guard=some g) (hcomp:compOp E (dsAt ops.toList m) o.op= .mk f) {c:List PanicEntry} {sd s2:St} (hsm:sd.mem=x.Mm m) (hsn:sd.next=x.Nx m) (hbnd:Bnd sd)
  (hcx:CxR r0 base sd.cx b dfs cs) (hfr:Fresh r0 (x.Nx 0) s2.next) (e:wantG g (x.Rh m) (f call round (x.Rh m) (x.Tm m)) sd=rOf (.inr c) s2):
  ∀(fuel tp:Nat) (L:Array Bool) (mt:T Cell) (t:Array Value) (w:World) (r:Inj),Inv ops x m N w0 r0 t0 L mt t w r→cnt (fun i=> !L.getD i true) m=fuel→
   ∃t' w' r' dfs' cs' ch' td,r0.le r'∧Rel w0 r' s2.mem w'∧(∀b,r'.blk b≠none→r0.blk b≠none∨(x.Nx 0≤b∧b<s2.next))∧(∀b,r'.ext b≠none→r0.ext b≠none∨(x.Nx 0≤b∧b<s2.next))∧CxR r' base s2.cx b dfs' cs'∧ChR r' c ch'∧t'.size=N∧(∀d,d∉dstL ops.toList→t'[d]?=t0[d]?)∧
    Steps E.P (lone (frm b t dfs (.inRegion ops (Region.linearise.go .any ops (fuel+(ops.size-m)) tp L [])::k)) cs w) (lone {frm b t' dfs' td with mode:= .panicking ch'} cs' w'):=by
 have hmn:m<ops.size:=(Array.getElem?_eq_some_iff.1 ho).1
 have hle:x.Nx 0≤x.Nx m:=H.nx (Nat.zero_le _) (Nat.le_refl _)
 obtain⟨hloc,hop⟩:=opG_ok (ops:=ops) (keep:=keepD o.dst glob) he ho hg hcomp
 obtain⟨Rd,Wr,dr,dw,gl,_,_⟩:=(hloc call round c1 c2 (x.Rh m) (x.Tm m)).at' sd (.inr c) s2 e hbnd
 obtain⟨d1,d2,d3⟩:=H.ds (Nat.le_refl m)
 have fire: ∀(L:Array Bool) (mt:T Cell) (t:Array Value) (w:World) (r:Inj) (rest:List Nat),Inv ops x m N w0 r0 t0 L mt t w r→(∀i,Bf ops m i→L.getD i true=true)→
   ∃t' w' r' dfs' cs' ch' td,r0.le r'∧Rel w0 r' s2.mem w'∧(∀b,r'.blk b≠none→r0.blk b≠none∨(x.Nx 0≤b∧b<s2.next))∧(∀b,r'.ext b≠none→r0.ext b≠none∨(x.Nx 0≤b∧b<s2.next))∧CxR r' base s2.cx b dfs' cs'∧ChR r' c ch'∧t'.size=N∧(∀d,d∉dstL ops.toList→t'[d]?=t0[d]?)∧
    Steps E.P (lone (frm b t dfs (.inRegion ops (m::rest)::k)) cs w) (lone {frm b t' dfs' td with mode:= .panicking ch'} cs' w'):=by
  intro L mt t w r rest I before
  have hmem: ∀l,T.get mt l=T.get sd.mem l:=fun l=>by
   rw[I.mem l,hsm]
   refine memD_low H (Nat.le_refl _) fun i hi hw=> ?_
   by_cases hb:Bf ops m i
   ·exact before i hb
   ·exact absurd hw (free i hi hb l)
  have slots:SlR r (fun y=>y∈looksL ops.toList o) (dsAt ops.toList m) (x.Rh m) (x.Tm m) t:=by
   constructor
   ·intro p d v hu e1 e2
    obtain⟨q,oq,a1,a2,a3,a4⟩:=d2 p d e1
    rw[a4]at e2
    cases e2
    have hb:=H.looks ho a2 a3 hu (by omega)
    rw[Nat.max_eq_right (by omega),Nat.min_eq_left (by omega)]at hb
    exact I.slot q oq d a2 (before q hb) a3
   ·intro y v hu e1
    rcases H.tm (Nat.le_refl m) e1 with⟨q,oq,a1,a2,a3,a4,a5⟩|⟨a1,a2⟩
    ·have hb:=H.looks ho a2 a3 hu (by omega)
     rw[Nat.max_eq_right (by omega),Nat.min_eq_left (by omega)]at hb
     rw[a5]
     exact I.slot q oq y a2 (before q hb) a3
    ·obtain⟨p1,v',p2,p3⟩:=hT0 y v a1
     refine⟨v', ?_,p3.mono I.le⟩
     rw[I.keep y]
     ·exact p2
     ·intro i oi hoi hLi hdi
      have hi0:i<ops.size:=(Array.getElem?_eq_some_iff.1 hoi).1
      rcases Nat.lt_or_ge i m with h|h
      ·rw[a2 i oi h hoi hdi]at p1;cases p1
      ·rw[I.off i h hi0]at hLi;cases hLi
  obtain⟨t',q1,q2,q3,q4,q5,q6,q7,q8⟩:=gl.any ⟨mt,sd.next,sd.lim,sd.rd,sd.wr,sd.cx⟩ rfl rfl rfl fun l _=>hmem l
  have hmem2: ∀l,T.get t'.mem l=T.get s2.mem l:=fun l=>by
   by_cases hw:Wr l
   ·exact q7 l hw
   ·rw[q8 l hw,gl.old l hw]
    exact hmem l
  have hfr2:Fresh r sd.next t'.next:=by
   intro b' h1 h2
   rw[hsn]at h1
   rw[q2]at h2
   obtain⟨n1,n2⟩:=hfr b' (Nat.le_trans hle h1) h2
   constructor
   ·refine Classical.byContradiction fun h=> ?_
    rcases I.domB b' h with h|h
    ·exact h n1
    ·omega
   ·refine Classical.byContradiction fun h=> ?_
    rcases I.domE b' h with h|h
    ·exact h n2
    ·omega
  obtain⟨w',r',dfs',cs',k1,k2,k3,ch',td,k4,k5⟩:=hop call round c1 c2 w0 w r _ (x.Rh m) (x.Tm m) b t dfs cs base ⟨mt,sd.next,sd.lim,sd.rd,sd.wr,sd.cx⟩ (.inr c) t' slots (fun _ h=>h) d1 I.rel (hcx.mono I.le) hbnd hfr2 q1 rest k
  have hnx:sd.next≤s2.next:=gl.nxt
  refine⟨t,w',r',dfs',cs',ch',td,Inj.le_trans I.le k1.le,k1.rel.less fun l c e=>by rw[hmem2 l];exact e,fun b' h=> ?_,fun b' h=> ?_,by rw[←q4];exact k2,k4,I.tsz,fun d hd=>I.keep d fun i oi hi _ hx=>hd (mem_dstL (by rw[Array.mem_toList_iff];exact Array.mem_of_getElem? hi) hx),k5⟩
  ·rcases k1.domB b' h with h|h
   ·rcases I.domB b' h with h|h
    ·exact .inl h
    ·exact .inr ⟨h.1,by omega⟩
   ·rw[q2]at h
    have h1:sd.next≤b':=h.1
    exact .inr ⟨by omega,h.2⟩
  ·rcases k1.domE b' h with h|h
   ·rcases I.domE b' h with h|h
    ·exact .inl h
    ·exact .inr ⟨h.1,by omega⟩
   ·rw[q2]at h
    have h1:sd.next≤b':=h.1
    exact .inr ⟨by omega,h.2⟩
 have goE: ∀(n tp:Nat) (L:Array Bool) (i:Nat),(Region.ready .any ops L)[tp%(Region.ready .any ops L).length]?=some i→Region.linearise.go .any ops (n+1) tp L []=i::Region.linearise.go .any ops n (tp/(Region.ready .any ops L).length) (L.setIfInBounds i true) []:=by
  intro n tp L i hi
  have h0:Region.linearise.go .any ops (n+1) tp L []=match (Region.ready .any ops L)[tp%(Region.ready .any ops L).length]? with
   |some i=>Region.linearise.go .any ops n (tp/(Region.ready .any ops L).length) (L.setIfInBounds i true) [i]
   |none=>[].reverse:=rfl
  rw[h0,hi]
  simp only
  rw[linearise_go_acc]
  rfl
 intro fuel
 induction fuel with
 |zero=>
  intro tp L mt t w r I hc
  have hall: ∀i,i<m→L.getD i true=true:=fun i hi=>by
   have:=cnt_zero hc i hi
   simpa using this
  have hmem:=ready_at H I.size hmn (I.off m (Nat.le_refl _) hmn) hall
  have hlen:0<(Region.ready .any ops L).length:=List.length_pos_iff.2 (List.ne_nil_of_mem hmem)
  obtain⟨j,hj⟩: ∃j,(Region.ready .any ops L)[tp%(Region.ready .any ops L).length]?=some j:=⟨_,List.getElem?_eq_getElem (Nat.mod_lt _ hlen)⟩
  obtain⟨p1,p2,p3⟩:=ready_some I.size (List.mem_of_getElem? hj)
  have hjm:j=m:=by
   rcases Nat.lt_trichotomy j m with q|q|q
   ·rw[hall j q]at p2;cases p2
   ·exact q
   ·have:=I.before H p1 p3 m (late j q p1)
    rw[I.off m (Nat.le_refl _) hmn]at this
    cases this
  subst hjm
  rw[show 0+(ops.size-j)=(ops.size-j-1)+1 by omega,goE _ _ _ _ hj]
  exact fire L mt t w r _ I (I.before H p1 p3)
 |succ fuel ih=>
  intro tp L mt t w r I hc
  have hne:=ready_ne H I.size (by rw[hc];omega)
  have hlen:0<(Region.ready .any ops L).length:=List.length_pos_iff.2 hne
  obtain⟨j,hj⟩: ∃j,(Region.ready .any ops L)[tp%(Region.ready .any ops L).length]?=some j:=⟨_,List.getElem?_eq_getElem (Nat.mod_lt _ hlen)⟩
  have hmem:=List.mem_of_getElem? hj
  obtain⟨p1,p2,p3⟩:=ready_some I.size hmem
  rw[show fuel+1+(ops.size-m)=(fuel+(ops.size-m))+1 by omega,goE _ _ _ _ hj]
  rcases Nat.lt_trichotomy j m with q|q|q
  ·obtain⟨mt1,t1,w1,r1,I1,s1⟩:=I.step H he c1 c2 hT0 hmem q b dfs cs k (Region.linearise.go .any ops (fuel+(ops.size-m)) (tp/(Region.ready .any ops L).length) (L.setIfInBounds j true) [])
   obtain⟨g1,g2⟩:=getD_set (L:=L) (j:=j) (by rw[I.size];exact p1)
   have hc1:cnt (fun i=> !(L.setIfInBounds j true).getD i true) m=fuel:=by
    have:=cnt_one (p:=fun i=> !L.getD i true) (q:=fun i=> !(L.setIfInBounds j true).getD i true) (i:=j) (by simp[p2]) (by simp[g1]) (fun i hi=>by simp only[g2 i hi]) q
    omega
   obtain⟨t',w',r',dfs',cs',ch',td,z1,z2,z3,z4,z5,z6,z7,z8,z9⟩:=ih _ _ mt1 t1 w1 r1 I1 hc1
   exact⟨t',w',r',dfs',cs',ch',td,z1,z2,z3,z4,z5,z6,z7,z8,s1.trans z9⟩
  ·subst q
   exact fire L mt t w r _ I (I.before H p1 p3)
  ·have:=I.before H p1 p3 m (late j q p1)
   rw[I.off m (Nat.le_refl _) hmn]at this
   cases this
/-- A region whose order is open panics in its midst as in the order of the text. -/
theorem Pre.pan_ok (late: ∀q,m<q→q<ops.size→Bf ops q m)(free: ∀i,i<m→ ¬Bf ops m i→(∀l,¬x.Wr i l))(he:EnvTy E)(c1:CallOK E call)(c2:RoundOK E round){w0 w:World}{r:Inj}{t:Array Value}(hT:TmR r glob (x.Tm 0) t)(ht:t.size=N)(hr:Rel w0 r (x.Mm 0) w)
  (b:Frame) (dfs:List Deferred) (cs:List Frame) (k:List Item) {base:List Deferred×List Frame} {o:Oper} {g:Option (Nat×Bool)} {f:OpT} (ho:ops[m]?=some o) (hg:compG ops.toList (dsAt ops.toList m) o.guard=some g) (hcomp:compOp E (dsAt ops.toList m) o.op= .mk f) {c:List PanicEntry} {sd s2:St} (hsm:sd.mem=x.Mm m) (hsn:sd.next=x.Nx m) (hbnd:Bnd sd)
  (hcx:CxR r base sd.cx b dfs cs) (hfr:Fresh r (x.Nx 0) s2.next) (e:wantG g (x.Rh m) (f call round (x.Rh m) (x.Tm m)) sd=rOf (.inr c) s2) (tp:Nat):
  ∃t' w' r' dfs' cs' ch' td,r.le r'∧Rel w0 r' s2.mem w'∧(∀b,r'.blk b≠none→r.blk b≠none∨(x.Nx 0≤b∧b<s2.next))∧(∀b,r'.ext b≠none→r.ext b≠none∨(x.Nx 0≤b∧b<s2.next))∧CxR r' base s2.cx b dfs' cs'∧ChR r' c ch'∧t'.size=N∧(∀d,d∉dstL ops.toList→t'[d]?=t[d]?)∧
   Steps E.P (lone (frm b t dfs (.inRegion ops (Region.linearise .any ops tp)::k)) cs w) (lone {frm b t' dfs' td with mode:= .panicking ch'} cs' w'):=by
 have hL: ∀i,i<ops.size→(Array.replicate ops.size false).getD i true=false:=fun i hi=>by
  rw[Array.getD_eq_getD_getElem?,Array.getElem?_replicate,if_pos hi];rfl
 have hmn:m<ops.size:=(Array.getElem?_eq_some_iff.1 ho).1
 have hnm:x.Nx m≤s2.next:=by
  obtain⟨hloc,_⟩:=opG_ok (ops:=ops) (keep:=keepD o.dst glob) he ho hg hcomp
  have:=((hloc call round c1 c2 (x.Rh m) (x.Tm m)).at' sd (.inr c) s2 e hbnd).next
  rw[hsn]at this
  exact this
 have I0:Inv ops x m N w0 r t (Array.replicate ops.size false) (x.Mm 0) t w r:=by
  refine⟨by simp,hr,fun j _ hj=>hL j hj,fun l=> ?_,fun b h1 h2 h3=> ?_,fun i o d hi hl=> ?_,fun _ _=>rfl,ht,Inj.le_refl r,fun _ h=> .inl h,fun _ h=> .inl h,fun j hj hl=> ?_⟩
  ·rw[memD_high (j:=0) (Nat.zero_le _)]
   ·rfl
   ·intro i _ hi hd;rw[hL i (Nat.lt_of_lt_of_le hi H.len)]at hd;cases hd
  ·obtain⟨a1,a2⟩:=hfr b h1 (Nat.lt_of_lt_of_le h2 hnm)
   rcases h3 with h3|h3
   ·exact absurd a1 h3
   ·exact absurd a2 h3
  ·rw[hL i (Array.getElem?_eq_some_iff.1 hi).1]at hl;cases hl
  ·rw[hL j (Nat.lt_of_lt_of_le hj H.len)]at hl;cases hl
 have hc:cnt (fun i=> !(Array.replicate ops.size false).getD i true) m=m:=by
  rw[cnt_congr (q:=fun _=>true) fun i hi=>by rw[hL i (Nat.lt_of_lt_of_le hi H.len)];rfl]
  exact cnt_all _
 have:=Inv.runP H late free he c1 c2 (w0:=w0) (r0:=r) (t0:=t) hT b dfs cs k ho hg hcomp hsm hsn hbnd hcx hfr e m tp _ _ _ _ _ I0 hc
 rw[show m+(ops.size-m)=ops.size by omega]at this
 exact this
end
end Go.Proofs.YtapojfiplajfaaaGreatDoor.Am
/- Frames beside the evaluator's:one step in the midst of a body. -/
namespace Go.Proofs.YtapojfiplajfaaaGreatDoor.Am
open Go.RowKit
def RoR (r:Inj):Option Nat→Option Nat→Prop
 |none,none=>True
 |some l,some l'=> ∃d,r.blk l=some (l',d)
 |_,_=>False
theorem RoR.mono {r r':Inj}(h:r.le r'){a b:Option Nat}(k:RoR r a b):RoR r' a b:=by
 cases a<;>cases b<;>simp only[RoR]at k ⊢
 obtain⟨d,k⟩:=k
 exact⟨d,h.1 _ _ k⟩
structure FR (P:Program)(r:Inj)(af:AF)(cx:Ctx)(base:List Deferred×List Frame)(fr:Frame)(cs:List Frame):Prop where
 fn:fr.fn=af.fn
 size:fr.tmps.size=af.n
 tm:TmR r af.glob af.tmps fr.tmps
 todo:af.mode= .run→fr.todo=af.todo
 mode:MoR r af.mode fr.mode
 round:RoR r af.roundOf fr.roundOf
 rk:fr.roundOf≠none→fr.kind= .normal
 known:fr.roundOf=none→ ∃fn,P.funcs[fr.fn]?=some fn
 cx:CxR r base cx fr fr.defers cs
/-- A frame at an end of its own:what it hands to the one that called it. -/
def doneF (k:CallKind)(c:Frame)(v:Value):Frame:=
 match k with
 | .deferred=>(match c.mode with
  | .panicking ({recovered:=true, .. }::older)=>(match older.dropWhile (!·.goexit)with
   |[]=>{c with mode:= .returning}
   |rest=>{c with mode:= .panicking rest})
  |_=>c)
 |_=>c.finish v
def Kin (fr fr':Frame):Prop:=(fr'.kind,fr'.roundOf,fr'.fn)=(fr.kind,fr.roundOf,fr.fn)
def FinE (P:Program)(r:Inj)(base:List Deferred×List Frame)(cx':Ctx)(fr:Frame)(m:Machine)(w':World)(out:Out (Value×FrameMode)):Prop:=
 ∃cs',((fr.kind= .normal∧cs'=base.2)∨ ∃u c0 rest m',cx'= .cx (some u) (some [])∧fr.kind= .deferred∧base.2=c0::rest∧cs'={c0 with mode:=m'}::rest∧MoR r u m'∧ ∀v up,out= .inl (v,up)→up=u)∧
  match out with
  | .inl (v,_)=> ∃v',VR r v v'∧(∀c rest,cs'=c::rest→Steps P m (lone (doneF fr.kind c v') rest w'))∧(fr.roundOf=none→fr.kind= .normal→ ∃fr',fr'.fn=fr.fn∧fr'.leaving P w' (.returned v')∧Steps P m (lone fr' cs' w'))
  | .inr ch=> ∃ch',ChR r ch ch'∧ ∀c rest,cs'=c::rest→Steps P m (lone (c.raise ch') rest w')
/-- What comes of a step. -/
def StepE (P:Program)(r:Inj)(base:List Deferred×List Frame)(cx':Ctx)(fr:Frame)(m:Machine)(w':World)(out:Out Step):Prop:=
 match out with
 | .inl (.go af')=> ∃fr' cs',Kin fr fr'∧FR P r af' cx' base fr' cs'∧Steps P m (lone fr' cs' w')
 | .inl (.fin v up)=>FinE P r base cx' fr m w' (.inl (v,up))
 | .inr ch=>FinE P r base cx' fr m w' (.inr ch)
structure EnvOK (E:Env):Prop where
 ty:EnvTy E
 fn : ∀ f fn, E.fn.get f = some fn → E.P.funcs[f]? = some fn ∧ fn.name ≠ "runtime.NumGoroutine"
 mixed:E.P.follows .mixedOrders=true
 orcLoc: ∀f m,E.orc.get f=some m→ ∀args,Loc (m args)
 orc: ∀{f:Nat} {m:List Value→M Value},E.orc.get f=some m→ ∀{w0 w:World} {r:Inj} {args args':List Value} {s:St} {out:Out Value} {s':St},m args s=rOf out s'→Rel w0 r s.mem w→Bnd s→Fresh r s.next s'.next→VRs r args args'→
  (∀w,(callFunc f args'.toArray).run E.P w= .ok (.enter f args'.toArray) w)∧
  ∀c cs,∃w' r',Goes w0 r s s' r' w'∧s'.lim=s.lim∧s'.cx=s.cx∧Ends E.P r' out (lone (Frame.enter E.P f args'.toArray .normal) (c::cs) w) c cs w'
 extLoc: ∀f m,E.ext.get f=some m→ ∀args,Loc (m args)
 ext: ∀{f:Nat} {m:List Value→M Value},E.ext.get f=some m→ ∀{w0 w:World} {r:Inj} {args args':List Value} {s:St} {out:Out Value} {s':St},m args s=rOf out s'→Rel w0 r s.mem w→VRs r args args'→
  AtOnce E.P w0 w r s f args' out s'
/-! ### The machine's small steps -/
section
variable {P:Program}{b:Frame}{t:Array Value}{d:List Deferred}{k:List Item}{cs:List Frame}{w:World}
theorem sf_skip:step P (lone (frm b t d (.code .skip::k)) cs w)= .next (lone (frm b t d k) cs w):=step_lone_go (by simp[stepG,stepG.exec,frm])
theorem sf_label {l:Nat}:step P (lone (frm b t d (.code (.label l)::k)) cs w)= .next (lone (frm b t d k) cs w):=step_lone_go (by simp[stepG,stepG.exec,frm])
theorem sf_inBlock {id:Nat}:step P (lone (frm b t d (.inBlock id::k)) cs w)= .next (lone (frm b t d k) cs w):=step_lone_go (by simp[stepG,stepG.exec,frm])
theorem sf_inScope {c:Code}:step P (lone (frm b t d (.inScope c::k)) cs w)= .next (lone (frm b t d k) cs w):=step_lone_go (by simp[stepG,stepG.exec,frm])
theorem sf_seq {x y:Code}:step P (lone (frm b t d (.code (.seq x y)::k)) cs w)= .next (lone (frm b t d (.code x:: .code y::k)) cs w):=step_lone_go (by simp[stepG,stepG.exec,frm])
theorem sf_block {id:Nat}{c:Code}:step P (lone (frm b t d (.code (.block id c)::k)) cs w)= .next (lone (frm b t d (.code c:: .inBlock id::k)) cs w):=step_lone_go (by simp[stepG,stepG.exec,frm])
theorem sf_loop {c:Code}:step P (lone (frm b t d (.code (.loop c)::k)) cs w)= .next (lone (frm b t d (.code c:: .inLoop c::k)) cs w):=step_lone_go (by simp[stepG,stepG.exec,frm])
theorem sf_inLoop {c:Code}:step P (lone (frm b t d (.inLoop c::k)) cs w)= .next (lone (frm b t d (.code c:: .inLoop c::k)) cs w):=step_lone_go (by simp[stepG,stepG.exec,frm])
theorem sf_scope {c:Code}:step P (lone (frm b t d (.code (.scope c)::k)) cs w)= .next (lone (frm b t d (.code c:: .inScope c::k)) cs w):=step_lone_go (by simp[stepG,stepG.exec,frm])
theorem sf_exit {id:Nat}{k':List Item}(h:exitTo id k=some k'):step P (lone (frm b t d (.code (.exit id)::k)) cs w)= .next (lone (frm b t d k') cs w):=step_lone_go (by simp[stepG,stepG.exec,frm,h])
theorem sf_goto {l:Nat}{k':List Item}(h:gotoIn l k=some k'):step P (lone (frm b t d (.code (.goto l)::k)) cs w)= .next (lone (frm b t d k') cs w):=step_lone_go (by simp[stepG,stepG.exec,frm,h])
theorem sf_cond {c:Operand}{x y:Code}{tt:Bool}(h:Act.eval ⟨t,d⟩ c= .bool tt):step P (lone (frm b t d (.code (.cond c x y)::k)) cs w)= .next (lone (frm b t d (.code (if tt then x else y)::k)) cs w):=
 step_lone_go (by
  have:=congrFun (frm_eval b t d (.code (.cond c x y)::k)) c
  rw[h]at this
  simp only[frm]at this
  simp[stepG,stepG.exec,frm,this])
theorem sf_ret (hr:b.roundOf=none):step P (lone (frm b t d (.code .ret::k)) cs w)= .next (lone {frm b t d (.code .ret::k)with mode:= .returning} cs w):=step_lone_go (by simp[stepG,stepG.exec,frm,hr])
theorem sf_end (hr:b.roundOf=none):step P (lone (frm b t d []) cs w)= .next (lone {frm b t d []with mode:= .returning} cs w):=step_lone_go (by simp[stepG,stepG.exec,frm,hr])
theorem skim_ok: ∀(n:Nat) (l:List Item),Steps P (lone (frm b t d l) cs w) (lone (frm b t d (skim n l)) cs w)
 |0,l=> .refl _ _
 |n+1,l=>by
  unfold skim
  split
  ·exact .head sf_skip (skim_ok n _)
  ·exact .head sf_label (skim_ok n _)
  ·exact .head sf_inBlock (skim_ok n _)
  ·exact .head sf_inScope (skim_ok n _)
  ·exact .head sf_seq (skim_ok n _)
  ·exact .head sf_block (skim_ok n _)
  ·exact .head sf_loop (skim_ok n _)
  ·exact .head sf_inLoop (skim_ok n _)
  ·exact .head sf_scope (skim_ok n _)
  ·split
   ·exact .head (sf_exit (by assumption)) (skim_ok n _)
   ·exact .refl _ _
  ·exact .refl _ _
theorem run_getLoop {l:Nat}{L:Loop}(h:w.heap[l]?=some (.loop L)):(Instr.getLoop l).run P w= .ok L w:=by simp[Instr.getLoop,getObj,Sem.run,h]
theorem run_setLoop {l:Nat}{L L2:Loop}(h:w.heap[l]?=some (.loop L)):(setObj l (.loop L2)).run P w= .ok () (World.setO w l (.loop L2)):=by simp[setObj,Sem.run,h,World.setO]
/-- How a round is left. -/
theorem sf_leaveRound {l:Nat}{L:Loop}{todo:List Item}{jump:Option Code}(hr:b.roundOf=some l)(hk:b.kind= .normal)(hL:w.heap[l]?=some (.loop L)){c:Frame}{rest:List Frame}
  (ht:(todo=[]∧jump=none)∨(∃k,todo= .code .ret::k∧jump=some .ret)∨(∃id k,todo= .code (.exit id)::k∧exitTo id k=none∧jump=some (.exit id))∨(∃g k,todo= .code (.goto g)::k∧gotoIn g k=none∧jump=some (.goto g))):
  step P (lone (frm b t d todo) (c::rest) w)= .next (lone (c.finish (.bool jump.isNone)) rest (World.setO w l (.loop {L with state:=if jump.isNone then .ready else .done,pending:=jump}))):=by
 have hrun:(Instr.endRound l jump).run P w= .ok (.bool jump.isNone) (World.setO w l (.loop {L with state:=if jump.isNone then .ready else .done,pending:=jump})):=by
  simp only[Instr.endRound,Sem.run_bind,run_getLoop hL,Result.andThen_ok,run_setLoop hL,Sem.run_pure]
 refine step_lone_go ?_
 rcases ht with⟨rfl,rfl⟩|⟨k,rfl,rfl⟩|⟨id,k,rfl,e,rfl⟩|⟨g,k,rfl,e,rfl⟩<;>simp_all [stepG,stepG.exec,frm,doReturn]
end
section
variable {E:Env}{call round:CallT}{w0 w:World}{r:Inj}{base:List Deferred×List Frame}
theorem FR.frm {P:Program}{af:AF}{cx:Ctx}{fr:Frame}{cs:List Frame}(h:FR P r af cx base fr cs)(hm:af.mode= .run):fr=frm fr fr.tmps fr.defers af.todo:=by
 have h1:=h.todo hm
 have h2:=h.mode
 rw[hm]at h2
 obtain⟨a,b,c,d,e,f,g⟩:=fr
 simp only at h1
 cases h2
 rw[h1]
 rfl
/-- Another list of what is to be done. -/
theorem FR.to {P:Program}{af:AF}{cx:Ctx}{fr:Frame}{cs:List Frame}(h:FR P r af cx base fr cs)(k:List Item):FR P r {af with todo:=k,mode:= .run} cx base (Am.frm fr fr.tmps fr.defers k) cs:=
 ⟨h.fn,h.size,h.tm,fun _=>rfl, .run,h.round,h.rk,h.known,h.cx⟩
theorem goTo_eq (af:AF)(k:List Item)(s:St):goTo af k s= .some (.go {af with todo:=k}) s:=rfl
theorem goTm_eq (af:AF)(k:List Item)(tm:T Value)(s:St):goTm af k tm s= .some (.go {af with todo:=k,tmps:=tm}) s:=rfl
theorem endR_ok {af:AF}{fr:Frame}{cs:List Frame}{s s':St}{out:Out Step}{l:Nat}{jump:Option Code}(h:endR l jump s=rOf out s')(hF:FR E.P r af s.cx base fr cs)(hm:af.mode= .run)(hr:Rel w0 r s.mem w)(hro:af.roundOf=some l)
  (hcs:cs=base.2) (ht:(af.todo=[]∧jump=none)∨(∃k,af.todo= .code .ret::k∧jump=some .ret)∨(∃id k,af.todo= .code (.exit id)::k∧exitTo id k=none∧jump=some (.exit id))∨(∃g k,af.todo= .code (.goto g)::k∧gotoIn g k=none∧jump=some (.goto g))):
  ∃w' r',Goes w0 r s s' r' w'∧s'.lim=s.lim∧StepE E.P r' base s'.cx fr (lone fr cs w) w' out:=by
 unfold endR at h
 rcases bind_rOf h with⟨c,s1,e1,e2⟩|⟨c,e1,_⟩
 ·obtain⟨q1,q2⟩:=rdC_some e1
  cases c with
  |C a b=>exact(rOf_none e2).elim
  |O o=>
   cases o with
   |loop st pe f n g tm ps as bd df=>
    rcases bind_rOf e2 with⟨u,s2,e3,e4⟩|⟨c,e3,_⟩
    ·obtain⟨rfl,rfl⟩:=rOf_inl (show R.some (Step.fin (.bool jump.isNone) .run) s2=rOf out s' from e4)
     obtain⟨b',d,o',g1,g2,g3⟩:=hr.obj _ _ q1 rfl
     have hro2:=hF.round
     rw[hro]at hro2
     cases hfr:fr.roundOf with
     |none=>rw[hfr]at hro2;exact hro2.elim
     |some l'=>
      rw[hfr]at hro2
      obtain⟨d',hro2⟩:=hro2
      rw[g1]at hro2
      cases hro2
      cases o' with
      |loop L=>
       obtain⟨k1,k2,k3,k4,k5,k6,k7,k8,k9⟩:=g3
       have hOR:OR r (.loop (if jump.isNone then .ready else .done) jump f n g tm ps as bd df) (.loop {L with state:=if jump.isNone then .ready else .done,pending:=jump}):=⟨rfl,rfl,k3,k4,k5,k6,k7,k8,k9⟩
       obtain⟨p1,p2,p3⟩:=wrO_ok e3 (by rw[q2.1];exact hr) (by rw[q2.1];exact q1) rfl g1 hOR rfl
       refine⟨_,r,(Goes.same q2 hr).trans p1,p2.trans q2.2.2.1, ?_⟩
       have hkind:=hF.rk (by rw[hfr];simp)
       refine⟨cs, .inl ⟨hkind,hcs⟩, .bool jump.isNone, .bool _, ?_,fun e=>by rw[hfr]at e;cases e⟩
       intro c rest hc
       subst hc
       rw[hkind,hF.frm hm]
       exact .one (sf_leaveRound hfr hkind g2 ht)
      |_=>exact g3.elim
    ·exact((np_wrC _ _).no _ _ _ e3).elim
   |_=>exact(rOf_none e2).elim
 ·exact((np_rdC _).no _ _ _ e1).elim
theorem leaveF_ok {af:AF}{fr:Frame}{cs:List Frame}{s s':St}{out:Out Step}{jump:Option Code}(h:leaveF af jump s=rOf out s')(hF:FR E.P r af s.cx base fr cs)(hm:af.mode= .run)(hr:Rel w0 r s.mem w)(hcs:af.roundOf≠none→cs=base.2)
  (ht:(af.todo=[]∧jump=none)∨(∃k,af.todo= .code .ret::k∧jump=some .ret)∨(∃id k,af.todo= .code (.exit id)::k∧exitTo id k=none∧jump=some (.exit id))∨(∃g k,af.todo= .code (.goto g)::k∧gotoIn g k=none∧jump=some (.goto g))):
  ∃w' r',Goes w0 r s s' r' w'∧s'.lim=s.lim∧StepE E.P r' base s'.cx fr (lone fr cs w) w' out:=by
 have h0:leaveF af jump=Option.rec (motive:=fun _=>M Step) (M.chk (jumpOk jump) (goMo af .returning af.tmps)) (fun l=>endR l jump) af.roundOf:=rfl
 rw[h0]at h
 cases hro:af.roundOf with
 |some l=>
  rw[hro]at h
  exact endR_ok h hF hm hr hro (hcs (by rw[hro];simp)) ht
 |none=>
  rw[hro]at h
  have hfro:fr.roundOf=none:=by
   have:=hF.round
   rw[hro]at this
   cases hx:fr.roundOf with
   |none=>rfl
   |some y=>rw[hx]at this;exact this.elim
  have fin: ∀{out:Out Step},M.pure (Step.go {af with mode:= .returning}) s=rOf out s'→step E.P (lone (frm fr fr.tmps fr.defers af.todo) cs w)= .next (lone {frm fr fr.tmps fr.defers af.todo with mode:= .returning} cs w)→
    ∃w' r',Goes w0 r s s' r' w'∧s'.lim=s.lim∧StepE E.P r' base s'.cx fr (lone fr cs w) w' out:=by
   intro out h hs
   obtain⟨rfl,rfl⟩:=rOf_inl h
   refine⟨w,r, .of_rel rfl hr,rfl,{frm fr fr.tmps fr.defers af.todo with mode:= .returning},cs,rfl,⟨hF.fn,hF.size,hF.tm,(fun e=>by cases e), .ret,hF.round,hF.rk,hF.known,hF.cx⟩, ?_⟩
   exact .one (by rw[hF.frm hm];exact hs)
  rcases ht with⟨e1,rfl⟩|⟨k,e1,rfl⟩|⟨id,k,e1,e2,rfl⟩|⟨g,k,e1,e2,rfl⟩
  ·exact fin h (by rw[e1];exact sf_end hfro)
  ·exact fin h (by rw[e1];exact sf_ret hfro)
  ·exact(rOf_none h).elim
  ·exact(rOf_none h).elim
/-- A step that only turns what is to be done. -/
theorem goTo_ok {af:AF}{fr:Frame}{cs:List Frame}{s s':St}{out:Out Step}{k:List Item}(h:goTo af k s=rOf out s')(hF:FR E.P r af s.cx base fr cs)(hm:af.mode= .run)(hr:Rel w0 r s.mem w)
  (hs:step E.P (lone (frm fr fr.tmps fr.defers af.todo) cs w)= .next (lone (frm fr fr.tmps fr.defers k) cs w)):
  ∃w' r',Goes w0 r s s' r' w'∧s'.lim=s.lim∧StepE E.P r' base s'.cx fr (lone fr cs w) w' out:=by
 obtain⟨rfl,rfl⟩:=rOf_inl ((goTo_eq af k s).symm.trans h)
 have hF':=hF.to k
 rw[←hm]at hF'
 exact⟨w,r, .of_rel rfl hr,rfl,frm fr fr.tmps fr.defers k,cs,rfl,hF', .one (by rw[hF.frm hm];exact hs)⟩
theorem jumpF_ok {af:AF}{fr:Frame}{cs:List Frame}{s s':St}{out:Out Step}{jump:Code}{k:Option (List Item)}(h:jumpF af jump k s=rOf out s')(hF:FR E.P r af s.cx base fr cs)(hm:af.mode= .run)(hr:Rel w0 r s.mem w)(hcs:af.roundOf≠none→cs=base.2)
  (hk: ∀k',k=some k'→step E.P (lone (frm fr fr.tmps fr.defers af.todo) cs w)= .next (lone (frm fr fr.tmps fr.defers k') cs w))
  (ht:k=none→(∃id k,af.todo= .code (.exit id)::k∧exitTo id k=none∧jump= .exit id)∨(∃g k,af.todo= .code (.goto g)::k∧gotoIn g k=none∧jump= .goto g)):
  ∃w' r',Goes w0 r s s' r' w'∧s'.lim=s.lim∧StepE E.P r' base s'.cx fr (lone fr cs w) w' out:=by
 cases k with
 |none=>
  refine leaveF_ok (jump:=some jump) h hF hm hr hcs ?_
  rcases ht rfl with⟨id,k,a,b,rfl⟩|⟨g,k,a,b,rfl⟩
  ·exact .inr (.inr (.inl ⟨id,k,a,b,rfl⟩))
  ·exact .inr (.inr (.inr ⟨g,k,a,b,rfl⟩))
 |some k'=>exact goTo_ok h hF hm hr (hk k' rfl)
end
end Go.Proofs.YtapojfiplajfaaaGreatDoor.Am
/- Frames beside the evaluator's:loops over functions,regions,code of every kind. -/
namespace Go.Proofs.YtapojfiplajfaaaGreatDoor.Am
open Go.RowKit
theorem fuse_eq: ∀(l:List COp),∃F,fuse l= .mk F∧ ∀call round rho tm s,F call round rho tm s=opsIn call round l rho tm s
 |[]=>⟨_,rfl,fun _ _ _ _ _=>rfl⟩
 |⟨g,d,keep,f⟩::l=>by
  obtain⟨k,h1,h2⟩:=fuse_eq l
  have key: ∀f':OpT,∃F,fuseK d keep f' k= .mk F∧ ∀call round rho tm s,F call round rho tm s=M.bind (f' call round rho tm) (fun v=>opsIn call round l (pushV d v rho) (keepT d keep v tm)) s:=by
   intro f'
   cases d with
   |none=>
    refine⟨_,rfl,fun call round rho tm s=> ?_⟩
    unfold M.bind
    simp only
    cases f' call round rho tm s with
    |none=>rfl
    |some v s1=>exact h2 _ _ _ _ _
    |pan c s1=>rfl
   |some d=>
    cases keep with
    |false=>
     refine⟨_,rfl,fun call round rho tm s=> ?_⟩
     unfold M.bind
     simp only
     cases f' call round rho tm s with
     |none=>rfl
     |some v s1=>exact h2 _ _ _ _ _
     |pan c s1=>rfl
    |true=>
     refine⟨_,rfl,fun call round rho tm s=> ?_⟩
     unfold M.bind
     simp only
     cases f' call round rho tm s with
     |none=>rfl
     |some v s1=>
      obtain⟨a,b,c,e⟩:=T.set_N tm d v
      simp only[e,keepT]
      exact h2 _ _ _ _ _
     |pan c s1=>rfl
  have h0:fuse (⟨g,d,keep,f⟩::l)=fuse1 ⟨g,d,keep,f⟩ k:=by
   show Cl.rec (motive:=fun _=>Cl RT) (fun k=>fuse1 ⟨g,d,keep,f⟩ k) (fuse l)=_
   rw[h1]
  rw[h0]
  cases g with
  |none=>
   obtain⟨F,q1,q2⟩:=key f
   exact⟨F,q1,fun call round rho tm s=>by rw[q2,opsIn_cons];rfl⟩
  |some p=>
   obtain⟨F,q1,q2⟩:=key (fun call round r tm=>wantG (some p) r (f call round r tm))
   exact⟨F,q1,fun call round rho tm s=>by rw[q2,opsIn_cons]⟩
noncomputable def delT (ds:List Nat)(t:T Value):T Value:=List.rec (motive:=fun _=>T Value) t (fun d _ t=>T.del t d) ds
theorem delT_get {tm:T Value}{y:Nat}{v:Value}: ∀{ds:List Nat},T.get (delT ds tm) y=some v→y∉ds∧T.get tm y=some v
 |[],h=>⟨by simp,h⟩
 |d::ds,h=>by
  replace h:T.get (T.del (delT ds tm) d) y=some v:=h
  rw[T.get_del]at h
  split at h
  ·cases h
  ·rename_i hne
   obtain⟨h1,h2⟩:=delT_get h
   exact⟨fun hm=>(List.mem_cons.1 hm).elim hne h1,h2⟩
section
variable {E:Env}{call round:CallT}{w0 w:World}{r:Inj}{base:List Deferred×List Frame}
theorem FR.csr {P:Program}{af:AF}{cx:Ctx}{fr:Frame}{cs:List Frame}(h:FR P r af cx base fr cs):af.roundOf≠none→cs=base.2:=by
 intro hne
 have hfr:fr.roundOf≠none:=by
  have:=h.round
  intro hx
  rw[hx]at this
  cases e:af.roundOf with
  |none=>exact hne e
  |some l=>rw[e]at this;exact this.elim
 have hk:=h.rk hfr
 have hc:=h.cx
 unfold CxR at hc
 cases cx with
 |no=>exact hc.2
 |cx up d=>
  cases up with
  |none=>exact hc.1.2
  |some m=>have:=hc.1.1;rw[hk]at this;cases this
theorem FR.slots {P:Program}{af:AF}{cx:Ctx}{fr:Frame}{cs:List Frame}(h:FR P r af cx base fr cs):SlR r (fun _=>True) [] [] af.tmps fr.tmps:=
 ⟨fun i d v _ e=>by simp at e,fun y v _ e=>(h.tm y v e).2⟩
theorem noP_rOf {α:Type}{m:M α}{o:Out α}{s s':St}(h:noP m s=rOf o s'): ∃a,o= .inl a∧m s= .some a s':=by
 unfold noP at h
 cases e:m s with
 |none=>rw[e]at h;exact(rOf_none h).elim
 |some a s1=>rw[e]at h;obtain⟨rfl,rfl⟩:=rOf_inl h;exact⟨a,rfl,rfl⟩
 |pan c s1=>rw[e]at h;exact(rOf_none h).elim
/-! ### Regions -/
theorem regF_ok (he:EnvOK E)(c1:CallOK E call)(c2:RoundOK E round){af:AF}{fr:Frame}{cs:List Frame}{s s':St}{out:Out Step}{ops:Array Oper}{cops:List COp}{F:RT}{id:Nat}{k:List Item}
  (hc:compOps E af.glob af.n ops.toList ops.toList []=some cops) (hF':fuse cops= .mk F) (h:regF call round af (dstL ops.toList) F k s=rOf out s') (hF:FR E.P r af s.cx base fr cs) (hm:af.mode= .run) (htodo:af.todo= .code (.region id ops false)::k)
  (hr:Rel w0 r s.mem w) (hb:Bnd s) (hf:Fresh r s.next s'.next):
  ∃w' r',Goes w0 r s s' r' w'∧s'.lim=s.lim∧StepE E.P r' base s'.cx fr (lone fr cs w) w' out:=by
 obtain⟨F2,q1,q2⟩:=fuse_eq cops
 rw[hF']at q1
 cases q1
 unfold regF at h
 rw[q2]at h
 have hstart:step E.P (lone fr cs w)= .next (lone (frm fr fr.tmps fr.defers (.inRegion ops (List.range' 0 ops.toList.length)::k)) cs w):=by
  rw[hF.frm hm,htodo]
  have:=step_region_frm (P:=E.P) (b:=fr) (t:=fr.tmps) (d:=fr.defers) (k:=k) (cs:=cs) (w:=w) (ops:=ops) (id:=id)
  rw[List.range_eq_range']at this
  rw[show ops.toList.length=ops.size by simp]
  exact this
 have main: ∀{o:Out (T Value)} {s1:St},opsIn call round cops [] af.tmps s=rOf o s1→Fresh r s.next s1.next→ ∃w' r' dfs' cs',Goes w0 r s s1 r' w'∧CxR r' base s1.cx fr dfs' cs'∧s1.lim=s.lim∧
   RegEnds E.P r' af.glob o (lone (frm fr fr.tmps fr.defers (.inRegion ops (List.range' 0 ops.toList.length)::k)) cs w) fr fr.tmps ops.toList dfs' k cs' w':=fun e hf1=>
  opsIn_ok he.ty c1 c2 ops.toList 0 [] cops [] af.tmps fr.tmps fr.defers cs w r s _ _ (fun j o hj=>by rw[Nat.zero_add];rw[Array.getElem?_toList]at hj;exact hj) hc hF.slots hF.tm hF.size rfl hr hF.cx hb hf1 e
 cases e:opsIn call round cops [] af.tmps s with
 |none=>rw[e]at h;exact(rOf_none h).elim
 |some tm s1=>
  rw[e]at h
  obtain⟨rfl,rfl⟩:=rOf_inl ((goTm_eq af k tm s1).symm.trans h)
  obtain⟨w',r',dfs',cs',k1,k2,k3,t',k4,k5,k6⟩:=main (o:= .inl tm) e hf
  exact⟨w',r',k1,k3,frm fr t' dfs' k,cs',rfl,⟨hF.fn,k5.trans hF.size,k4,fun _=>rfl,by rw[show({af with todo:=k,tmps:=tm}:AF).mode= .run from hm];exact .run,hF.round.mono k1.le,hF.rk,hF.known,k2⟩, .head hstart k6⟩
 |pan ch s1=>
  rw[e]at h
  cases hro:af.roundOf with
  |some l=>rw[hro]at h;exact(rOf_none h).elim
  |none=>
   rw[hro]at h
   obtain⟨rfl,rfl⟩:=rOf_inl (show R.some (Step.go {af with mode:= .panicking ch,tmps:=delT (dstL ops.toList) af.tmps}) s1=rOf out s' from h)
   obtain⟨w',r',dfs',cs',k1,k2,k3,ch',t',td,k4,k5,k6,k7⟩:=main (o:= .inr ch) e hf
   refine⟨w',r',k1,k3,{frm fr t' dfs' td with mode:= .panicking ch'},cs',rfl,⟨hF.fn,k5.trans hF.size, ?_,(fun e=>by cases e), .pan k4,hF.round.mono k1.le,hF.rk,hF.known,k2⟩, .head hstart k7⟩
   intro y v hy
   obtain⟨p1,p2⟩:=delT_get hy
   obtain⟨p3,v',p4,p5⟩:=hF.tm y v p2
   exact⟨p3,v',by rw[show({frm fr t' dfs' td with mode:= .panicking ch'}:Frame).tmps=t' from rfl,k6 y p1];exact p4,p5.mono k1.le⟩
theorem drawP_run {tm0:T Value}{cops:List COp}{bef:List Nat}{s s':St}{out:Out (Rho×T Value)}(h:drawP call round tm0 cops bef s=rOf out s'):
  ∃q logs s1,opsDraw call round cops [] [] tm0 ⟨s.mem,s.next,0,[],[], .no⟩= .some (q,logs) s1∧apartM s.next logs.reverse bef=true∧out= .inl q∧
   s'=⟨s1.mem,s1.next,s.lim,rdsL s.lim logs s.rd,wrsL s.lim logs s.wr,s.cx⟩:=by
 obtain⟨mem,next,lim,rd,wr,cx⟩:=s
 unfold drawP at h
 simp only at h
 cases e:opsDraw call round cops [] [] tm0 ⟨mem,next,0,[],[], .no⟩with
 |none=>rw[e]at h;exact(rOf_none h).elim
 |pan c s1=>rw[e]at h;exact(rOf_none h).elim
 |some p s1=>
  rw[e]at h
  obtain⟨q,logs⟩:=p
  obtain⟨mem1,next1,lim1,rd1,wr1,cx1⟩:=s1
  simp only at h
  cases hA:apartM next logs.reverse bef with
  |false=>rw[hA]at h;exact(rOf_none h).elim
  |true=>
   rw[hA]at h
   obtain⟨rfl,rfl⟩:=rOf_inl (show R.some q _=rOf out s' from h)
   exact⟨_,logs,_,rfl,hA,rfl,rfl⟩
theorem takeC_eq: ∀(l:List COp) (m:Nat),takeC l m=l.take m
 |[],m=>by simp[takeC]
 |c::l,0=>rfl
 |c::l,m+1=>by show c::takeC l m=_;rw[takeC_eq l m];rfl
theorem dropC_eq: ∀(l:List COp) (m:Nat),dropC l m=l.drop m
 |[],m=>by simp[dropC]
 |c::l,0=>rfl
 |c::l,m+1=>by show dropC l m=_;rw[dropC_eq l m];rfl
/-- How many are drawn:all but one at most;what is left stands behind these. -/
theorem manyD_spec {ops:Array Oper}:manyD ops.size (Region.before ops).toList≤ops.size∧ops.size≤manyD ops.size (Region.before ops).toList+1∧
  ∀j,manyD ops.size (Region.before ops).toList≤j→j<ops.size→ ∀i,i<manyD ops.size (Region.before ops).toList→Bf ops j i:=by
 have key: ∀y:Bool,(y=true→ ∃b,(Region.before ops).toList[ops.size-1]?=some b∧b=2^(ops.size-1)-1)→(Bool.rec (motive:=fun _=>Nat) ops.size (Nat.pred ops.size) y)≤ops.size∧ops.size≤(Bool.rec (motive:=fun _=>Nat) ops.size (Nat.pred ops.size) y)+1∧
   ∀j,(Bool.rec (motive:=fun _=>Nat) ops.size (Nat.pred ops.size) y)≤j→j<ops.size→ ∀i,i<(Bool.rec (motive:=fun _=>Nat) ops.size (Nat.pred ops.size) y)→Bf ops j i:=by
  intro y hy
  cases y with
  |false=>exact⟨Nat.le_refl ops.size,Nat.le_succ ops.size,fun j (h1:ops.size≤j) h2=>absurd h2 (Nat.not_lt.2 h1)⟩
  |true=>
   obtain⟨b,hb,hb'⟩:=hy rfl
   refine⟨Nat.pred_le ops.size, ?_,fun j (h1:Nat.pred ops.size≤j) h2 i (h3:i<Nat.pred ops.size)=> ?_⟩
   ·show ops.size≤Nat.pred ops.size+1
    rw[Nat.pred_eq_sub_one];omega
   ·rw[Nat.pred_eq_sub_one]at h1 h3
    have hj:j=ops.size-1:=by omega
    subst hj
    refine⟨b,by rw[←Array.getElem?_toList];exact hb, ?_⟩
    rw[hb',Nat.testBit_two_pow_sub_one]
    simpa using h3
 unfold manyD
 refine key _ fun h=> ?_
 split at h
 ·exact⟨_,by rw[←Nat.pred_eq_sub_one];assumption,Nat.eq_of_beq_eq_true h⟩
 ·cases h
theorem compOps_drop {glob n:Nat}{all:List Oper}: ∀(m:Nat) (l:List Oper) (ds:List Nat) (cs:List COp),compOps E glob n all l ds=some cs→compOps E glob n all (l.drop m) ((l.take m).foldl (fun ds o=>consD o.dst ds) ds)=some (cs.drop m)
 |0,l,ds,cs,h=>h
 |m+1,[],ds,cs,h=>by cases h;rfl
 |m+1,o::l,ds,cs,h=>by
  obtain⟨g,f,r,rfl,h1,h2,h3,h4⟩:=compOps_cons h
  exact compOps_drop m l _ r h4
theorem drawE_ok (he:EnvOK E)(c1:CallOK E call)(c2:RoundOK E round){af:AF}{fr:Frame}{cs:List Frame}{s s':St}{out:Out Step}{ops:Array Oper}{cops:List COp}{id m:Nat}{k:List Item}
  (hc:compOps E af.glob af.n ops.toList ops.toList []=some cops) (hd:drawOk ops.toList (Region.before ops).toList=true) (hmn:m=manyD ops.size (Region.before ops).toList) (h:drawE call round af (cops.take m) (cops.drop m) (Region.before ops).toList (dstL ops.toList) k s=rOf out s') (hF:FR E.P r af s.cx base fr cs) (hm:af.mode= .run) (htodo:af.todo= .code (.region id ops true)::k)
  (hr:Rel w0 r s.mem w) (hb:Bnd s) (hf:Fresh r s.next s'.next):
  ∃w' r',Goes w0 r s s' r' w'∧s'.lim=s.lim∧StepE E.P r' base s'.cx fr (lone fr cs w) w' out:=by
 obtain⟨m1,m2,m3⟩:=manyD_spec (ops:=ops)
 rw[←hmn]at m1 m2 m3
 obtain⟨hlen,hcomp⟩:=compOps_at ops.toList [] cops hc
 have hn:cops.length=ops.size:=by rw[hlen];simp
 have hloc: ∀c∈cops,∀rho tm,Loc (wantG c.guard rho (c.run call round rho tm)):=by
  intro c hcm rho tm
  obtain⟨i,hi,rfl⟩:=List.getElem_of_mem hcm
  have hio:i<ops.toList.length:=by rw[←hlen];exact hi
  obtain⟨g,f,p1,p2,p3,p4⟩:=hcomp i ops.toList[i] (List.getElem?_eq_getElem hio)
  rw[List.getElem?_eq_getElem hi]at p1
  rw[Option.some.inj p1]
  exact(opG_ok (ops:=ops) (i:=i) (keep:=keepD ops.toList[i].dst af.glob) he.ty (by rw[←Array.getElem?_toList];exact List.getElem?_eq_getElem hio) p2 p4).1 call round c1 c2 rho tm
 have hlast:=compOps_drop m ops.toList [] cops hc
 have hds:(ops.toList.take m).foldl (fun ds o=>consD o.dst ds) []=dsAt ops.toList m:=rfl
 rw[hds]at hlast
 have hsub: ∀j o,(ops.toList.drop m)[j]?=some o→ops[m+j]?=some o:=fun j o hj=>by rw[List.getElem?_drop,Array.getElem?_toList]at hj;exact hj
 -- the draw
 have hbind: ∃q sd,drawP call round af.tmps (cops.take m) (Region.before ops).toList s=rOf (.inl q) sd∧endE call round af (cops.drop m) (dstL ops.toList) k q sd=rOf out s':=by
  rcases bind_rOf h with⟨q,sd,e1,e2⟩|⟨ch,e1,_⟩
  ·exact⟨q,sd,e1,e2⟩
  ·obtain⟨_,_,_,_,_,q3,_⟩:=drawP_run (out:= .inr ch) e1
   cases q3
 obtain⟨q,sd,e1,e2⟩:=hbind
 obtain⟨q',logs,s1,e,hA,q3,q4⟩:=drawP_run e1
 cases q3
 obtain⟨x,t1,t2,t3,t4,t5,t6,t7⟩:=opsDraw_tra (cops.take m) [] [] af.tmps _ (.inl (q,logs)) s1 (fun c hc=>hloc c (List.mem_of_mem_take hc)) rfl e
 have hlm:(cops.take m).length=m:=by rw[List.length_take,hn];omega
 rw[hlm]at t6 t7
 cases t6
 have H:Pre E af.glob af.n ops call round cops x m:=by
  refine⟨fun i o ho=> ?_,m1,t1,t4,hd, ?_⟩
  ·have:=hcomp i o (by rw[Array.getElem?_toList];exact ho)
   simpa using this
  ·rw[t3]
   simpa using hA
 simp only at t2 t3
 -- what the end adds
 unfold endE at e2
 have hsdb:Bnd sd:=by rw[q4,t7];exact Nat.le_trans hb (by rw[←t3];exact H.nx (Nat.zero_le _) (Nat.le_refl _))
 have hloc2:Loc (opsIn call round (cops.drop m) (x.Rh m) (x.Tm m)):=lo_opsIn he.ty c1 c2 (ops.toList.drop m) m _ _ hlast hsub _ _
 have hstart:step E.P (lone fr cs w)= .next (lone (frm fr fr.tmps fr.defers (.inRegion ops (Region.linearise .any ops (w.tape w.drawn (.order fr.fn id)))::k)) cs w.drew):=by
  rw[hF.frm hm,htodo]
  have:=step_region_draw_frm (P:=E.P) (b:=fr) (t:=fr.tmps) (d:=fr.defers) (k:=k) (cs:=cs) (w:=w) (ops:=ops) (id:=id)
  rw[he.mixed]at this
  have hsch:Region.schedule true ops (w.tape w.drawn (.order fr.fn id))=Region.linearise .any ops (w.tape w.drawn (.order fr.fn id)):=by simp[Region.schedule]
  rw[hsch]at this
  exact this
 have main: ∀{o:Out (T Value)} {s2:St},opsIn call round (cops.drop m) (x.Rh m) (x.Tm m) sd=rOf o s2→Fresh r s.next s2.next→ ∃w' r' dfs' cs',Goes w0 r s s2 r' w'∧CxR r' base s2.cx fr dfs' cs'∧s2.lim=s.lim∧
   RegEnds E.P r' af.glob o (lone fr cs w) fr fr.tmps ops.toList dfs' k cs' w':=by
  intro o s2 e3 hf2
  have hn2:sd.next≤s2.next:=(hloc2.at' sd o s2 e3 hsdb).next
  have hsdn:sd.next=x.Nx m:=by rw[q4,t7]
  obtain⟨t',w1,r1,g1,g2,g3,g5,g6,g4⟩:=H.draw_ok m2 m3 he.ty c1 c2 (w0:=w0) (w:=w.drew) (r:=r) (t:=fr.tmps) (by rw[t5];exact hF.tm) hF.size (by rw[t2];exact hr.drew)
   (by rw[t3];exact fun b u v=>hf2 b u (Nat.lt_of_lt_of_le v (by rw[←hsdn];exact hn2))) fr fr.defers cs k (w.tape w.drawn (.order fr.fn id))
  have hgo:=g1 s sd t3.symm hsdn (by rw[q4,t7])
  have hcx:CxR r1 base sd.cx fr fr.defers cs:=by rw[q4];exact hF.cx.mono hgo.le
  obtain⟨w2,r2,dfs2,cs2,k1,k2,k3,k4⟩:=opsIn_ok he.ty c1 c2 (b:=fr) (k:=k) (base:=base) (w0:=w0) (ops.toList.drop m) m (dsAt ops.toList m) (cops.drop m) (x.Rh m) (x.Tm m) t' fr.defers cs w1 r1 sd o s2 hsub hlast g5 g2 g3 (H.ds (Nat.le_refl m)).1
   hgo.rel hcx hsdb (hgo.fresh hf2) e3
  refine⟨w2,r2,dfs2,cs2,hgo.trans k1,k2,k3.trans (by rw[q4]), ?_⟩
  have hrl:(ops.toList.drop m).length=ops.size-m:=by simp
  rw[hrl]at k4
  have hto:Steps E.P (lone fr cs w) (lone (frm fr t' fr.defers (.inRegion ops (List.range' m (ops.size-m))::k)) cs w1):= .head hstart g4
  unfold RegEnds at k4 ⊢
  cases o with
  |inl tm'=>
   obtain⟨t2,z1,z2,z3⟩:=k4
   exact⟨t2,z1,by rw[z2,g3,hF.size],hto.trans z3⟩
  |inr ch=>
   obtain⟨ch',t2,td,z1,z2,z3,z4⟩:=k4
   exact⟨ch',t2,td,z1,by rw[z2,g3,hF.size],fun d hd=>by rw[z3 d hd,g6 d hd],hto.trans z4⟩
 cases e3:opsIn call round (cops.drop m) (x.Rh m) (x.Tm m) sd with
 |none=>rw[e3]at e2;exact(rOf_none e2).elim
 |some tm s2=>
  rw[e3]at e2
  obtain⟨rfl,rfl⟩:=rOf_inl ((goTm_eq af k tm s2).symm.trans e2)
  obtain⟨w',r',dfs',cs',k1,k2,k3,t',k4,k5,k6⟩:=main (o:= .inl tm) e3 hf
  exact⟨w',r',k1,k3,frm fr t' dfs' k,cs',rfl,⟨hF.fn,k5.trans hF.size,k4,fun _=>rfl,by rw[show({af with todo:=k,tmps:=tm}:AF).mode= .run from hm];exact .run,hF.round.mono k1.le,hF.rk,hF.known,k2⟩,k6⟩
 |pan ch s2=>
  rw[e3]at e2
  cases hro:af.roundOf with
  |some l=>rw[hro]at e2;exact(rOf_none e2).elim
  |none=>
   rw[hro]at e2
   obtain⟨rfl,rfl⟩:=rOf_inl (show R.some (Step.go {af with mode:= .panicking ch,tmps:=delT (dstL ops.toList) af.tmps}) s2=rOf out s' from e2)
   obtain⟨w',r',dfs',cs',k1,k2,k3,ch',t',td,k4,k5,k6,k7⟩:=main (o:= .inr ch) e3 hf
   refine⟨w',r',k1,k3,{frm fr t' dfs' td with mode:= .panicking ch'},cs',rfl,⟨hF.fn,k5.trans hF.size, ?_,(fun e=>by cases e), .pan k4,hF.round.mono k1.le,hF.rk,hF.known,k2⟩,k7⟩
   intro y v hy
   obtain⟨p1,p2⟩:=delT_get hy
   obtain⟨p3,v',p4,p5⟩:=hF.tm y v p2
   exact⟨p3,v',by rw[show({frm fr t' dfs' td with mode:= .panicking ch'}:Frame).tmps=t' from rfl,k6 y p1];exact p4,p5.mono k1.le⟩
theorem lo_drawP {tm0:T Value}{cops:List COp}{bef:List Nat}(hloc: ∀c∈cops,∀rho tm,Loc (wantG c.guard rho (c.run call round rho tm))):Loc (drawP call round tm0 cops bef):=⟨fun s o s' h hb=>by
 obtain⟨q,logs,s1,e,hA,rfl,rfl⟩:=drawP_run h
 obtain⟨Rd,Wr,tm',es,q1,q2,_,q4,q5⟩:=opsDraw_loc cops [] [] tm0 _ (.inl (q,logs)) s1 hloc rfl (Nat.zero_le _) e
 cases q1
 refine⟨Rd,Wr,rdsL s.lim logs [],wrsL s.lim logs [],⟨rdsL_eq _ _ _,wrsL_eq _ _ _,q2.nxt,rfl,Nat.le_trans hb q2.nxt,q2.rlt,q2.wlt,q2.old,fun t e1 e2 e3 e4=> ?_⟩,fun l e1 e2=> ?_,fun l e1 e2=> ?_⟩
 ·obtain⟨t',p1,p2,p3,p4,p5,p6,p7,p8⟩:=q2.any ⟨t.mem,t.next,0,[],[], .no⟩ e1 rfl rfl e4
  obtain⟨tm1,tn1,tl1,tr1,tw1,tc1⟩:=t'
  simp only at p2
  refine⟨⟨tm1,tn1,t.lim,rdsL t.lim logs t.rd,wrsL t.lim logs t.wr,t.cx⟩, ?_,p2,e2,e3,by rw[e2];exact rdsL_eq _ _ _,by rw[e2];exact wrsL_eq _ _ _,p7,p8⟩
  obtain⟨mem,next,lim,rd,wr,cx⟩:=t
  unfold drawP
  simp only at p1 e1 ⊢
  rw[p1]
  simp only[rOf]
  rw[e1,hA]
 ·obtain⟨g,a,b⟩:=q4 l e1 (Nat.lt_of_lt_of_le e2 hb)
  exact rdsL_mem e2 a b
 ·obtain⟨g,a,b⟩:=q5 l e1 (Nat.lt_of_lt_of_le e2 hb)
  exact wrsL_mem e2 a b⟩
/-! A call in the midst that may panic -/
theorem freeM_spec {b:Nat}: ∀{l:List OpLog} {i:Nat},freeM b l i=true→ ∀q m,l[q]?=some m→b.testBit (i+q)=true∨(m.wr=[]∧m.lo=m.hi)
 |[],i,_,q,m,hq=>by simp at hq
 |a::l,i,h,q,m,hq=>by
  replace h:((b.testBit i||(a.wr.isEmpty&&Nat.beq a.lo a.hi))&&freeM b l (Nat.succ i))=true:=h
  rw[Bool.and_eq_true,Bool.or_eq_true,Bool.and_eq_true]at h
  cases q with
  |zero=>
   simp at hq
   subst hq
   rcases h.1 with h1|h1
   ·exact .inl h1
   ·exact .inr ⟨by simpa using h1.1,Nat.eq_of_beq_eq_true h1.2⟩
  |succ q=>
   have:=freeM_spec h.2 q m (by simpa using hq)
   rw[show Nat.succ i+q=i+(q+1) by omega]at this
   exact this
theorem drawQ_run {tm0:T Value}{cops:List COp}{bef:List Nat}{b:Nat}{s s':St}{out:Out (Rho×T Value)}(h:drawQ call round tm0 cops bef b s=rOf out s'):
  ∃q logs s1,opsDraw call round cops [] [] tm0 ⟨s.mem,s.next,0,[],[], .no⟩= .some (q,logs) s1∧apartM s.next logs.reverse bef=true∧freeM b logs.reverse 0=true∧out= .inl q∧
   s'=⟨s1.mem,s1.next,s.lim,rdsL s.lim logs s.rd,wrsL s.lim logs s.wr,s.cx⟩:=by
 obtain⟨mem,next,lim,rd,wr,cx⟩:=s
 unfold drawQ at h
 simp only at h
 cases e:opsDraw call round cops [] [] tm0 ⟨mem,next,0,[],[], .no⟩with
 |none=>rw[e]at h;exact(rOf_none h).elim
 |pan c s1=>rw[e]at h;exact(rOf_none h).elim
 |some p s1=>
  rw[e]at h
  obtain⟨q,logs⟩:=p
  obtain⟨mem1,next1,lim1,rd1,wr1,cx1⟩:=s1
  simp only at h
  cases hA:(apartM next logs.reverse bef&&freeM b logs.reverse 0)with
  |false=>rw[hA]at h;exact(rOf_none h).elim
  |true=>
   rw[hA]at h
   rw[Bool.and_eq_true]at hA
   obtain⟨rfl,rfl⟩:=rOf_inl (show R.some q _=rOf out s' from h)
   exact⟨_,logs,_,rfl,hA.1,hA.2,rfl,rfl⟩
theorem lo_drawQ {tm0:T Value}{cops:List COp}{bef:List Nat}{b:Nat}(hloc: ∀c∈cops,∀rho tm,Loc (wantG c.guard rho (c.run call round rho tm))):Loc (drawQ call round tm0 cops bef b):=⟨fun s o s' h hb=>by
 obtain⟨q,logs,s1,e,hA,hA2,rfl,rfl⟩:=drawQ_run h
 obtain⟨Rd,Wr,tm',es,q1,q2,_,q4,q5⟩:=opsDraw_loc cops [] [] tm0 _ (.inl (q,logs)) s1 hloc rfl (Nat.zero_le _) e
 cases q1
 refine⟨Rd,Wr,rdsL s.lim logs [],wrsL s.lim logs [],⟨rdsL_eq _ _ _,wrsL_eq _ _ _,q2.nxt,rfl,Nat.le_trans hb q2.nxt,q2.rlt,q2.wlt,q2.old,fun t e1 e2 e3 e4=> ?_⟩,fun l e1 e2=> ?_,fun l e1 e2=> ?_⟩
 ·obtain⟨t',p1,p2,p3,p4,p5,p6,p7,p8⟩:=q2.any ⟨t.mem,t.next,0,[],[], .no⟩ e1 rfl rfl e4
  obtain⟨tm1,tn1,tl1,tr1,tw1,tc1⟩:=t'
  simp only at p2
  refine⟨⟨tm1,tn1,t.lim,rdsL t.lim logs t.rd,wrsL t.lim logs t.wr,t.cx⟩, ?_,p2,e2,e3,by rw[e2];exact rdsL_eq _ _ _,by rw[e2];exact wrsL_eq _ _ _,p7,p8⟩
  obtain⟨mem,next,lim,rd,wr,cx⟩:=t
  unfold drawQ
  simp only at p1 e1 ⊢
  rw[p1]
  simp only[rOf]
  rw[e1,hA,hA2]
  rfl
 ·obtain⟨g,a,b⟩:=q4 l e1 (Nat.lt_of_lt_of_le e2 hb)
  exact rdsL_mem e2 a b
 ·obtain⟨g,a,b⟩:=q5 l e1 (Nat.lt_of_lt_of_le e2 hb)
  exact wrsL_mem e2 a b⟩
theorem lo_tryX {tm0:T Value}{cops:List COp}{bef:List Nat}{j b:Nat}(hloc: ∀c∈cops,∀rho tm,Loc (wantG c.guard rho (c.run call round rho tm))):Loc (tryX call round tm0 cops bef j b):=by
 unfold tryX
 rw[takeC_eq,takeC_eq,dropC_eq]
 refine lo_bind (lo_drawQ fun c hc=>hloc c (List.mem_of_mem_take hc)) fun q=> ?_
 have hd: ∀c∈cops.drop j,∀rho tm,Loc (wantG c.guard rho (c.run call round rho tm)):=fun c hc=>hloc c (List.mem_of_mem_drop hc)
 generalize cops.drop j=l at hd
 match l,hd with
 |[],_=>exact lo_pure _
 |⟨g,d,k,f⟩::l,hd=>
  show Loc (opsIn call round [⟨g,d,k,f⟩] q.1 q.2)
  rw[opsIn_cons]
  exact lo_bind (hd ⟨g,d,k,f⟩ (by simp) _ _) fun v=>lo_pure _
/-- A part that is tried,and done again from the start where it does not panic. -/
theorem lo_again {α β:Type}{m:M α}{f:M β}{g:List PanicEntry→M β}(h:Loc m)(kf:Loc f)(kg: ∀c,Loc (g c)):
  Loc (fun s=>R.rec (motive:=fun _=>R β) .none (fun _ s2=>f (againS s s2)) (fun c s2=>g c s2) (m s)):=⟨fun s o s' e hb=>by
 cases e1:m s with
 |none=>rw[e1]at e;exact(rOf_none e).elim
 |pan c s1=>
  rw[e1]at e
  have h1:=h.at' s (.inr c) s1 e1 hb
  exact h1.seq ((kg c).at' s1 o s' e h1.bnd) fun t t1 q=>by rw[q];rfl
 |some a s2=>
  rw[e1]at e
  obtain⟨R1,W1,r1,w1,g1,i1,j1⟩:=h.at' s (.inl a) s2 e1 hb
  have hb2:Bnd (againS s s2):=by
   obtain⟨mem,next,lim,rd,wr,cx⟩:=s
   obtain⟨mem2,next2,lim2,rd2,wr2,cx2⟩:=s2
   exact Nat.le_trans (show lim≤next from hb) g1.nxt
  obtain⟨R2,W2,r2,w2,g2,i2,j2⟩:=kf.at' (againS s s2) o s' e hb2
  have ag: ∀t t2:St,againS t t2=⟨t.mem,t2.next,t.lim,t2.rd,t2.wr,t.cx⟩:=fun _ _=>rfl
  have hn2:s2.next≤s'.next:=by have:=g2.nxt;rw[ag]at this;exact this
  refine⟨fun l=>R1 l∨R2 l,fun l=>W1 l∨W2 l,r2++r1,w2++w1,⟨?_, ?_,Nat.le_trans g1.nxt hn2,by have:=g2.lim;rw[ag]at this;exact this,g2.bnd,fun l e=>e.elim (fun e=>Nat.lt_of_lt_of_le (g1.rlt l e) hn2) (g2.rlt l),fun l e=>e.elim (fun e=>Nat.lt_of_lt_of_le (g1.wlt l e) hn2) (g2.wlt l),fun l e=>by have:=g2.old l fun x=>e (.inr x);rw[ag]at this;exact this,fun t e1 e2 e3 e4=> ?_⟩,fun l e x=> ?_,fun l e x=> ?_⟩
  ·have:=g2.rd
   rw[ag]at this
   rw[this,g1.rd,List.append_assoc]
  ·have:=g2.wr
   rw[ag]at this
   rw[this,g1.wr,List.append_assoc]
  ·obtain⟨t2,q1,q2,q3,q4,q5,q6,q7,q8⟩:=g1.any t e1 e2 e3 fun l e=>e4 l (e.elim (fun e=> .inl (.inl e)) (fun e=> .inr (.inl e)))
   obtain⟨t',p1,p2,p3,p4,p5,p6,p7,p8⟩:=g2.any (againS t t2) (by rw[ag,ag];exact q2) (by rw[ag,ag];exact e2) (by rw[ag,ag];exact e3) (fun l e=>by
    rw[ag,ag]
    exact e4 l (e.elim (fun e=> .inl (.inr e)) (fun e=> .inr (.inr e))))
   rw[ag]at p5 p6 p8
   refine⟨t',by rw[q1];exact p1,p2,p3,p4,by rw[p5];show r2++t2.rd=_;rw[q5,List.append_assoc],by rw[p6];show w2++t2.wr=_;rw[q6,List.append_assoc],fun l e=> ?_,fun l e=>p8 l fun x=>e (.inr x)⟩
   by_cases hw:W2 l
   ·exact p7 l hw
   ·rw[p8 l hw]
    have:=g2.old l hw
    rw[ag]at this
    rw[this]
    exact e4 l (.inr e)
  ·rcases e with e|e
   ·exact List.mem_append_right _ (i1 l e x)
   ·exact List.mem_append_left _ (i2 l e (by rw[ag];exact x))
  ·rcases e with e|e
   ·exact List.mem_append_right _ (j1 l e x)
   ·exact List.mem_append_left _ (j2 l e (by rw[ag];exact x))⟩
theorem panJ_spec {ops:Array Oper}{j b:Nat}(h:panJ ops.toList (Region.before ops).toList=some (j,b)):ops.size=j+2∧(Region.before ops)[j]?=some b∧Bf ops (j+1) j:=by
 unfold panJ at h
 rw[Array.length_toList]at h
 split at h
 ·rename_i o b1 b' e1 e2 e3
  cases hc:(isCopy o&&(Nat.ble (nat_lit 2) ops.size&&b1.testBit (Nat.pred (Nat.pred ops.size))))with
  |false=>rw[hc]at h;cases h
  |true=>
   rw[hc]at h
   rw[Bool.and_eq_true,Bool.and_eq_true]at hc
   have h2:2≤ops.size:=Nat.le_of_ble_eq_true hc.2.1
   have h':some (Nat.pred (Nat.pred ops.size),b')=some (j,b):=h
   injection h' with h'
   injection h' with h1 h3
   rw[Nat.pred_eq_sub_one,Nat.pred_eq_sub_one]at h1
   subst h3
   refine⟨by omega, ?_,b1, ?_, ?_⟩
   ·rw[←Array.getElem?_toList,←h1]
    exact e3
   ·rw[←Array.getElem?_toList,show j+1=Nat.pred ops.size by rw[Nat.pred_eq_sub_one];omega]
    exact e2
   ·have:=hc.2.2
    rw[Nat.pred_eq_sub_one,Nat.pred_eq_sub_one,h1]at this
    exact this
 ·cases h
theorem drawX_ok (he:EnvOK E)(c1:CallOK E call)(c2:RoundOK E round){af:AF}{fr:Frame}{cs:List Frame}{s s':St}{out:Out Step}{ops:Array Oper}{cops:List COp}{id m j b:Nat}{k:List Item}
  (hc:compOps E af.glob af.n ops.toList ops.toList []=some cops) (hd:drawOk ops.toList (Region.before ops).toList=true) (hmn:m=manyD ops.size (Region.before ops).toList) (hj:panJ ops.toList (Region.before ops).toList=some (j,b)) (h:drawX call round af cops (dstL ops.toList) (Region.before ops).toList m j b k s=rOf out s') (hF:FR E.P r af s.cx base fr cs) (hm:af.mode= .run) (htodo:af.todo= .code (.region id ops true)::k)
  (hr:Rel w0 r s.mem w) (hb:Bnd s) (hf:Fresh r s.next s'.next):
  ∃w' r',Goes w0 r s s' r' w'∧s'.lim=s.lim∧StepE E.P r' base s'.cx fr (lone fr cs w) w' out:=by
 obtain⟨hlen,hcomp⟩:=compOps_at ops.toList [] cops hc
 have hn:cops.length=ops.size:=by rw[hlen];simp
 have hloc: ∀c∈cops,∀rho tm,Loc (wantG c.guard rho (c.run call round rho tm)):=by
  intro c hcm rho tm
  obtain⟨i,hi,rfl⟩:=List.getElem_of_mem hcm
  have hio:i<ops.toList.length:=by rw[←hlen];exact hi
  obtain⟨g,f,p1,p2,p3,p4⟩:=hcomp i ops.toList[i] (List.getElem?_eq_getElem hio)
  rw[List.getElem?_eq_getElem hi]at p1
  rw[Option.some.inj p1]
  exact(opG_ok (ops:=ops) (i:=i) (keep:=keepD ops.toList[i].dst af.glob) he.ty (by rw[←Array.getElem?_toList];exact List.getElem?_eq_getElem hio) p2 p4).1 call round c1 c2 rho tm
 have hlt:=lo_tryX (call:=call) (round:=round) (tm0:=af.tmps) (bef:=(Region.before ops).toList) (j:=j) (b:=b) hloc
 unfold drawX at h
 cases e:tryX call round af.tmps cops (Region.before ops).toList j b s with
 |none=>rw[e]at h;exact(rOf_none h).elim
 |some a s2=>
  rw[e]at h
  have ag:againS s s2=⟨s.mem,s2.next,s.lim,s2.rd,s2.wr,s.cx⟩:=rfl
  have h1:=(hlt.at' s (.inl a) s2 e hb).next
  rw[takeC_eq,dropC_eq]at h
  have h':drawE call round af (cops.take m) (cops.drop m) (Region.before ops).toList (dstL ops.toList) k (againS s s2)=rOf out s':=h
  rw[ag]at h'
  obtain⟨w',r',k1,k2,k3⟩:=drawE_ok he c1 c2 (w0:=w0) (w:=w) (base:=base) hc hd hmn h' hF hm htodo hr (show s.lim≤s2.next from Nat.le_trans hb h1) (fun b' x y=>hf b' (Nat.le_trans h1 x) y)
  have hx:s2.next≤s'.next:=k1.nxt
  refine⟨w',r',⟨k1.le,Nat.le_trans h1 hx,fun b' x=> ?_,fun b' x=> ?_,k1.rel⟩,k2,k3⟩
  ·rcases k1.domB b' x with x|x
   ·exact .inl x
   ·have x1:s2.next≤b':=x.1
    exact .inr ⟨Nat.le_trans h1 x1,x.2⟩
  ·rcases k1.domE b' x with x|x
   ·exact .inl x
   ·have x1:s2.next≤b':=x.1
    exact .inr ⟨Nat.le_trans h1 x1,x.2⟩
 |pan c s2=>
  rw[e]at h
  cases hro:af.roundOf with
  |some l=>rw[hro]at h;exact(rOf_none h).elim
  |none=>
   rw[hro]at h
   obtain⟨rfl,rfl⟩:=rOf_inl (show R.some (Step.go {af with mode:= .panicking c,tmps:=delT (dstL ops.toList) af.tmps}) s2=rOf out s' from h)
   obtain⟨jn,jb,jl⟩:=panJ_spec hj
   have hjn:j<ops.size:=by omega
   obtain⟨g,f,p1,p2,p3,p4⟩:=hcomp j ops[j] (by rw[Array.getElem?_toList];exact Array.getElem?_eq_getElem hjn)
   have hds:dsAt ([]++ops.toList) (([]:List Oper).length+j)=dsAt ops.toList j:=by simp
   rw[hds]at p2 p3 p4
   unfold tryX at e
   rw[takeC_eq,takeC_eq,dropC_eq]at e
   have hcj:(cops.drop j).take 1=[⟨g,ops[j].dst,keepD ops[j].dst af.glob,f⟩]:=by
    have h1:j<cops.length:=by rw[hn];exact hjn
    rw[List.drop_eq_getElem_cons h1]
    rw[List.getElem?_eq_getElem h1]at p1
    rw[Option.some.inj p1]
    rfl
   rw[hcj]at e
   obtain⟨q,sd,e1,e2⟩: ∃q sd,drawQ call round af.tmps (cops.take j) (Region.before ops).toList b s=rOf (.inl q) sd∧opsIn call round [⟨g,ops[j].dst,keepD ops[j].dst af.glob,f⟩] q.1 q.2 sd=rOf (.inr c) s':=by
    rcases bind_rOf (o:= .inr c) (s':=s') e with⟨q,sd,e1,e2⟩|⟨ch,e1,_⟩
    ·exact⟨q,sd,e1,e2⟩
    ·obtain⟨_,_,_,_,_,_,q3,_⟩:=drawQ_run (out:= .inr ch) e1
     cases q3
   obtain⟨q',logs,s1,e3,hA,hA2,q3,q4⟩:=drawQ_run e1
   cases q3
   obtain⟨x,t1,t2,t3,t4,t5,t6,t7⟩:=opsDraw_tra (cops.take j) [] [] af.tmps _ (.inl (q,logs)) s1 (fun c hc=>hloc c (List.mem_of_mem_take hc)) rfl e3
   have hlm:(cops.take j).length=j:=by rw[List.length_take,hn];omega
   rw[hlm]at t6 t7
   cases t6
   have H:Pre E af.glob af.n ops call round cops x j:=by
    refine⟨fun i o ho=> ?_,by omega,t1,t4,hd, ?_⟩
    ·have:=hcomp i o (by rw[Array.getElem?_toList];exact ho)
     simpa using this
    ·rw[t3]
     simpa using hA
   simp only at t2 t3
   have hsm:sd.mem=x.Mm j:=by rw[q4,t7]
   have hsn:sd.next=x.Nx j:=by rw[q4,t7]
   have hsdb:Bnd sd:=by
    show sd.lim≤sd.next
    rw[hsn,q4]
    exact Nat.le_trans hb (by rw[←t3];exact H.nx (Nat.zero_le _) (Nat.le_refl _))
   rw[opsIn_cons]at e2
   have e4:wantG g (x.Rh j) (f call round (x.Rh j) (x.Tm j)) sd=rOf (.inr c) s':=by
    rcases bind_rOf e2 with⟨v,s3,z1,z2⟩|⟨ch,z1,z2⟩
    ·cases(show R.some (keepT ops[j].dst (keepD ops[j].dst af.glob) v (x.Tm j)) s3= .pan c s' from z2)
    ·cases z2
     exact z1
   have free: ∀i,i<j→ ¬Bf ops j i→ ∀l,¬x.Wr i l:=by
    intro i hi hbf l hw
    have hli:(((List.range j).map x.log).reverse++[]).reverse[i]?=some (x.log i):=by
     rw[List.append_nil,List.reverse_reverse,List.getElem?_map,List.getElem?_range hi]
     rfl
    rcases freeM_spec hA2 i _ hli with z|⟨z1,z2⟩
    ·rw[Nat.zero_add]at z
     exact hbf ⟨b,jb,z⟩
    ·obtain⟨_,_,_,_,_,_,_,tr,_⟩:=H.op hi
     have w1:l<x.Nx (i+1):=tr.run.wlt l hw
     have w2:x.Nx i=x.Nx (i+1):=z2
     have w3:=tr.iwr l hw (by omega)
     have w4:x.lw i=[]:=z1
     rw[w4]at w3
     cases w3
   have hstart:step E.P (lone fr cs w)= .next (lone (frm fr fr.tmps fr.defers (.inRegion ops (Region.linearise .any ops (w.tape w.drawn (.order fr.fn id)))::k)) cs w.drew):=by
    rw[hF.frm hm,htodo]
    have:=step_region_draw_frm (P:=E.P) (b:=fr) (t:=fr.tmps) (d:=fr.defers) (k:=k) (cs:=cs) (w:=w) (ops:=ops) (id:=id)
    rw[he.mixed]at this
    have hsch:Region.schedule true ops (w.tape w.drawn (.order fr.fn id))=Region.linearise .any ops (w.tape w.drawn (.order fr.fn id)):=by simp[Region.schedule]
    rw[hsch]at this
    exact this
   obtain⟨t',w',r',dfs',cs',ch',td,z1,z2,z3,z4,z5,z6,z7,z8,z9⟩:=H.pan_ok (fun q h1 h2=>by rw[show q=j+1 by omega];exact jl) free he.ty c1 c2 (w0:=w0) (w:=w.drew) (r:=r) (t:=fr.tmps) (base:=base) (by rw[t5];exact hF.tm) hF.size (by rw[t2];exact hr.drew) fr fr.defers cs k (Array.getElem?_eq_getElem hjn) p2 p4 hsm hsn hsdb
    (by rw[q4];exact hF.cx) (by rw[t3];exact hf) e4 (w.tape w.drawn (.order fr.fn id))
   rw[t3]at z3 z4
   have hlim:s'.lim=s.lim:=by
    have:=(hlt.at' s (.inr c) s' (by unfold tryX;rw[takeC_eq,takeC_eq,dropC_eq,hcj];exact e) hb).lim
    exact this
   have hnx:s.next≤s'.next:=(hlt.at' s (.inr c) s' (by unfold tryX;rw[takeC_eq,takeC_eq,dropC_eq,hcj];exact e) hb).next
   refine⟨w',r',⟨z1,hnx,z3,z4,z2⟩,hlim,{frm fr t' dfs' td with mode:= .panicking ch'},cs',rfl,⟨hF.fn,z7, ?_,(fun e=>by cases e), .pan z6,hF.round.mono z1,hF.rk,hF.known,z5⟩, .head hstart z9⟩
   intro y v hy
   obtain⟨p1,p2⟩:=delT_get hy
   obtain⟨p3,v',p4,p5⟩:=hF.tm y v p2
   exact⟨p3,v',by rw[show({frm fr t' dfs' td with mode:= .panicking ch'}:Frame).tmps=t' from rfl,z8 y p1];exact p4,p5.mono z1⟩
end
end Go.Proofs.YtapojfiplajfaaaGreatDoor.Am
/- Frames beside the evaluator's:loops over functions,code of every kind. -/
namespace Go.Proofs.YtapojfiplajfaaaGreatDoor.Am
open Go.RowKit
section
variable {E:Env}{call round:CallT}{w0 w:World}{r:Inj}{base:List Deferred×List Frame}
theorem begR_ok {af:AF}{fr:Frame}{cs:List Frame}{s s':St}{out:Out Step}{k:List Item}(h:begR af k s=rOf out s')(hF:FR E.P r af s.cx base fr cs)(hm:af.mode= .run)(htodo:af.todo= .beginRound::k)(hr:Rel w0 r s.mem w):
  ∃w' r',Goes w0 r s s' r' w'∧s'.lim=s.lim∧StepE E.P r' base s'.cx fr (lone fr cs w) w' out:=by
 unfold begR at h
 cases hro:af.roundOf with
 |none=>rw[hro]at h;exact(rOf_none h).elim
 |some l=>
  rw[hro]at h
  rcases bind_rOf h with⟨c,s1,e1,e2⟩|⟨c,e1,_⟩
  ·obtain⟨q1,q2⟩:=rdC_some e1
   have fin: ∃pe f n g tm ps as bd df,c= .O (.loop .ready pe f n g tm ps as bd df)∧M.bind (wrC l (.O (.loop .busy pe f n g tm ps as bd df))) (fun _=>goTo af k) s1=rOf out s':=by
    cases c with
    |C a b=>exact(rOf_none e2).elim
    |O o=>
     cases o with
     |loop st pe f n g tm ps as bd df=>
      cases st with
      |ready=>exact⟨pe,f,n,g,tm,ps,as,bd,df,rfl,e2⟩
      |_=>exact(rOf_none e2).elim
     |_=>exact(rOf_none e2).elim
   obtain⟨pe,f,n,g,tm,ps,as,bd,df,rfl,e2⟩:=fin
   rcases bind_rOf e2 with⟨u,s2,e3,e4⟩|⟨c,e3,_⟩
   ·obtain⟨rfl,rfl⟩:=rOf_inl ((goTo_eq af k s2).symm.trans e4)
    obtain⟨b',d,o',g1,g2,g3⟩:=hr.obj _ _ q1 rfl
    have hro2:=hF.round
    rw[hro]at hro2
    cases hfr:fr.roundOf with
    |none=>rw[hfr]at hro2;exact hro2.elim
    |some l'=>
     rw[hfr]at hro2
     obtain⟨d',hro2⟩:=hro2
     rw[g1]at hro2
     cases hro2
     cases o' with
     |loop L=>
      obtain⟨k1,k2,k3,k4,k5,k6,k7,k8,k9⟩:=g3
      have hOR:OR r (.loop .busy pe f n g tm ps as bd df) (.loop {L with state:= .busy}):=⟨rfl,k2,k3,k4,k5,k6,k7,k8,k9⟩
      obtain⟨p1,p2,p3⟩:=wrO_ok e3 (by rw[q2.1];exact hr) (by rw[q2.1];exact q1) rfl g1 hOR rfl
      have hF':=hF.to k
      rw[←hm]at hF'
      refine⟨_,r,(Goes.same q2 hr).trans p1,p2.trans q2.2.2.1,frm fr fr.tmps fr.defers k,cs,rfl,by rw[p3,q2.2.2.2];exact hF', .one ?_⟩
      rw[hF.frm hm,htodo]
      refine step_lone_go ?_
      have hrun : (do ((frm fr fr.tmps fr.defers (.beginRound :: k)).roundOf).elim (stuck "beginRound: no round") Instr.beginRound; pure Next.skip : Sem Next).run E.P w = .ok .skip (World.setO w b' (.loop { L with state := .busy })) := by
       rw[show(frm fr fr.tmps fr.defers (.beginRound::k)).roundOf=some b' from hfr]
       simp only[Option.elim_some,Instr.beginRound,Sem.run_bind,run_getLoop g2,Result.andThen_ok,run_setLoop g2,k1,Sem.run_pure]
      have e5:stepG E.P true {frame:=frm fr fr.tmps fr.defers (.beginRound::k),callers:=cs,status:= .running,dying:=none} w=
        stepG.apply E.P true (frm fr fr.tmps fr.defers (.beginRound :: k)) cs none (do ((frm fr fr.tmps fr.defers (.beginRound :: k)).roundOf).elim (stuck "beginRound: no round") Instr.beginRound; pure Next.skip) w := by
       simp[stepG,stepG.exec,frm]
      rw[e5]
      simp only[stepG.apply,Sem.runT_eq,hrun,GStep.bare_after]
      rfl
     |_=>exact g3.elim
   ·exact((np_wrC _ _).no _ _ _ e3).elim
  ·exact((np_rdC _).no _ _ _ e1).elim
/-- Where a loop's deferred calls are kept. -/
theorem dfsR_ok {af:AF}{fr:Frame}{cs:List Frame}{s s':St}{d:Nat}(h:dfsR af.roundOf s= .some d s')(hF:FR E.P r af s.cx base fr cs)(hr:Rel w0 r s.mem w)(hf:Fresh r s.next s'.next):
  ∃w' r' b' mark,Goes w0 r s s' r' w'∧s'.lim=s.lim∧(∃o,r'.blk d=some (b',o))∧CxR r' base s'.cx fr (mark++fr.defers) cs∧
   (∀fn tm ps as bd,(Instr.enterLoop fn tm ps as bd fr.roundOf).run E.P w= .ok (w'.heap.size,mark) (w'.alloc (.loop {state:= .ready,pending:=none,fn,tmps:=tm,params:=ps,assign:=as,body:=bd,defers:=b'}))):=by
 unfold dfsR at h
 have hro2:=hF.round
 cases hro:af.roundOf with
 |none=>
  rw[hro]at h hro2
  have hfr:fr.roundOf=none:=by
   cases hx:fr.roundOf with
   |none=>rfl
   |some y=>rw[hx]at hro2;exact hro2.elim
  obtain⟨d1,s1,e1,e2⟩:=bind_some h
  have hn:s.next=s1.next-1∧s1.next=s.next+1:=by have:=(newO_some e1).2.2.1;omega
  have e2':(match s1.cx with| .cx up (some dfs)=>M.bind (putCx (.cx up (some ({target:= .collected d1,args:= #[]}::dfs)))) fun _=>M.pure d1|_=>M.fail) s1= .some d s':=e2
  have hcx1:s1.cx=s.cx:=(newO_some e1).2.2.2.2
  have hc:=hF.cx
  cases hcx:s1.cx with
  |no=>rw[hcx]at e2';cases e2'
  |cx up dd=>
   cases dd with
   |none=>rw[hcx]at e2';cases e2'
   |some dfs=>
    rw[hcx]at e2'
    have e3:R.some d1 ⟨s1.mem,s1.next,s1.lim,s1.rd,s1.wr, .cx up (some ({target:= .collected d1,args:= #[]}::dfs))⟩=R.some d s':=e2'
    cases e3
    obtain⟨k1,k2,k3,k4,k5⟩:=newO_ok (o':= .deferred (some [])) e1 hr hf rfl (by simp[OR])
    rw[←hcx1,hcx]at hc
    obtain⟨c1,c2,c3⟩:=hc
    refine⟨_,_,w.heap.size,[{target:= .collected w.heap.size,args:= #[]}],⟨k2.le,k2.nxt,k2.domB,k2.domE,k2.rel⟩,k4,⟨0,k3⟩, ?_, ?_⟩
    ·have h1:CxR (r.add s.next (w.heap.size,0)) base (.cx up (some dfs)) fr fr.defers cs:=CxR.mono k2.le (show CxR r base (.cx up (some dfs)) fr fr.defers cs from⟨c1,c2,c3⟩)
     exact⟨h1.1,h1.2.1, .cons (.coll k3) h1.2.2⟩
    ·intro fn tm ps as bd
     simp[Instr.enterLoop,hfr,newObj,Sem.run]
 |some l=>
  rw[hro]at h hro2
  obtain⟨c,s1,e1,e2⟩:=bind_some h
  obtain⟨q1,q2⟩:=rdC_some e1
  cases c with
  |C a b=>cases e2
  |O o=>
   cases o with
   |loop st pe f n g tm ps as bd df=>
    obtain⟨rfl,rfl⟩:=pure_some e2
    obtain⟨b',dd,o',g1,g2,g3⟩:=hr.obj _ _ q1 rfl
    cases hfr:fr.roundOf with
    |none=>rw[hfr]at hro2;exact hro2.elim
    |some l'=>
     rw[hfr]at hro2
     obtain⟨d',hro2⟩:=hro2
     rw[g1]at hro2
     cases hro2
     cases o' with
     |loop L=>
      obtain⟨k1,k2,k3,k4,k5,k6,k7,k8,k9⟩:=g3
      refine⟨w,r,L.defers,[], .same q2 hr,q2.2.2.1,k9,by rw[q2.2.2.2];exact hF.cx, ?_⟩
      intro fn tm ps as bd
      simp[Instr.enterLoop,run_getLoop g2,newObj,Sem.run]
     |_=>exact g3.elim
   |_=>cases e2
theorem lo_dfsR (ro:Option Nat):Loc (dfsR ro):=by
 unfold dfsR
 cases ro with
 |none=>
  refine lo_bind (lo_newO _) fun d=>lo_bind lo_getCx fun cx=> ?_
  cases cx with
  |no=>exact lo_fail
  |cx up dfs=>
   cases dfs with
   |none=>exact lo_fail
   |some dfs=>exact lo_bind (lo_putCx _) fun _=>lo_pure _
 |some l=>
  refine lo_bind (lo_rdC _) fun c=> ?_
  cases c with
  |C a b=>exact lo_fail
  |O o=>cases o<;>first|exact lo_pure _|exact lo_fail
theorem lo_goTo (af:AF)(k:List Item):Loc (goTo af k):=lo_pure _
theorem lo_goTm (af:AF)(k:List Item)(tm:T Value):Loc (goTm af k tm):=lo_pure _
theorem lo_goMo (af:AF)(m:FrameMode)(tm:T Value):Loc (goMo af m tm):=lo_pure _
theorem lo_afterR (af:AF)(k:List Item)(l:Nat):Loc (afterR af k l):=by
 unfold afterR
 refine lo_bind (lo_rdC _) fun c=> ?_
 cases c with
 |C a b=>exact lo_fail
 |O o=>cases o<;>first|exact lo_fail|exact lo_chk _ (lo_bind (lo_wrC _ _) fun _=>lo_goTo _ _)
theorem lo_callR (c1:CallOK E call)(fv:Value)(l:Nat):Loc (callR E call fv l):=by
 unfold callR
 split
 ·exact lo_chk _ (c1.loc _ _)
 ·exact lo_fail
theorem np_dfsR (ro:Option Nat):NoPan (dfsR ro):=by
 unfold dfsR
 cases ro with
 |none=>
  refine np_bind (np_newO _) fun d=>np_bind np_getCx fun cx=> ?_
  cases cx with
  |no=>exact np_fail
  |cx up dfs=>
   cases dfs with
   |none=>exact np_fail
   |some dfs=>exact np_bind (np_putCx _) fun _=>np_pure _
 |some l=>
  refine np_bind (np_rdC _) fun c=> ?_
  cases c with
  |C a b=>exact np_fail
  |O o=>cases o<;>first|exact np_pure _|exact np_fail
theorem lo_rangeF (c1:CallOK E call)(af:AF)(fv:Value)(ps:Array Nat)(as bd:Code)(k:List Item):Loc (rangeF E call af fv ps as bd k):=
 lo_bind (lo_dfsR _) fun _=>lo_bind (lo_newO _) fun _=>lo_bind (lo_noP (lo_callR c1 _ _)) fun _=>lo_afterR _ _ _
theorem noP_np {α:Type}(m:M α):NoPan (noP m):=⟨fun s c s' h=>by
 unfold noP at h
 cases e:m s<;>rw[e]at h<;>cases h⟩
theorem rangeF_ok (_he:EnvOK E)(c1:CallOK E call){af:AF}{fr:Frame}{cs:List Frame}{s s':St}{out:Out Step}{fo:Operand}{fv:Value}{ps:Array Nat}{as bd:Code}{k:List Item}
  (h:rangeF E call af fv ps as bd k s=rOf out s') (hF:FR E.P r af s.cx base fr cs) (hm:af.mode= .run) (htodo:af.todo= .code (.rangeFunc fo ps as bd)::k) (hv:VR r fv (Act.eval ⟨fr.tmps,fr.defers⟩ fo)) (hr:Rel w0 r s.mem w) (hb:Bnd s) (hf:Fresh r s.next s'.next):
  ∃w' r',Goes w0 r s s' r' w'∧s'.lim=s.lim∧StepE E.P r' base s'.cx fr (lone fr cs w) w' out:=by
 unfold rangeF at h
 rcases bind_rOf h with⟨d,s1,e1,e2⟩|⟨c,e1,_⟩
 case inr=>exact((np_dfsR _).no _ _ _ e1).elim
 have L1:=(lo_dfsR af.roundOf).at' s (.inl d) s1 e1 hb
 have L2:=(lo_bind (lo_newO (.loop .ready none af.fn af.n af.glob af.tmps ps.toList as bd d)) fun l=>lo_bind (lo_noP (lo_callR c1 fv l)) fun _=>lo_afterR af k l).at' s1 out s' e2 L1.bnd
 obtain⟨w1,r1,b',mark,g1,g2,⟨o1,g3⟩,g4,g5⟩:=dfsR_ok e1 hF hr (fun b x y=>hf b x (Nat.lt_of_lt_of_le y L2.next))
 rcases bind_rOf e2 with⟨l,s2,e3,e4⟩|⟨c,e3,_⟩
 case inr=>exact((np_newO _).no _ _ _ e3).elim
 have L3:=(lo_newO (.loop .ready none af.fn af.n af.glob af.tmps ps.toList as bd d)).at' s1 (.inl l) s2 e3 L1.bnd
 have L4:=(lo_bind (lo_noP (lo_callR c1 fv l)) fun _=>lo_afterR af k l).at' s2 out s' e4 L3.bnd
 have hf1:=g1.fresh hf
 have hle2: ∀x,r1.le (r1.add s1.next x):=fun x=>Inj.add_le x (hf1 s1.next (Nat.le_refl _) (by have:=(newO_some e3).2.2.1;have:=L4.next;omega)).1
 obtain⟨k1,k2,k3,k4,k5⟩:=newO_ok (o':= .loop {state:= .ready,pending:=none,fn:=fr.fn,tmps:=fr.tmps,params:=ps,assign:=as,body:=bd,defers:=b'}) e3 g1.rel (fun b x y=>hf1 b x (Nat.lt_of_lt_of_le y L4.next)) rfl
  ⟨rfl,rfl,hF.fn,hF.size,hF.tm.mono g1.le,rfl,rfl,rfl,o1,g3⟩
 rcases bind_rOf e4 with⟨v,s3,e5,e6⟩|⟨c,e5,_⟩
 case inr=>exact((noP_np _).no _ _ _ e5).elim
 have L5:=(lo_noP (lo_callR c1 fv l)).at' s2 (.inl v) s3 e5 L3.bnd
 have L6:=(lo_afterR af k l).at' s3 out s' e6 L5.bnd
 obtain⟨v0,q0,e5⟩:=noP_rOf (o:= .inl v) e5
 cases q0
 have hf2:=k2.fresh hf1
 -- the call
 have fin: ∃f first cap,fv= .func (.func f) first cap∧E.ext.get f=none∧call f (first.toList++(.func (.yield l) #[] #[]::cap.toList)) s2= .some v s3:=by
  unfold callR at e5
  split at e5
  ·rename_i f first cap _
   cases hn:E.ext.get f with
   |none=>rw[hn]at e5;exact⟨_,_,_,rfl,hn,e5⟩
   |some m=>rw[hn]at e5;cases e5
  ·cases e5
 obtain⟨f,first,cap,rfl,hnx,e5⟩:=fin
 obtain⟨f',a',c',q1,q2,q3,q4⟩:=hv.func_inv
 cases f' with
 |func f'=>
  simp only[FnR]at q2
  subst q2
  have hle:=Inj.le_trans g1.le k2.le
  have hyield:VR (r1.add s1.next (w1.heap.size,0)) (.func (.yield l) #[] #[]) (.func (.yield w1.heap.size) #[] #[]):= .func ⟨0,k3⟩ rfl (fun i v v' e=>by simp at e) rfl (fun i v v' e=>by simp at e)
  obtain⟨p1,p2⟩:=(c1.ok (out:= .inl v) e5 k2.rel L3.bnd (fun b x y=>hf2 b x (Nat.lt_of_lt_of_le y L6.next)) (args':=a'.toList++(.func (.yield w1.heap.size) #[] #[]::c'.toList)) ((q3.mono hle).append (.cons hyield (q4.mono hle)))).resolve_right fun x=>x.1 hnx
  obtain⟨w3,r3,p3,p4,p5,v',p6,p7⟩:=p2 (frm fr fr.tmps (mark++fr.defers) (.inRangeFunc w1.heap.size::k)) cs
  have hstart:step E.P (lone fr cs w)= .next (lone (Frame.enter E.P f (a'.toList++(.func (.yield w1.heap.size) #[] #[]::c'.toList)).toArray .normal) (frm fr fr.tmps (mark++fr.defers) (.inRangeFunc w1.heap.size::k)::cs)
    (w1.alloc (.loop {state:= .ready,pending:=none,fn:=fr.fn,tmps:=fr.tmps,params:=ps,assign:=as,body:=bd,defers:=b'}))):=by
   rw[hF.frm hm,htodo]
   refine step_lone_go ?_
   have hrun:=g5 fr.fn fr.tmps ps as bd
   have hev:(frm fr fr.tmps (mark++fr.defers) (.inRangeFunc w1.heap.size::k)).eval fo= .func (.func f) a' c':=by
    rw[frm_eval]
    rw[←q1]
    cases fo<;>rfl
   have hinv: ∀w,(do let d ←resolve (frm fr fr.tmps (mark++fr.defers) (.inRangeFunc w1.heap.size::k)).eval {callee:= .value fo,args:= #[.const (.func (.yield w1.heap.size) #[] #[])],argTypes:= #[]} 0;invoke d.target d.args:Sem Next).run E.P w=
     .ok (.enter f (a'.toList++(.func (.yield w1.heap.size) #[] #[]::c'.toList)).toArray) w:=by
    intro w
    rw[resolve_value _ rfl hev]
    have e1:(a'++Array.map (frm fr fr.tmps (mark++fr.defers) (.inRangeFunc w1.heap.size::k)).eval #[.const (.func (.yield w1.heap.size) #[] #[])]++c')=(a'.toList++(.func (.yield w1.heap.size) #[] #[]::c'.toList)).toArray:=by
     apply Array.toList_inj.1
     simp[Frame.eval]
    simp only[Sem.run_bind,Sem.run_pure,Result.andThen_ok,invoke,e1,p1]
   have e5:(stepG E.P true {frame:=frm fr fr.tmps fr.defers (.code (.rangeFunc fo ps as bd)::k),callers:=cs,status:= .running,dying:=none} w).bare=
     (stepG.apply E.P true (frm fr fr.tmps (mark++fr.defers) (.inRangeFunc w1.heap.size::k)) cs none (do let d ←resolve (frm fr fr.tmps (mark++fr.defers) (.inRangeFunc w1.heap.size::k)).eval {callee:= .value fo,args:= #[.const (.func (.yield w1.heap.size) #[] #[])],argTypes:= #[]} 0;invoke d.target d.args)
      (w1.alloc (.loop {state:= .ready,pending:=none,fn:=fr.fn,tmps:=fr.tmps,params:=ps,assign:=as,body:=bd,defers:=b'}))).bare:=by
    have hro:(frm fr fr.tmps fr.defers (.code (.rangeFunc fo ps as bd)::k)).roundOf=fr.roundOf:=rfl
    simp only[stepG,stepG.exec,frm,Sem.runT_eq,hrun,GStep.bare_after]
   rw[e5]
   simp only[stepG.apply,Sem.runT_eq,hinv,GStep.bare_after]
   rfl
  -- behind it
  have e6':=e6
  unfold afterR at e6
  rcases bind_rOf e6 with⟨c,s4,e7,e8⟩|⟨c,e7,_⟩
  case inr=>exact((np_rdC _).no _ _ _ e7).elim
  obtain⟨z1,z2⟩:=rdC_some e7
  have fin2: ∃st pe f n g tm ps as bd df,c= .O (.loop st pe f n g tm ps as bd df)∧st≠ .busy∧M.bind (wrC l (.O (.loop .exhausted pe f n g tm ps as bd df))) (fun _=>goTo af (pendL pe++k)) s4=rOf out s':=by
   cases c with
   |C a b=>exact(rOf_none e8).elim
   |O o=>
    cases o with
    |loop st pe f n g tm ps as bd df=>
     cases st with
     |busy=>exact(rOf_none e8).elim
     |ready=>exact⟨_,_,_,_,_,_,_,_,_,_,rfl,(by intro h;cases h),e8⟩
     |done=>exact⟨_,_,_,_,_,_,_,_,_,_,rfl,(by intro h;cases h),e8⟩
     |exhausted=>exact⟨_,_,_,_,_,_,_,_,_,_,rfl,(by intro h;cases h),e8⟩
    |_=>exact(rOf_none e8).elim
  obtain⟨st,pe,lf,ln,lg,ltm,lps,las,lbd,ldf,rfl,hst,e8⟩:=fin2
  rcases bind_rOf e8 with⟨u,s5,e9,e10⟩|⟨c,e9,_⟩
  case inr=>exact((np_wrC _ _).no _ _ _ e9).elim
  obtain⟨rfl,rfl⟩:=rOf_inl ((goTo_eq af _ s5).symm.trans e10)
  obtain⟨lb,ld,lo,y1,y2,y3⟩:=p3.rel.obj _ _ z1 rfl
  have hlb:r3.blk l=some (w1.heap.size,0):=p3.le.1 _ _ k3
  rw[hlb]at y1
  cases y1
  cases lo with
  |loop LL=>
   obtain⟨j1,j2,j3,j4,j5,j6,j7,j8,j9⟩:=y3
   have hOR:OR r3 (.loop .exhausted pe lf ln lg ltm lps las lbd ldf) (.loop {LL with state:= .exhausted}):=⟨rfl,j2,j3,j4,j5,j6,j7,j8,j9⟩
   obtain⟨x1,x2,x3⟩:=wrO_ok e9 (by rw[z2.1];exact p3.rel) (by rw[z2.1];exact z1) rfl hlb hOR rfl
   have hgo:Goes w0 r s s' r3 (World.setO w3 w1.heap.size (.loop {LL with state:= .exhausted})):=g1.trans (k2.trans (p3.trans ((Goes.same z2 p3.rel).trans x1)))
   refine⟨_,r3,hgo,x2.trans (z2.2.2.1.trans (p4.trans (k4.trans g2))),frm fr fr.tmps (mark++fr.defers) (pendL pe++k),cs,rfl, ?_, ?_⟩
   ·refine⟨hF.fn,hF.size,hF.tm.mono hgo.le,fun _=>rfl,by rw[show({af with todo:=pendL pe++k}:AF).mode= .run from hm];exact .run,hF.round.mono hgo.le,hF.rk,hF.known, ?_⟩
    rw[x3,z2.2.2.2,p5,k5]
    exact g4.mono (Inj.le_trans k2.le p3.le)
   ·refine .head hstart (p7.trans (.one ?_))
    refine step_lone_go ?_
    have hrun:(Instr.endLoop w1.heap.size).run E.P w3= .ok pe (World.setO w3 w1.heap.size (.loop {LL with state:= .exhausted})):=by
     have hb:(LL.state==LoopState.busy)=false:=by
      rw[j1]
      cases st<;>first|rfl|exact absurd rfl hst
     simp only[Instr.endLoop,Sem.run_bind,run_getLoop y2,Result.andThen_ok,hb,Bool.false_eq_true,if_false,run_setLoop y2,Sem.run_pure,j2]
    have hfin:(frm fr fr.tmps (mark++fr.defers) (.inRangeFunc w1.heap.size::k)).finish v'=frm fr fr.tmps (mark++fr.defers) (.endRangeFunc w1.heap.size::k):=rfl
    rw[hfin]
    have hpend:(pe.map Item.code).toList++k=pendL pe++k:=by cases pe<;>rfl
    simp only[stepG,stepG.exec,frm,Sem.runT_eq,hrun,GStep.bare_after,hpend]
    rfl
  |_=>exact y3.elim
 |_=>simp only[FnR]at q2
end
end Go.Proofs.YtapojfiplajfaaaGreatDoor.Am
/- Frames beside the evaluator's:code of every kind;leaving a frame. -/
namespace Go.Proofs.YtapojfiplajfaaaGreatDoor.Am
open Go.RowKit
section
variable {E:Env}{call round:CallT}{w0 w:World}{r:Inj}{base:List Deferred×List Frame}
theorem codeF_eq (call round:CallT)(af:AF)(k:List Item)(c:Code){f:CodeT}(h:compC E af.glob af.n c= .mk f):codeF E call round af k c=f call round af k:=by
 obtain⟨fn,n,g,tm,todo,mo,ki,ro⟩:=af
 show Cl.rec (motive:=fun _=>M Step) (fun f=>f call round (AF.mk fn n g tm todo mo ki ro) k) (compC E g n c)=_
 rw[show compC E g n c= .mk f from h]
theorem lo_condF (af:AF)(a b:Code)(k:List Item)(v:Value):Loc (condF af a b k v):=by
 cases v with
 |bool t=>cases t<;>exact lo_goTo _ _
 |_=>exact lo_fail
theorem lo_endR (l:Nat)(jump:Option Code):Loc (endR l jump):=by
 unfold endR
 refine lo_bind (lo_rdC _) fun c=> ?_
 cases c with
 |C a b=>exact lo_fail
 |O o=>cases o<;>first|exact lo_fail|exact lo_bind (lo_wrC _ _) fun _=>lo_pure _
theorem lo_leaveF (af:AF)(jump:Option Code):Loc (leaveF af jump):=lo_opt _ (lo_chk _ (lo_goMo _ _ _)) fun l=>lo_endR l jump
theorem lo_jumpF (af:AF)(jump:Code)(k:Option (List Item)):Loc (jumpF af jump k):=lo_opt _ (lo_leaveF _ _) fun _k=>lo_goTo _ _
theorem lo_regF (he:EnvOK E)(c1:CallOK E call)(c2:RoundOK E round){af:AF}{ops:Array Oper}{cops:List COp}{F:RT}{ds:List Nat}{k:List Item}(hc:compOps E af.glob af.n ops.toList ops.toList []=some cops)(hF':fuse cops= .mk F):Loc (regF call round af ds F k):=by
 obtain⟨F2,q1,q2⟩:=fuse_eq cops
 rw[hF']at q1
 cases q1
 have:regF call round af ds F k=fun s=>R.rec (motive:=fun _=>R Step) .none (fun tm s=>goTm af k tm s) (fun c s=>Option.rec (motive:=fun _=>M Step) (raiseF af ds c) (fun _=>M.fail) af.roundOf s) (opsIn call round cops [] af.tmps s):=by
  funext s
  unfold regF
  rw[q2]
  cases opsIn call round cops [] af.tmps s with
  |none=>rfl
  |some a s=>rfl
  |pan c s=>cases af.roundOf<;>rfl
 rw[this]
 refine lo_catch (f:=fun tm=>goTm af k tm) (g:=fun c=>Option.rec (motive:=fun _=>M Step) (raiseF af ds c) (fun _=>M.fail) af.roundOf) ?_ (fun tm=>lo_goTm _ _ _) fun c=>lo_opt _ (lo_goMo _ _ _) fun _=>lo_fail
 exact lo_opsIn he.ty c1 c2 ops.toList 0 [] cops hc (fun j o hj=>by rw[Nat.zero_add];rw[Array.getElem?_toList]at hj;exact hj) [] af.tmps
theorem lo_drawE (he:EnvOK E)(c1:CallOK E call)(c2:RoundOK E round){af:AF}{ops:Array Oper}{cops:List COp}{bef ds:List Nat}{m:Nat}{k:List Item}(hc:compOps E af.glob af.n ops.toList ops.toList []=some cops)
  (hloc: ∀c∈cops,∀rho tm,Loc (wantG c.guard rho (c.run call round rho tm))):Loc (drawE call round af (cops.take m) (cops.drop m) bef ds k):=by
 refine lo_bind (lo_drawP fun c hcm=>hloc c (List.mem_of_mem_take hcm)) fun q=> ?_
 refine lo_catch (f:=fun tm=>goTm af k tm) (g:=fun c=>Option.rec (motive:=fun _=>M Step) (raiseF af ds c) (fun _=>M.fail) af.roundOf) ?_ (fun tm=>lo_goTm _ _ _) fun c=>lo_opt _ (lo_goMo _ _ _) fun _=>lo_fail
 exact lo_opsIn he.ty c1 c2 (ops.toList.drop m) m _ _ (compOps_drop m ops.toList [] cops hc) (fun j o hj=>by rw[List.getElem?_drop,Array.getElem?_toList]at hj;exact hj) _ _
theorem compReg_cases (g n:Nat)(ops:Array Oper)(d:Bool):(∃f,compReg E g n ops d= .mk f∧f=fun _ _ _ _=>M.fail)∨ ∃cops F,compOps E g n ops.toList ops.toList []=some cops∧fuse cops= .mk F∧
  ((d=false∧compReg E g n ops d= .mk fun call round fr k=>regF call round fr (dstL ops.toList) F k)∨(d=true∧drawOk ops.toList (Region.before ops).toList=true∧ ∃m,m=manyD ops.size (Region.before ops).toList∧((compReg E g n ops d= .mk fun call round fr k=>drawE call round fr (cops.take m) (cops.drop m) (Region.before ops).toList (dstL ops.toList) k)∨ ∃j b,panJ ops.toList (Region.before ops).toList=some (j,b)∧compReg E g n ops d= .mk fun call round fr k=>drawX call round fr cops (dstL ops.toList) (Region.before ops).toList m j b k))):=by
 unfold compReg
 cases e:compOps E g n ops.toList ops.toList []with
 |none=>exact .inl ⟨_,rfl,rfl⟩
 |some cops=>
  obtain⟨F,q1,_⟩:=fuse_eq cops
  cases d with
  |false=>exact .inr ⟨cops,F,rfl,q1, .inl ⟨rfl,by simp only[q1]⟩⟩
  |true=>
   cases hd:drawOk ops.toList (Region.before ops).toList with
   |false=>exact .inl ⟨_,rfl,rfl⟩
   |true=>
    refine .inr ⟨cops,F,rfl,q1, .inr ⟨rfl,rfl,_,rfl, ?_⟩⟩
    have hn:cops.length=ops.size:=by rw[(compOps_at ops.toList [] cops e).1];simp
    cases hp:panJ ops.toList (Region.before ops).toList with
    |none=>
     refine .inl ?_
     show drawC cops (dstL ops.toList) (Region.before ops).toList (manyD cops.length (Region.before ops).toList)=_
     unfold drawC
     simp only[takeC_eq,dropC_eq,hn]
    |some p=>
     refine .inr ⟨p.1,p.2,rfl, ?_⟩
     show drawXC cops (dstL ops.toList) (Region.before ops).toList (manyD cops.length (Region.before ops).toList) p.1 p.2=_
     unfold drawXC
     rw[hn]
theorem lo_drawX (he:EnvOK E)(c1:CallOK E call)(c2:RoundOK E round){af:AF}{ops:Array Oper}{cops:List COp}{bef ds:List Nat}{m j b:Nat}{k:List Item}(hc:compOps E af.glob af.n ops.toList ops.toList []=some cops)
  (hloc: ∀c∈cops,∀rho tm,Loc (wantG c.guard rho (c.run call round rho tm))):Loc (drawX call round af cops ds bef m j b k):=by
 unfold drawX
 rw[takeC_eq,dropC_eq]
 exact lo_again (g:=fun c=>Option.rec (motive:=fun _=>M Step) (raiseF af ds c) (fun _=>M.fail) af.roundOf) (lo_tryX hloc) (lo_drawE he c1 c2 hc hloc) fun c=>lo_opt _ (lo_goMo _ _ _) fun _=>lo_fail
theorem lo_hloc (he:EnvOK E)(c1:CallOK E call)(c2:RoundOK E round){g n:Nat}{ops:Array Oper}{cops:List COp}(hc:compOps E g n ops.toList ops.toList []=some cops): ∀c∈cops,∀rho tm,Loc (wantG c.guard rho (c.run call round rho tm)):=by
 obtain⟨hlen,hcomp⟩:=compOps_at ops.toList [] cops hc
 intro c hcm rho tm
 obtain⟨i,hi,rfl⟩:=List.getElem_of_mem hcm
 have hio:i<ops.toList.length:=by rw[←hlen];exact hi
 obtain⟨g,f,p1,p2,p3,p4⟩:=hcomp i ops.toList[i] (List.getElem?_eq_getElem hio)
 rw[List.getElem?_eq_getElem hi]at p1
 rw[Option.some.inj p1]
 exact(opG_ok (ops:=ops) (i:=i) (keep:=keepD ops.toList[i].dst _) he.ty (by rw[←Array.getElem?_toList];exact List.getElem?_eq_getElem hio) p2 p4).1 call round c1 c2 rho tm
theorem lo_codeF (he:EnvOK E)(c1:CallOK E call)(c2:RoundOK E round)(af:AF)(k:List Item)(c:Code):Loc (codeF E call round af k c):=by
 cases c with
 |skip=>rw[codeF_eq (f:=fun _ _ fr k=>goTo fr k) call round af k _ rfl];exact lo_goTo _ _
 |region id ops d=>
  rcases compReg_cases (E:=E) af.glob af.n ops d with⟨f,q1,rfl⟩|⟨cops,F,q1,q2,⟨rfl,q3⟩|⟨rfl,q4,m,hm0,q3|⟨j,b,qj,q3⟩⟩⟩
  ·rw[codeF_eq call round af k (.region id ops d) q1];exact lo_fail
  ·rw[codeF_eq call round af k (.region id ops false) q3];exact lo_regF he c1 c2 q1 q2
  ·rw[codeF_eq call round af k (.region id ops true) q3];exact lo_drawE he c1 c2 q1 (lo_hloc he c1 c2 q1)
  ·rw[codeF_eq call round af k (.region id ops true) q3];exact lo_drawX he c1 c2 q1 (lo_hloc he c1 c2 q1)
 |seq a b=>rw[codeF_eq (f:=fun _ _ fr k=>goTo fr (.code a:: .code b::k)) call round af k _ rfl];exact lo_goTo _ _
 |cond x a b=>
  obtain⟨g,h1,_⟩:=compO_ok [] x
  rw[codeF_eq (f:=fun _ _ fr k=>M.on (g [] fr.tmps) (condF fr a b k)) call round af k (.cond x a b) (by unfold compC;simp only[h1])]
  exact lo_on _ fun v=>lo_condF _ _ _ _ _
 |block id b=>rw[codeF_eq (f:=fun _ _ fr k=>goTo fr (.code b:: .inBlock id::k)) call round af k _ rfl];exact lo_goTo _ _
 |loop b=>rw[codeF_eq (f:=fun _ _ fr k=>goTo fr (.code b:: .inLoop b::k)) call round af k _ rfl];exact lo_goTo _ _
 |rangeFunc f ps as bd=>
  obtain⟨g,h1,_⟩:=compO_ok [] f
  rw[codeF_eq (f:=fun call _ fr k=>M.on (g [] fr.tmps) fun f=>rangeF E call fr f ps as bd k) call round af k (.rangeFunc f ps as bd) (by unfold compC;simp only[h1])]
  exact lo_on _ fun v=>lo_rangeF c1 _ _ _ _ _ _
 |exit id=>rw[codeF_eq (f:=fun _ _ fr k=>jumpF fr (.exit id) (exitTo id k)) call round af k _ rfl];exact lo_jumpF _ _ _
 |scope b=>rw[codeF_eq (f:=fun _ _ fr k=>goTo fr (.code b:: .inScope b::k)) call round af k _ rfl];exact lo_goTo _ _
 |label l=>rw[codeF_eq (f:=fun _ _ fr k=>goTo fr k) call round af k _ rfl];exact lo_goTo _ _
 |goto l=>rw[codeF_eq (f:=fun _ _ fr k=>jumpF fr (.goto l) (gotoIn l k)) call round af k _ rfl];exact lo_jumpF _ _ _
 |ret=>rw[codeF_eq (f:=fun _ _ fr _=>leaveF fr (some .ret)) call round af k _ rfl];exact lo_leaveF _ _
 |refuse x=>rw[codeF_eq (f:=fun _ _ _ _=>M.fail) call round af k _ rfl];exact lo_fail
theorem codeF_ok (he:EnvOK E)(c1:CallOK E call)(c2:RoundOK E round){af:AF}{fr:Frame}{cs:List Frame}{s s':St}{out:Out Step}{c:Code}{k:List Item}(h:codeF E call round af k c s=rOf out s')(hF:FR E.P r af s.cx base fr cs)(hm:af.mode= .run)(htodo:af.todo= .code c::k)
  (hr:Rel w0 r s.mem w) (hb:Bnd s) (hf:Fresh r s.next s'.next):
  ∃w' r',Goes w0 r s s' r' w'∧s'.lim=s.lim∧StepE E.P r' base s'.cx fr (lone fr cs w) w' out:=by
 cases c with
 |skip=>rw[codeF_eq (f:=fun _ _ fr k=>goTo fr k) call round af k _ rfl]at h;exact goTo_ok h hF hm hr (by rw[htodo];exact sf_skip)
 |region id ops d=>
  rcases compReg_cases (E:=E) af.glob af.n ops d with⟨f,q1,rfl⟩|⟨cops,F,q1,q2,⟨rfl,q3⟩|⟨rfl,q4,m,hm0,q3|⟨j,b,qj,q3⟩⟩⟩
  ·rw[codeF_eq call round af k (.region id ops d) q1]at h;exact(rOf_none h).elim
  ·rw[codeF_eq call round af k (.region id ops false) q3]at h;exact regF_ok he c1 c2 q1 q2 h hF hm htodo hr hb hf
  ·rw[codeF_eq call round af k (.region id ops true) q3]at h;exact drawE_ok he c1 c2 q1 q4 hm0 h hF hm htodo hr hb hf
  ·rw[codeF_eq call round af k (.region id ops true) q3]at h;exact drawX_ok he c1 c2 q1 q4 hm0 qj h hF hm htodo hr hb hf
 |seq a b=>rw[codeF_eq (f:=fun _ _ fr k=>goTo fr (.code a:: .code b::k)) call round af k _ rfl]at h;exact goTo_ok h hF hm hr (by rw[htodo];exact sf_seq)
 |cond x a b=>
  obtain⟨g,h1,h2⟩:=compO_ok [] x
  rw[codeF_eq (f:=fun _ _ fr k=>M.on (g [] fr.tmps) (condF fr a b k)) call round af k (.cond x a b) (by unfold compC;simp only[h1])]at h
  obtain⟨v,e1,h⟩:=on_rOf h
  have hv:VR r v (Act.eval ⟨fr.tmps,fr.defers⟩ x):=h2 _ _ _ _ ⟨fr.tmps,fr.defers⟩ _ hF.slots (fun _ _=>True.intro) e1
  cases v with
  |bool t=>
   have hx:Act.eval ⟨fr.tmps,fr.defers⟩ x= .bool t:=by
    generalize Act.eval ⟨fr.tmps,fr.defers⟩ x=y at hv
    cases hv;rfl
   cases t with
   |true=>exact goTo_ok (k:= .code a::k) h hF hm hr (by rw[htodo];exact sf_cond hx)
   |false=>exact goTo_ok (k:= .code b::k) h hF hm hr (by rw[htodo];exact sf_cond hx)
  |_=>exact(rOf_none h).elim
 |block id b=>rw[codeF_eq (f:=fun _ _ fr k=>goTo fr (.code b:: .inBlock id::k)) call round af k _ rfl]at h;exact goTo_ok h hF hm hr (by rw[htodo];exact sf_block)
 |loop b=>rw[codeF_eq (f:=fun _ _ fr k=>goTo fr (.code b:: .inLoop b::k)) call round af k _ rfl]at h;exact goTo_ok h hF hm hr (by rw[htodo];exact sf_loop)
 |rangeFunc f ps as bd=>
  obtain⟨g,h1,h2⟩:=compO_ok [] f
  rw[codeF_eq (f:=fun call _ fr k=>M.on (g [] fr.tmps) fun f=>rangeF E call fr f ps as bd k) call round af k (.rangeFunc f ps as bd) (by unfold compC;simp only[h1])]at h
  obtain⟨v,e1,h⟩:=on_rOf h
  have hv:VR r v (Act.eval ⟨fr.tmps,fr.defers⟩ f):=h2 _ _ _ _ ⟨fr.tmps,fr.defers⟩ _ hF.slots (fun _ _=>True.intro) e1
  exact rangeF_ok he c1 h hF hm htodo hv hr hb hf
 |exit id=>
  rw[codeF_eq (f:=fun _ _ fr k=>jumpF fr (.exit id) (exitTo id k)) call round af k _ rfl]at h
  exact jumpF_ok h hF hm hr hF.csr (fun k' e=>by rw[htodo];exact sf_exit e) fun e=> .inl ⟨id,k,htodo,e,rfl⟩
 |scope b=>rw[codeF_eq (f:=fun _ _ fr k=>goTo fr (.code b:: .inScope b::k)) call round af k _ rfl]at h;exact goTo_ok h hF hm hr (by rw[htodo];exact sf_scope)
 |label l=>rw[codeF_eq (f:=fun _ _ fr k=>goTo fr k) call round af k _ rfl]at h;exact goTo_ok h hF hm hr (by rw[htodo];exact sf_label)
 |goto l=>
  rw[codeF_eq (f:=fun _ _ fr k=>jumpF fr (.goto l) (gotoIn l k)) call round af k _ rfl]at h
  exact jumpF_ok h hF hm hr hF.csr (fun k' e=>by rw[htodo];exact sf_goto e) fun e=> .inr ⟨l,k,htodo,e,rfl⟩
 |ret=>rw[codeF_eq (f:=fun _ _ fr _=>leaveF fr (some .ret)) call round af k _ rfl]at h;exact leaveF_ok h hF hm hr hF.csr (.inr (.inl ⟨k,htodo,rfl⟩))
 |refuse x=>rw[codeF_eq (f:=fun _ _ _ _=>M.fail) call round af k _ rfl]at h;exact(rOf_none h).elim
theorem lo_begR (af:AF)(k:List Item):Loc (begR af k):=by
 unfold begR
 cases af.roundOf with
 |none=>exact lo_fail
 |some l=>
  refine lo_bind (lo_rdC _) fun c=> ?_
  cases c with
  |C a b=>exact lo_fail
  |O o=>
   cases o with
   |loop st pe f n g tm ps as bd df=>cases st<;>first|exact lo_fail|exact lo_bind (lo_wrC _ _) fun _=>lo_goTo _ _
   |_=>exact lo_fail
theorem lo_itemF (he:EnvOK E)(c1:CallOK E call)(c2:RoundOK E round)(af:AF)(k:List Item)(x:Item):Loc (itemF E call round af k x):=by
 cases x with
 |code c=>exact lo_codeF he c1 c2 _ _ _
 |inBlock id=>exact lo_goTo _ _
 |inLoop b=>exact lo_goTo _ _
 |inScope b=>exact lo_goTo _ _
 |beginRound=>exact lo_begR _ _
 |_=>exact lo_fail
theorem itemF_ok (he:EnvOK E)(c1:CallOK E call)(c2:RoundOK E round){af:AF}{fr:Frame}{cs:List Frame}{s s':St}{out:Out Step}{x:Item}{k:List Item}(h:itemF E call round af k x s=rOf out s')(hF:FR E.P r af s.cx base fr cs)(hm:af.mode= .run)(htodo:af.todo=x::k)
  (hr:Rel w0 r s.mem w) (hb:Bnd s) (hf:Fresh r s.next s'.next):
  ∃w' r',Goes w0 r s s' r' w'∧s'.lim=s.lim∧StepE E.P r' base s'.cx fr (lone fr cs w) w' out:=by
 cases x with
 |code c=>exact codeF_ok he c1 c2 h hF hm htodo hr hb hf
 |inBlock id=>exact goTo_ok (k:=k) h hF hm hr (by rw[htodo];exact sf_inBlock)
 |inLoop b=>exact goTo_ok (k:= .code b:: .inLoop b::k) h hF hm hr (by rw[htodo];exact sf_inLoop)
 |inScope b=>exact goTo_ok (k:=k) h hF hm hr (by rw[htodo];exact sf_inScope)
 |beginRound=>exact begR_ok h hF hm htodo hr
 |_=>exact(rOf_none h).elim
/-! ### Results -/
theorem lo_resV (tm:T Value)(x:ResultVar):Loc (resV E tm x):=by
 cases x with
 |tmp t=>exact lo_ofOpt _
 |cell a t=>exact lo_on _ fun a=>lo_bind (lo_asA _) fun a=>lo_aLoad _ _ _
theorem lo_resL (tm:T Value): ∀(l:List ResultVar),Loc (resL E tm l)
 |[]=>lo_pure _
 |x::l=>lo_bind (lo_resV tm x) fun _v=>lo_bind (lo_resL tm l) fun _l=>lo_pure _
def resM (t:Array Value)(x:ResultVar):Sem Value:=
 match x with
 | .tmp i=>pure (t.getD i undef)
 | .cell a ty=>do loadVar ty (←asAddr (t.getD a undef))
theorem results_eq (fn:Func)(t:Array Value):results fn t=(do let vs ←fn.results.mapM (resM t);pure (if h:vs.size=1 then vs[0]else .tuple vs)):=rfl
theorem resV_ok (he:EnvTy E){g:Nat}{tm:T Value}{t:Array Value}{x:ResultVar}{s s':St}{v:Value}(h:resV E tm x s= .some v s')(hT:TmR r g tm t)(hr:Rel w0 r s.mem w):
  ∃v',((resM t x).run E.P w= .ok v' w)∧VR r v v'∧Same s s':=by
 cases x with
 |tmp i=>
  obtain⟨h1,rfl⟩:=ofOpt_some h
  obtain⟨_,v',k1,k2⟩:=hT i v h1
  exact⟨v',by simp[resM,Array.getD_eq_getD_getElem?,k1],k2, .refl _⟩
 |cell a ty=>
  obtain⟨av,h1,h⟩:=on_some h
  obtain⟨ad,s1,h2,h3⟩:=bind_some h
  obtain⟨rfl,rfl⟩:=asA_some h2
  obtain⟨_,v',k1,k2⟩:=hT a _ h1
  obtain⟨ad',rfl,k3⟩:=k2.ptr_inv
  obtain⟨v',k4,k5,k6⟩:=aLoad_ok he h3 hr k3
  refine⟨v', ?_,k5,k6⟩
  simp only[resM,Array.getD_eq_getD_getElem?,k1,Option.getD_some,Sem.run_bind,asAddr,Sem.run_pure,Result.andThen_ok,k4]
theorem resL_ok (he:EnvTy E){g:Nat}{tm:T Value}{t:Array Value}(hT:TmR r g tm t): ∀(l:List ResultVar) {s s':St} {vs:List Value},resL E tm l s= .some vs s'→Rel w0 r s.mem w→
  ∃vs',(l.mapM (resM t)).run E.P w= .ok vs' w∧VRs r vs vs'∧Same s s'
 |[],s,s',vs,h,hr=>by
  obtain⟨rfl,rfl⟩:=pure_some h
  exact⟨[],by simp, .nil, .refl _⟩
 |x::l,s,s',vs,h,hr=>by
  obtain⟨v,s1,h1,h⟩:=bind_some h
  obtain⟨ws,s2,h2,h⟩:=bind_some h
  obtain⟨rfl,rfl⟩:=pure_some h
  obtain⟨v',k1,k2,k3⟩:=resV_ok he h1 hT hr
  obtain⟨ws',k4,k5,k6⟩:=resL_ok he hT l h2 (by rw[k3.1];exact hr)
  refine⟨v'::ws', ?_, .cons k2 k5,k3.trans k6⟩
  rw[List.mapM_cons]
  simp only[Sem.run_bind,k1,Result.andThen_ok,k4,Sem.run_pure]
theorem resultsA_ok (he:EnvTy E){g:Nat}{tm:T Value}{t:Array Value}{fn:Func}{s s':St}{v:Value}(h:resultsA E fn tm s= .some v s')(hT:TmR r g tm t)(hr:Rel w0 r s.mem w): ∃v',(results fn t).run E.P w= .ok v' w∧VR r v v'∧Same s s':=by
 obtain⟨vs,s1,h1,h⟩:=bind_some h
 obtain⟨rfl,rfl⟩:=pure_some h
 obtain⟨vs',k1,k2,k3⟩:=resL_ok he hT _ h1 hr
 have hm:(fn.results.mapM (resM t)).run E.P w= .ok vs'.toArray w:=by
  rw[Array.mapM_eq_mapM_toList,map_eq_pure_bind]
  simp only[Sem.run_bind,k1,Result.andThen_ok,Sem.run_pure]
 refine⟨tupV vs', ?_, ?_,k3⟩
 ·rw[results_eq]
  simp only[Sem.run_bind,hm,Result.andThen_ok,Sem.run_pure]
  congr 1
  unfold tupV
  cases vs' with
  |nil=>rfl
  |cons a l=>cases l<;>simp
 ·cases vs with
  |nil=>rw[k2.inv_nil];exact VRs.tuple .nil
  |cons a l=>
   obtain⟨a',l',rfl,q1,q2⟩:=k2.inv
   cases l with
   |nil=>rw[q2.inv_nil];exact q1
   |cons b m=>
    obtain⟨b',m',rfl,q3,q4⟩:=q2.inv
    exact VRs.tuple (.cons q1 (.cons q3 q4))
end
end Go.Proofs.YtapojfiplajfaaaGreatDoor.Am
