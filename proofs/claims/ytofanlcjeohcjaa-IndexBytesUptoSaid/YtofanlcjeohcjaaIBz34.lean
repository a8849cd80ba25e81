import Derived.Test.YtofanlcjeohcjaaIBz33
noncomputable section
namespace Go.Proofs.Ytofanlcjeohcjaa.Am
open Go.RowKit
theorem AnN_:C5 envS 111 []=some [.slice none 0 0, .bool false]:=X
section
variable {A:Nat}{Q:Value×FrameMode->St->Prop}{s0:St}
theorem Avo_ {vp:Value}{ps:List PkI}{i0:Nat}{hs:List HdI}{ACC:List Nat}(hb0:s0.lim<=s0.next)(hp:PkR s0 vp ps)(hi0:i0<ps.length)(ehs:ps[i0].hs=hs)(ok: ∀h∈hs,okH h)(hz:ACC.length<=900000)(hl:hs.length<=1000000):
  ∀(k j n:Nat) (acc:List Nat) (v:Value) (bk:Nat) (tm:T Value) (s:St) (td:List Item),j+k=hs.length->60*k+1500<=n->skim 64 td=IP->RwI s0 s A v acc bk->acc++Cg (hs.drop j)=ACC->
  T.get tm 0=some vp->T.get tm 5=some (.pointer (some ⟨A,0,none⟩))->T.get tm 6=some (.int .i64 (i0:Nat))->T.get tm 7=some (.int .i64 (j:Nat))->
  (∀(n1:Nat) (v1:Value) (bk1:Nat) (tm1:T Value) (s1:St) (td1:List Item),n-(60*k+10)<=n1->skim 64 td1=Ox->RwI s0 s1 A v1 ACC bk1->T.get tm1 0=some vp->T.get tm1 5=some (.pointer (some ⟨A,0,none⟩))->T.get tm1 6=some (.int .i64 (i0:Nat))->W (runF envS n1 ⟨38,JI,BK,tm1,td1, .run, .normal,none⟩) s1 Q)->
  W (runF envS n ⟨38,JI,BK,tm,td, .run, .normal,none⟩) s Q:=by
 intro k
 induction k with
 |zero=>
  intro j n acc v bk tm s td hj hn hT' h hACC g0 g5 g6 g7 q
  obtain⟨b,o,c,ev,ga,ghi,g16,_,_⟩:=(hp.ext0 h.x).at hi0
  rw[ehs]at ghi
  refine Yb.u ?_ hT'
  simp only[Pq,RR,SS,Nat.reduceEqDiff,reduceCtorEq, ↓reduceIte,g0,g6,g7,ev,AO A8 hi0,Af BG al]
  refine aA (b:=b) (o:=o+i0*3+2) Bu (ga 2 _ rfl) ?_
  have h1:=h.ext0 hb0 (Ext.rdN (F:=Any) (G:=Non) s (b+(o+i0*3+2)) λ_=>trivial)
  rw[ghi.len]
  simp only[SS,Nat.reduceEqDiff,reduceCtorEq, ↓reduceIte,Ad,Ah,Ab,Ae,Ak,An,Al,Ag]
  refine aE EX_ ?_
  rw[List.drop_of_length_le J]at hACC
  have e:acc=ACC:=by rw[<-hACC];exact(List.append_nil acc).symm
  subst e
  exact q _ v bk _ _ _ J rfl h1 (by simp[T.get_set,g0,ev]) (an g5) (an g6)
 |succ k ih=>
  intro j n acc v bk tm s td hj hn hT' h hACC g0 g5 g6 g7 q
  have hjl:j<hs.length:=J
  obtain⟨b,o,c,ev,ga,ghi,g16,_,_⟩:=(hp.ext0 h.x).at hi0
  rw[ehs]at ghi g16
  have hd:hs.drop j=hs[j]::hs.drop (j+1):=(List.getElem_cons_drop ..).symm
  rw[hd]at hACC
  have hm:=List.getElem_mem hjl
  have g16':=g16 _ hm
  obtain⟨_,ok1,ok2,ok3,ok4⟩:=ok _ hm
  refine Yb.u ?_ hT'
  simp only[Pq,RR,SS,Nat.reduceEqDiff,reduceCtorEq, ↓reduceIte,g0,g6,g7,ev,AO A8 hi0,Af BG al]
  refine aA (b:=b) (o:=o+i0*3+2) Bu (ga 2 _ rfl) ?_
  have h1:=h.ext0 hb0 (Ext.rdN (F:=Any) (G:=Non) s (b+(o+i0*3+2)) λ_=>trivial)
  rw[ghi.len]
  simp only[SS,Nat.reduceEqDiff,reduceCtorEq, ↓reduceIte,Ad,Ah,Ab,Ae,Ak,An,Al,Ag]
  refine aH EX_ ?_
  refine AqH_.u ?_
  simp only[CN_,RR,SS,Nat.reduceEqDiff,reduceCtorEq, ↓reduceIte,Nat.reduceEqDiff, ↓reduceIte,g0,g6,g7,ev,AO A8 hi0,Af BG al]
  refine aA (b:=b) (o:=o+i0*3+2) Bu ((ga 2 _ rfl).same rfl rfl) ?_
  have h2:=h1.ext0 hb0 (Ext.rdN (F:=Any) (G:=Non) (s.rdN (b+(o+i0*3+2))) (b+(o+i0*3+2)) λ_=>trivial)
  obtain⟨sa,hsa⟩: ∃sa,sa=(s.rdN (b+(o+i0*3+2))).rdN (b+(o+i0*3+2)):=⟨_,rfl⟩
  rw[<-hsa]at h2 ⊢
  have ghi2:HiR sa ps[i0].v hs:=by rw[<-ehs];exact((hp.ext0 h2.x).hs _ (List.getElem_mem hi0))
  obtain⟨b',o',c',ev',ga',_⟩:=ghi2.at g16 hjl
  generalize hs[j]=hh at *
  have hACC':acc++(hh.1++(numB hh.2.1.toNat++numB hh.2.2.toNat)++Cg (hs.drop (j+1)))=ACC:=hACC
  obtain⟨aa,haa⟩: ∃a:Nat,hh.2.1=a:=⟨hh.2.1.toNat,(Int.toNat_of_nonneg ok1).symm⟩
  obtain⟨zz,hzz⟩: ∃a:Nat,hh.2.2=a:=⟨hh.2.2.toNat,(Int.toNat_of_nonneg J).symm⟩
  rw[haa,hzz,Int.toNat_natCast,Int.toNat_natCast]at hACC'
  have hlens:(acc.length+(16+((numB aa).length+(numB zz).length))+(Cg (hs.drop (j+1))).length)=ACC.length:=by
   rw[<-hACC']
   simp only[List.length_append,g16']
   omega
  simp only[SS,Nat.reduceEqDiff,reduceCtorEq, ↓reduceIte,Nat.reduceEqDiff, ↓reduceIte,g7,ev',AO CV hjl]
  refine aJ CH ga' (BN g16') λs1 m1 n1 x1=> ?_
  have h3:=h2.ext0 hb0 x1
  refine W.alloc GA λs2 n2 x2 o2=> ?_
  have n2':s2.next=s1.next+19:=n2
  have hA1:=h3.hAt
  refine W.store (b:=s1.next) (o:=0) CH (v:= .agg (Av hh).toArray) (BN g16') (EU _) (λi hi=>Aa.owned o2 i (by simpa using hi)) λs3 n3 x3 o3=> ?_
  rw[BV]at o3
  have n3':s3.next=s2.next:=n3
  have h4:RwI s0 s3 A v acc bk:=h3.ext (s':=s3) (F:=Any) (G:=In s1.next 0 18) hb0 ((x2.weak (h3.x.bnd hb0) (λ_ _ h=>h.elim) λ_ _ h=>h.elim).trans x3 (h3.x.bnd hb0) (λ_ _ _=>trivial) λ_ _ h=>h) λy hy=>by have:=hy.1;omega
  have r3:Aa s3 s1.next 0 (Av hh):=o3
  have hMk: ∀y,MkF 1 acc.length bk y->y<s1.next:=h3.ml.lt
  have keep: ∀{F:Nat->Prop} {s s':St} {acc:List Nat} {bk:Nat},((∀y,MkF 1 acc.length bk y->y<s1.next)\/s1.next+18<=bk)->Aa s s1.next 0 (Av hh)->Ext F (RwG A acc bk) s s'->Aa s' s1.next 0 (Av hh):=λhB r x=>r.ext x λi hi hg=>by
   rw[BN g16']at hi
   rcases hg with hg|hg
   ·omega
   ·rcases hB with hB|hB
    ·have:=hB _ hg;omega
    ·have:=hg.2.1;omega
  have get16: ∀{s:St},Aa s s1.next 0 (Av hh)->Own s s1.next (0+16) (.int .i64 (aa:Nat))/\Own s s1.next (0+17) (.int .i64 (zz:Nat)):=λr=>by
   obtain⟨e1,e2⟩:=DE g16'
   rw[haa]at e1
   rw[hzz]at e2
   exact⟨r 16 _ e1,r 17 _ e2⟩
  refine AlN_.u ?_
  simp only[Tr_,RR,SS,Nat.reduceEqDiff,reduceCtorEq, ↓reduceIte,Nat.reduceEqDiff, ↓reduceIte,g5,Af QZ al]
  have rid:Row s3 s1.next (0+0) (u8l hh.1):=λi u e=>by
   have hi16:i<16:=by
    have:=(List.getElem?_eq_some_iff.1 e).1
    rw[AQ,g16']at this
    exact this
   have:(Av hh)[i]?=some u:=by
    unfold Av
    rw[List.getElem?_append_left (by rw[AQ,g16'];exact hi16)]
    exact e
   exact(r3 i u this).at'
  refine aJ (b:=s1.next) (o:=0+0) EM rid (by rw[AQ,g16']) λs4 m4 n4 x4=> ?_
  have h5:=h4.ext0 hb0 x4
  have r4:Aa s4 s1.next 0 (Av hh):=r3.ext0 x4
  have n4':s4.next=s3.next:=n4
  refine AeD_ hb0 h5 g16' J J λu s5 v5 bk5 h6 hbk5 x5=> ?_
  have r5:=keep (.inl hMk) r4 x5
  have n45:s4.next<=s5.next:=x5.nxt
  refine AmB_.u ?_
  simp only[LY_,RR,SS,Nat.reduceEqDiff,reduceCtorEq, ↓reduceIte,Nat.reduceEqDiff, ↓reduceIte,g5,Af Jc al]
  refine aA (b:=s1.next) (o:=0+16) Ap (get16 r5).1.at' ?_
  have x6:Ext Any Non s5 (s5.rdN (s1.next+(0+16))):=Ext.rdN (F:=Any) (G:=Non) s5 _ λ_=>trivial
  have h7:=h6.ext0 hb0 x6
  have r6:Aa (s5.rdN (s1.next+(0+16))) s1.next 0 (Av hh):=r5.ext0 x6
  have n6:(s5.rdN (s1.next+(0+16))).next=s5.next:=rfl
  refine G8 hb0 h7 J (by rw[List.length_append];omega) J λu7 s7 v7 bk7 h8 hbk7 x7=> ?_
  have r7:=keep (.inr J) r6 x7
  have n57:s5.next<=s7.next:=x7.nxt
  refine ZP_.u ?_
  simp only[VG_,RR,SS,Nat.reduceEqDiff,reduceCtorEq, ↓reduceIte,Nat.reduceEqDiff, ↓reduceIte,g5,Af Ld al]
  refine aA (b:=s1.next) (o:=0+17) Ap (get16 r7).2.at' ?_
  have h9:=h8.ext0 hb0 (Ext.rdN (F:=Any) (G:=Non) s7 (s1.next+(0+17)) λ_=>trivial)
  refine G8 hb0 h9 J (by rw[List.length_append,List.length_append];omega) J λu9 s9 v9 bk9 h10 hbk9 x9=> ?_
  refine Xt_.u ?_
  have ei:=eiW (i:=j) J
  simp only[QO_,RR,SS,Nat.reduceEqDiff,reduceCtorEq, ↓reduceIte,Ad,Ah,Ab,Ae,Ak,An,Al,Ag,Nat.reduceEqDiff, ↓reduceIte,g7,ei]
  refine ih (j+1) _ _ v9 bk9 _ s9 _ J J Afd_ h10 ?_ (by simp[T.get_set,g0,ev]) (an g5) (an g6) Y λn1 v1 bk1 tm1 s1 td1 a1=>q n1 v1 bk1 tm1 s1 td1 J
  rw[<-hACC']
  simp only[List.append_assoc]
theorem Aqt_ {vp:Value}{ps:List PkI}{ACC:List Nat}(hb0:s0.lim<=s0.next)(hp:PkR s0 vp ps)(ok: ∀p∈ps,okP p.key)(hz:ACC.length<=900000)(hl:ps.length<=1000000):
  ∀(k i n:Nat) (acc:List Nat) (v:Value) (bk:Nat) (tm:T Value) (s:St) (td:List Item),i+k=ps.length->1300000*k+2000<=n->skim 64 td=Lz->RwI s0 s A v acc bk->acc++DC ((ps.drop i).map PkI.key)=ACC->
  T.get tm 0=some vp->T.get tm 5=some (.pointer (some ⟨A,0,none⟩))->T.get tm 6=some (.int .i64 (i:Nat))->
  (∀(n1:Nat) (v1:Value) (bk1:Nat) (tm1:T Value) (s1:St) (td1:List Item),n-(1300000*k+10)<=n1->skim 64 td1=R4->RwI s0 s1 A v1 ACC bk1->T.get tm1 5=some (.pointer (some ⟨A,0,none⟩))->W (runF envS n1 ⟨38,JI,BK,tm1,td1, .run, .normal,none⟩) s1 Q)->
  W (runF envS n ⟨38,JI,BK,tm,td, .run, .normal,none⟩) s Q:=by
 intro k
 induction k with
 |zero=>
  intro i n acc v bk tm s td hi hn hT' h hACC g0 g5 g6 q
  refine DU_.u ?_ hT'
  simp only[Pk,RR,SS,Nat.reduceEqDiff,reduceCtorEq, ↓reduceIte,g0,g6]
  rw[hp.len]
  simp only[SS,Nat.reduceEqDiff,reduceCtorEq, ↓reduceIte,Ad,Ah,Ab,Ae,Ak,An,Al,Ag]
  refine aE Td_ ?_
  rw[List.drop_of_length_le J]at hACC
  have e:acc=ACC:=by rw[<-hACC];exact(List.append_nil acc).symm
  subst e
  exact q _ v bk _ s _ J rfl h (an g5)
 |succ k ih=>
  intro i n acc v bk tm s td hi hn hT' h hACC g0 g5 g6 q
  have hil:i<ps.length:=J
  have hd:ps.drop i=ps[i]::ps.drop (i+1):=(List.getElem_cons_drop ..).symm
  rw[hd]at hACC
  have at': ∀s,Ext Any Non s0 s-> ∃b o c,vp= .slice (some ⟨b,o,none⟩) ps.length c/\Row s b (o+i*3) (pkC ps[i])/\HiR s ps[i].v ps[i].hs:=λs hx=>by
   obtain⟨b,o,c,ev,ga,ghi,_⟩:=(hp.ext0 hx).at hil
   exact⟨b,o,c,ev,ga,ghi⟩
  have hm:=List.getElem_mem hil
  obtain⟨k1,k2,k3,k4,k5,k6⟩:=ok _ hm
  have hACC':acc++((numB ps[i].num.toNat++(numB ps[i].size.toNat++(numB ps[i].hs.length++Cg ps[i].hs)))++DC ((ps.drop (i+1)).map PkI.key))=ACC:=hACC
  have q1:1<=ps[i].num:=k1
  have q2:ps[i].num<=999999:=k2
  have q3:0<=ps[i].size:=k3
  have q4:ps[i].size<=65536:=k4
  have q5:ps[i].hs.length<=20000:=k5
  obtain⟨aa,ha⟩: ∃a:Nat,ps[i].num=a:=⟨ps[i].num.toNat,(Int.toNat_of_nonneg J).symm⟩
  obtain⟨zz,hzz⟩: ∃a:Nat,ps[i].size=a:=⟨ps[i].size.toNat,(Int.toNat_of_nonneg q3).symm⟩
  rw[ha,hzz,Int.toNat_natCast,Int.toNat_natCast]at hACC'
  have hlens:acc.length+((numB aa).length+((numB zz).length+((numB ps[i].hs.length).length+(Cg ps[i].hs).length)))+(DC ((ps.drop (i+1)).map PkI.key)).length=ACC.length:=by
   rw[<-hACC']
   simp only[List.length_append]
   omega
  refine DU_.u ?_ hT'
  simp only[Pk,RR,SS,Nat.reduceEqDiff,reduceCtorEq, ↓reduceIte,g0,g6]
  rw[hp.len]
  simp only[SS,Nat.reduceEqDiff,reduceCtorEq, ↓reduceIte,Ad,Ah,Ab,Ae,Ak,An,Al,Ag]
  refine aH Td_ ?_
  obtain⟨b,o,c,ev,ga,_⟩:=at' s h.x
  refine Adu_.u ?_
  simp only[Xy,RR,SS,Nat.reduceEqDiff,reduceCtorEq, ↓reduceIte,Nat.reduceEqDiff, ↓reduceIte,g0,g5,g6,ev,AO A8 hil,Af Dm al]
  refine aA (b:=b) (o:=o+i*3+0) Ap (v:= .int .i64 (aa:Nat)) (by rw[<-ha];exact ga 0 _ rfl) ?_
  have h4:=h.ext0 hb0 (Ext.rdN (F:=Any) (G:=Non) s (b+(o+i*3+0)) λ_=>trivial)
  refine G8 hb0 h4 J J J λu5 s5 v5 bk5 h5 hbk5 x5=> ?_
  obtain⟨b2,o2,c2,ev2,ga2,_⟩:=at' s5 h5.x
  rw[ev]at ev2
  cases ev2
  refine AoN_.u ?_
  simp only[Dy_,RR,SS,Nat.reduceEqDiff,reduceCtorEq, ↓reduceIte,Nat.reduceEqDiff, ↓reduceIte,g0,g5,g6,ev,AO A8 hil,Af DB al]
  refine aA (b:=b) (o:=o+i*3+1) Ap (v:= .int .i64 (zz:Nat)) (by rw[<-hzz];exact ga2 1 _ rfl) ?_
  have h6:=h5.ext0 hb0 (Ext.rdN (F:=Any) (G:=Non) s5 (b+(o+i*3+1)) λ_=>trivial)
  refine G8 hb0 h6 J (by rw[List.length_append];omega) J λu7 s7 v7 bk7 h7 hbk7 x7=> ?_
  obtain⟨b3,o3,c3,ev3,ga3,ghi3⟩:=at' s7 h7.x
  rw[ev]at ev3
  cases ev3
  refine Ais_.u ?_
  simp only[Uc_,RR,SS,Nat.reduceEqDiff,reduceCtorEq, ↓reduceIte,Nat.reduceEqDiff, ↓reduceIte,g0,g5,g6,ev,AO A8 hil,Af BG al]
  refine aA (b:=b) (o:=o+i*3+2) Bu (ga3 2 _ rfl) ?_
  have h8:=h7.ext0 hb0 (Ext.rdN (F:=Any) (G:=Non) s7 (b+(o+i*3+2)) λ_=>trivial)
  rw[ghi3.len]
  refine G8 hb0 h8 J (by rw[List.length_append,List.length_append];omega) J λu9 s9 v9 bk9 h9 hbk9 x9=> ?_
  refine Avj_.u ?_
  simp only[HA_,RR,SS,Nat.reduceEqDiff,reduceCtorEq, ↓reduceIte]
  refine Avo_ (s0:=s0) (i0:=i) (hs:=ps[i].hs) (ACC:=acc++numB aa++numB zz++numB ps[i].hs.length++Cg ps[i].hs) hb0 hp hil rfl k6 (by simp only[List.length_append];omega) J ps[i].hs.length 0 _ _ v9 bk9 _ s9 _ (Nat.zero_add _) J rfl h9 (by rw[List.drop_zero]) (by simp[T.get_set,g0,ev]) (an g5) (an g6) Y λn1 v1 bk1 tm1 s1 td1 a1 hT1 hw1 f0 f5 f6=> ?_
  refine Auy_.u ?_ hT1
  have ei:=eiW (i:=i) J
  simp only[DG_,RR,SS,Nat.reduceEqDiff,reduceCtorEq, ↓reduceIte,Ad,Ah,Ab,Ae,Ak,An,Al,Ag,Nat.reduceEqDiff, ↓reduceIte,f6,ei]
  refine ih (i+1) _ _ v1 bk1 _ s1 _ J J AfL_ hw1 ?_ (an f0) (an f5) Y λn1 v1 bk1 tm1 s1 td1 a1=>q n1 v1 bk1 tm1 s1 td1 J
  rw[<-hACC']
  simp only[List.append_assoc]
end
section
variable {n:Nat}{s:St}{Q:Value->St->Prop}{vp:Value}{ps:List PkI}
theorem Ait_ (hb:s.lim<=s.next)(hp:PkR s vp ps)(hby: ∀p∈ps,∀h∈p.hs,Byt h.1)(hl:ps.length<=1000000)(ht:Ar ps<=10000000)(hn:800000000<=n)
  (q1:AY ps≠0-> ∀s1,Ext Any Non s s1->Q (.tuple #[.slice none 0 0, .int .i64 (AY ps)]) s1)
  (q2:AY ps=0-> ∀s1 w b,Ext Any Non s s1->EmB s1 (gput (Cs (ps.map PkI.key))) w b->(Cs (ps.map PkI.key)).length<=600000->s.next<=b->Q (.tuple #[w, .int .i64 0]) s1):
  W (Ac envS (runF envS n) 38 [vp]) s Q:=by
 have hb0:(s.cxN cxN).lim<=(s.cxN cxN).next:=hb
 have hp0:PkR (s.cxN cxN) vp ps:=hp.same rfl rfl
 refine AkD_ λtm g0=> ?_
 refine Aka_.u ?_
 simp only[MZ_,RR,SS,Nat.reduceEqDiff,reduceCtorEq, ↓reduceIte]
 refine Aoc_.u ?_
 simp only[Rh_,RR,SS,Nat.reduceEqDiff,reduceCtorEq, ↓reduceIte,Nat.reduceEqDiff, ↓reduceIte,g0]
 refine Rb hb0 hp0 J J J λs1 x1=> ?_
 have y1:Ext Any Non (s.cxN cxN) s1:=x1
 have hb1:=y1.bnd hb0
 refine AxP_.u ?_
 simp only[GN_,RR,SS,Nat.reduceEqDiff,reduceCtorEq, ↓reduceIte,Ad,Ah,Ab,Ae,Ak,An,Al,Ag,Nat.reduceEqDiff, ↓reduceIte]
 by_cases hc:AY ps=0
 ·refine aE VB_ ?_ rfl (an hc)
  obtain⟨c1,c2,c3,c4⟩:=Jl hc hp.h16
  have hkl:(ps.map PkI.key).length=ps.length:=List.length_map ..
  have hp1:=hp0.ext0 y1
  refine Aua_.u ?_
  simp only[Mk_,RR,SS,Nat.reduceEqDiff,reduceCtorEq, ↓reduceIte,Ci AnN_]
  refine W.box λs2 n2 x2 o2=> ?_
  have n2':s2.next=s1.next+3:=n2
  have o2':Aa s2 s1.next 0 [.slice none 0 0, .bool false]:=o2
  have h2:RwI s1 s2 s1.next (.slice none 0 0) [] s2.next:=⟨x2.any hb1,o2' 0 _ rfl, .inl ⟨rfl,rfl,rfl⟩,Nat.le_refl _,J,J,λx hx=>absurd hx.1 (Nat.lt_irrefl 0)⟩
  refine AnM_.u ?_
  simp only[AM_,RR,SS,Nat.reduceEqDiff,reduceCtorEq, ↓reduceIte,Nat.reduceEqDiff, ↓reduceIte,g0]
  rw[hp0.len]
  refine G8 hb1 h2 J am J λu3 s3 v3 bk3 h3 _ _=> ?_
  refine Afx_.u ?_
  simp only[T8,RR,SS,Nat.reduceEqDiff,reduceCtorEq, ↓reduceIte]
  rw[List.nil_append]at h3
  refine Aqt_ (vp:=vp) (ps:=ps) (ACC:=Cs (ps.map PkI.key)) hb1 hp1 c3 J J ps.length 0 _ _ v3 bk3 _ s3 _ (Nat.zero_add _) J rfl h3 (by unfold Cs;rw[List.drop_zero,hkl]) (an g0) Y Y λn4 v4 bk4 tm4 s4 td4 hn4 hT4 h4 g5=> ?_
  have hpos:0<(Cs (ps.map PkI.key)).length:=by
   unfold Cs
   rw[List.length_append,F4]
   have:=(Ed (ps.map PkI.key).length).1
   omega
  have hbyt:Byt (Cs (ps.map PkI.key)):=λx hx=>by
   unfold Cs at hx
   rcases List.mem_append.1 hx with hx|hx
   ·exact Gp _ x hx
   ·exact RW ps hby x hx
  have y4:Ext Any Non (s.cxN cxN) s4:=y1.then0 h4.x hb0
  refine AnZ_.u ?_ hT4
  simp only[Z3,RR,SS,Nat.reduceEqDiff,reduceCtorEq, ↓reduceIte,g5,Af Ir al]
  refine aA (b:=s1.next) (o:=0+0) BE h4.o.at' ?_
  have y5:=y4.thenRd hb0 (s1.next+(0+0))
  refine S4 (y5.bnd hb0) J ((h4.ml.same (s':=s4.rdN (s1.next+(0+0))) rfl rfl).bn1 hpos (by unfold capU;omega)) hbyt J λs6 w6 b6 hb6 x6 hw6=> ?_
  have y6:=y5.then0 x6 hb0
  refine aB (rs:=[2,3]) (vs:=[w6, .int .i64 0]) rfl (.inl AiW_) J No YF y6.cx Y ?_
  have hn5:s.next<=s4.next:=y4.nxt
  have hb6':s4.next<=b6:=hb6
  exact q2 hc _ w6 b6 y6.cx' (hw6.same rfl rfl) c4 J
 ·refine aH VB_ ?_ rfl (an hc)
  refine AwK_.u ?_
  simp only[SU,RR,SS,Nat.reduceEqDiff,reduceCtorEq, ↓reduceIte,Nat.reduceEqDiff, ↓reduceIte]
  refine aB (rs:=[2,3]) (vs:=[.slice none 0 0, .int .i64 (AY ps)]) rfl (.inl AbH_) J No YF y1.cx Y ?_
  exact q1 hc _ y1.cx'
end
def CZ:Nat:=Ao Try.f47
abbrev Nm:Nat:=27
def DL_:Code:=Try.f47.body.getD .skip
theorem M2:envS.fn.get 47=some Try.f47:=X
theorem Ws:G1 envS 47 27 CZ DL_:=λh=>
 aK M2 (h _ X)
theorem PC_:Try.f47.results.toList=[.tmp 2]:=X
def HX_:List Item:=skim 64 [.code DL_]
def PK_:=nx HX_
def Le:=nx PK_
def XD:=bt Le
def JE_:=bf Le
def Tc:=nx XD
def GC_:=nx JE_
def IY:=nx GC_
def PO:=nx IY
def Db_:=bt PO
def RA:=bf PO
def Qv_:=nx Db_
def MW_:=nx RA
def FW_:=nx Qv_
def Lh_:=nx FW_
theorem Ath_:skim 64 Lh_.tail=IY:=X
def RD:Rg:=λE u r t=>
 sV 2 (.string {data:= #[]}) t
theorem JG_:RegEq 47 27 CZ HX_ RD:={}
def KB:Rg:=λE u r t=>
 mG t 0 λv5=>
 bN E .lss 5 1 (some v5) λv6=>
 mv (some v6) λv7=>
 sK v7 false (pG t 0) λv8=>
 sK v7 false (oS (some v8) λa=>oS (some (.int .i64 999999)) λb=>Cl.get (aBin E .gtr 3 (.tmp 8) (.const (.int .i64 999999))) a b) λv9=>
 ae v7 (.bool true) v9 λv10=>
 ac 10 v10 t
theorem JJ_:RegEq 47 27 CZ PK_ KB:={}
theorem Zm:Aj Le=some 10:=X
def Su_:Rg:=λE u r t=>
 sV 2 (.string {data:= #[]}) t
theorem Ame_:RegEq 47 27 CZ XD Su_:={}
def Qs_:Rg:=λE u r t=>
 M.bind (A6 E 89) λv3=>
 ac 3 v3 t
theorem Atn_:RegEq 47 27 CZ JE_ Qs_:={}
theorem Aco_: ∃k,Tc= .code .ret::k:=⟨Tc.tail,X⟩
def TY:Rg:=λE u r t=>
 sV 11 (.int .i64 0) t
theorem YT_:RegEq 47 27 CZ GC_ TY:={}
def Ql:Rg:=λE u r t=>
 bN E .lss 11 6 (T.get t 11) λv12=>
 ac 12 v12 t
theorem FH_:RegEq 47 27 CZ IY Ql:={}
theorem Qt_:Aj PO=some 12:=X
def Bc_:Rg:=λE u r t=>
 mG t 11 λv13=>
 sV 4 v13 t
theorem YL_:RegEq 47 27 CZ Db_ Bc_:={}
def WF:Rg:=λE u r t=>
 M.bind (M.on (T.get t 3) λa=>M.on (some none) λb=>M.on (some none) λc=>Be E 89 a b c) λv24=>
 vB E 22 9 (some v24) λv25=>
 bM E .add 9 (.string {data:= #[112,97,99,107,47]}) 25 (some v25) λv26=>
 sV 2 v26 t
theorem YQ_:RegEq 47 27 CZ RA WF:={}
def UQ_:Rg:=λE u r t=>
 mG t 4 λv14=>
 bM E .sub 3 (.int .i64 5) 14 (some v14) λv15=>
 mG t 0 λv16=>
 bN E .rem 16 10 (some v16) λv17=>
 bM E .add 3 (.int .i64 48) 17 (some v17) λv18=>
 vB E 3 5 (some v18) λv19=>
 iD E 89 (T.get t 3) (some v15) λv20=>
 sT E 5 (some v20) (some v19) λ_=>
 M.pure t
theorem AkC_:RegEq 47 27 CZ Qv_ UQ_:={}
theorem AmV_: ∃k,MW_= .code .ret::k:=⟨MW_.tail,X⟩
def Pn_:Rg:=λE u r t=>
 mG t 0 λv21=>
 bN E .quo 21 10 (some v21) λv22=>
 sV 0 v22 t
theorem Asf_:RegEq 47 27 CZ FW_ Pn_:={}
def Pg_:Rg:=λE u r t=>
 bN E .add 11 1 (T.get t 11) λv23=>
 sV 11 v23 t
theorem AnT_:RegEq 47 27 CZ Lh_ Pg_:={}
def Ck:Nat:=Ao Try.f41
abbrev Ih:Nat:=47
def Er_:Code:=Try.f41.body.getD .skip
theorem Kx:envS.fn.get 41=some Try.f41:=X
theorem Acw_:G1 envS 41 47 Ck Er_:=λh=>
 aK Kx (h _ X)
theorem Pg:Try.f41.results.toList=[.tmp 2, .tmp 3]:=X
def NU_:List Item:=skim 64 [.code Er_]
def Sw_:=nx NU_
def TE:=nx Sw_
def IR:=nx TE
def Y7:=bt IR
def Ky_:=bf IR
def VM:=nx Y7
def OH_:=nx Ky_
def Jn:=nx OH_
def P6:=nx Jn
def NB_:=bt P6
def Ms:=bf P6
def Ns_:=nx NB_
def VY:=nx Ms
def JU:=nx Ns_
def Me:=bt JU
def Xg:=bf JU
def WG:=nx Me
def MX_:=nx Xg
theorem AeS_:skim 64 MX_.tail=Jn:=X
def OQ_:Rg:=λE u r t=>
 mv (some (.int .i64 0)) λv2=>
 setF 2 v2 t λt1=>
 sV 3 (.bool false) t1
theorem AqS_:RegEq 41 47 Ck NU_ OQ_:={}
def ZM:Rg:=λE u r t=>
 mG t 0 λv9=>
 cN u r 93 [(some v9),(some (.string {data:= #[112,97,99,107,47]}))] λv10=>
 mv (some v10) λv8=>
 eX 0 (some v8) λv11=>
 eX 1 (some v8) λv12=>
 mv (some v11) λv4=>
 setF 4 v4 t λt1=>
 sV 5 v12 t1
theorem AdP_:RegEq 41 47 Ck Sw_ ZM:={}
def Qz:Rg:=λE u r t=>
 mG t 5 λv13=>
 M.bind (oS (some v13) λa=>kUn E.P .not a) λv14=>
 mv (some v14) λv15=>
 sK v15 false (pG t 4) λv16=>
 sK v15 false (oS (seqO [(some v16)]) λl=>Bg E .len [9] l) λv17=>
 sK v15 false (oS (some v17) λa=>oS (some (.int .i64 6)) λb=>Cl.get (aBin E .neq 3 (.tmp 17) (.const (.int .i64 6))) a b) λv18=>
 ae v15 (.bool true) v18 λv19=>
 ac 19 v19 t
theorem Wt:RegEq 41 47 Ck TE Qz:={}
theorem UT:Aj IR=some 19:=X
def Yn:Rg:=λE u r t=>
 mv (some (.int .i64 0)) λv2=>
 setF 2 v2 t λt1=>
 sV 3 (.bool false) t1
theorem Abo_:RegEq 41 47 Ck Y7 Yn:={}
def Ow_:Rg:=λE u r t=>
 sV 6 (.int .i64 0) t
theorem AkB_:RegEq 41 47 Ck Ky_ Ow_:={}
theorem AtU_: ∃k,VM= .code .ret::k:=⟨VM.tail,X⟩
def AL_:Rg:=λE u r t=>
 mG t 4 λv20=>
 lL E 9 v20 λv21=>
 setF 21 v21 t λt1=>
 sV 22 (.int .i64 0) t1
theorem Acg_:RegEq 41 47 Ck OH_ AL_:={}
def MC:Rg:=λE u r t=>
 bI E .lss 3 (.tmp 22) (.tmp 21) (T.get t 22) (T.get t 21) λv23=>
 ac 23 v23 t
theorem Nh_:RegEq 41 47 Ck Jn MC:={}
theorem Gx_:Aj P6=some 23:=X
def LT_:Rg:=λE u r t=>
 mG t 22 λv24=>
 sV 7 v24 t
theorem Ajs_:RegEq 41 47 Ck NB_ LT_:={}
def TF:Rg:=λE u r t=>
 mG t 6 λv44=>
 mG t 6 λv45=>
 bN E .gtr 45 0 (some v45) λv46=>
 mv (some v44) λv2=>
 setF 2 v2 t λt1=>
 sV 3 v46 t1
theorem Axq_:RegEq 41 47 Ck Ms TF:={}
def MI:Rg:=λE u r t=>
 mG t 4 λv25=>
 mG t 7 λv26=>
 M.bind (oS (some v25) λa=>oS (some v26) λb=>kIdx E 9 a b) λv27=>
 bC E .lss 5 27 (.int .u8 48) (some v27) λv28=>
 mv (some v28) λv29=>
 sK v29 false (pG t 4) λv30=>
 sK v29 false (pG t 7) λv31=>
 sK v29 false (oS (some v30) λa=>oS (some v31) λb=>kIdx E 9 a b) λv32=>
 sK v29 false (oS (some v32) λa=>oS (some (.int .u8 57)) λb=>Cl.get (aBin E .gtr 5 (.tmp 32) (.const (.int .u8 57))) a b) λv33=>
 ae v29 (.bool true) v33 λv34=>
 ac 34 v34 t
theorem Aeo_:RegEq 41 47 Ck Ns_ MI:={}
theorem Agc_: ∃k,VY= .code .ret::k:=⟨VY.tail,X⟩
theorem Av_:Aj JU=some 34:=X
def Ul:Rg:=λE u r t=>
 mv (some (.int .i64 0)) λv2=>
 setF 2 v2 t λt1=>
 sV 3 (.bool false) t1
theorem AwP_:RegEq 41 47 Ck Me Ul:={}
def Lr_:Rg:=λE u r t=>
 mG t 6 λv35=>
 bM E .mul 3 (.int .i64 10) 35 (some v35) λv36=>
 mG t 4 λv37=>
 mG t 7 λv38=>
 M.bind (oS (some v37) λa=>oS (some v38) λb=>kIdx E 9 a b) λv39=>
 bC E .sub 5 39 (.int .u8 48) (some v39) λv40=>
 vB E 5 3 (some v40) λv41=>
 bT E .add 3 36 41 v36 v41 λv42=>
 sV 6 v42 t
theorem AtD_:RegEq 41 47 Ck Xg Lr_:={}
theorem AgI_: ∃k,WG= .code .ret::k:=⟨WG.tail,X⟩
def Xr:Rg:=λE u r t=>
 bN E .add 22 1 (T.get t 22) λv43=>
 sV 22 v43 t
theorem ArZ_:RegEq 41 47 Ck MX_ Xr:={}
def Pc:Nat:=Ao Try.f93
def EJ_:Code:=Try.f93.body.getD .skip
theorem Od:envS.fn.get 93=some Try.f93:=X
theorem AmM_:G2 envS 93 11 Pc EJ_:=λh=>
 aK Od (h _ X X)
theorem Vy_:Try.f93.results.toList=[.tmp 4, .tmp 5]:=X
def SW_:List Item:=skim 64 [.code EJ_]
def PR_:=nx SW_
def XA:=nx PR_
def RT_:Rg:=λE u r t=>
 mv (some (.string {data:= #[]})) λv4=>
 setF 4 v4 t λt1=>
 sV 5 (.bool false) t1
theorem Aqn_:RegEq 93 11 Pc SW_ RT_:={}
def Zn:Rg:=λE u r t=>
 mG t 0 λv6=>
 mG t 1 λv7=>
 cN u r 125 [(some v6),(some v7)] λv8=>
 eX 0 (some v8) λv9=>
 eX 1 (some v8) λv10=>
 mv (some v9) λv4=>
 setF 4 v4 t λt1=>
 sV 5 v10 t1
theorem Anw_:RegEq 93 11 Pc PR_ Zn:={}
theorem RX_: ∃k,XA= .code .ret::k:=⟨XA.tail,X⟩
def Iu:Nat:=Ao Try.f125
def JZ_:Code:=Try.f125.body.getD .skip
theorem PS:envS.fn.get 125=some Try.f125:=X
theorem Aoh_:G2 envS 125 15 Iu JZ_:=λh=>
 aK PS (h _ X X)
theorem BR_:Try.f125.results.toList=[.tmp 4, .tmp 5]:=X
def CO_:List Item:=skim 64 [.code JZ_]
def Uy:=nx CO_
def NZ:=nx Uy
def Sn_:=bt NZ
def KP_:=bf NZ
def Tn_:=nx Sn_
def El_:=nx KP_
def W8:Rg:=λE u r t=>
 mv (some (.string {data:= #[]})) λv4=>
 setF 4 v4 t λt1=>
 sV 5 (.bool false) t1
theorem Awr_:RegEq 125 15 Iu CO_ W8:={}
def Oi_:Rg:=λE u r t=>
 mG t 0 λv6=>
 mG t 1 λv7=>
 cN u r 143 [(some v6),(some v7)] λv8=>
 M.bind (oS (some v8) λa=>kUn E.P .not a) λv9=>
 ac 9 v9 t
theorem Alj_:RegEq 125 15 Iu Uy Oi_:={}
theorem Lu_:Aj NZ=some 9:=X
def GR_:Rg:=λE u r t=>
 mG t 0 λv10=>
 mv (some v10) λv4=>
 setF 4 v4 t λt1=>
 sV 5 (.bool false) t1
theorem Ajp_:RegEq 125 15 Iu Sn_ GR_:={}
def Sa_:Rg:=λE u r t=>
 mG t 0 λv11=>
 mG t 1 λv12=>
 lL E 9 v12 λv13=>
 M.bind (M.on (some v11) λa=>M.on (onO (some v13) λv=>some (some v)) λb=>M.on (some none) λc=>Be E 9 a b c) λv14=>
 mv (some v14) λv4=>
 setF 4 v4 t λt1=>
 sV 5 (.bool true) t1
theorem AqT_:RegEq 125 15 Iu KP_ Sa_:={}
theorem Wu_: ∃k,Tn_= .code .ret::k:=⟨Tn_.tail,X⟩
theorem XN_: ∃k,El_= .code .ret::k:=⟨El_.tail,X⟩
def P9:Nat:=Ao Try.f143
def Pu_:Code:=Try.f143.body.getD .skip
theorem Pp:envS.fn.get 143=some Try.f143:=X
theorem Afl_:G2 envS 143 18 P9 Pu_:=λh=>
 aK Pp (h _ X X)
theorem QS_:Try.f143.results.toList=[.tmp 4]:=X
def Jk_:List Item:=skim 64 [.code Pu_]
def S7:=nx Jk_
def SA_:=nx S7
def Vj:Rg:=λE u r t=>
 sV 4 (.bool false) t
theorem Aba_:RegEq 143 18 P9 Jk_ Vj:={}
def Mt:Rg:=λE u r t=>
 mG t 0 λv5=>
 lL E 9 v5 λv6=>
 mG t 1 λv7=>
 lL E 9 v7 λv8=>
 bT E .geq 3 6 8 v6 v8 λv9=>
 mv (some v9) λv10=>
 sK v10 true (pG t 0) λv11=>
 sK v10 true (pG t 1) λv12=>
 sK v10 true (oS (seqO [(some v12)]) λl=>Bg E .len [9] l) λv13=>
 sK v10 true (M.on (some v11) λa=>M.on (some none) λb=>M.on (onO (some v13) λv=>some (some v)) λc=>Be E 9 a b c) λv14=>
 sK v10 true (pG t 1) λv15=>
 sK v10 true (oS (some v14) λa=>oS (some v15) λb=>Cl.get (aBin E .eql 9 (.tmp 14) (.tmp 15)) a b) λv16=>
 ae v10 v16 (.bool false) λv17=>
 sV 4 v17 t
theorem AqE_:RegEq 143 18 P9 S7 Mt:={}
theorem Fc_: ∃k,SA_= .code .ret::k:=⟨SA_.tail,X⟩
theorem AtE_:tyS envS 5=some (1,false):=X
theorem AsE_:hasT envS 3=true:=X
theorem AkW_:intK envS 5=some .u8:=X
theorem TZ_:hasT envS 5=true:=X
theorem Vy:intK envS 3=some .i64:=X
theorem Xv (n:Nat)(h:n<9223372036854775808):IntKind.i64.wrap ((n:Nat):Int)=((n:Nat):Int):=by
 rw[<-Hp]
 exact AN J J
theorem MQ_:arrN envS 89=some (6,1):=X
theorem XD_:DZ envS 89=some (List.replicate 6 (.int .u8 0)):=X
theorem Ext.cxO {F G:Nat->Prop}{s s1:St}{c:Ctx}(x:Ext F G (s.cxN c) s1):Ext F G s (s1.cxN s.cx):=⟨x.nxt,x.lim,rfl,x.mem,x.rd,x.wr⟩
theorem CB:EE envS 9=true:=X
def hasP (a b:ByteArray):Bool:=decide (b.size<=a.size)&&((a.extract 0 b.size).data.toList==b.data.toList)
theorem DE_ (k:IntKind)(n d:Nat):bndV (some (.int k (n:Nat))) d=some n:=rfl
theorem Aiv_ {n:Nat}{s:St}{a b:ByteArray}{Q:Value->St->Prop}(hn:20<=n)(q:Q (.bool (hasP a b)) s):W (Ac envS (runF envS n) 143 [.string a, .string b]) s Q:=by
 refine Afl_ λtm h0 h1=> ?_
 refine Aba_.u ?_
 simp -implicitDefEqProofs only[Vj,RR,SS]
 refine AqE_.u ?_
 unfold hasP at q
 by_cases hle:b.size<=a.size
 ·rw[decide_eq_true hle,Bool.true_and]at q
  simp -implicitDefEqProofs only[Mt,RR,SS,Nat.reduceEqDiff,reduceCtorEq, ↓reduceIte,An,h0,h1,Fm CB]
  rw[decide_eq_true (show((b.size:Nat):Int)<=((a.size:Nat):Int) by omega)]
  simp -implicitDefEqProofs only[SS, ↓reduceIte,Fm CB]
  rw[GD_ CB (l:=0) (h:=b.size) rfl (DE_ _ _ _) (Nat.zero_le _) hle]
  simp -implicitDefEqProofs only[R5]
  exact aB (rs:=[4]) (vs:=[.bool ((a.extract 0 b.size).data.toList==b.data.toList)]) rfl (.inl Fc_) J Pp QS_ rfl Y q
 ·rw[decide_eq_false hle,Bool.false_and]at q
  simp -implicitDefEqProofs only[Mt,RR,SS,Nat.reduceEqDiff,reduceCtorEq, ↓reduceIte,An,h0,h1,Fm CB]
  rw[decide_eq_false (show ¬((b.size:Nat):Int)<=((a.size:Nat):Int) by omega)]
  simp -implicitDefEqProofs only[AJ,Dc,Cx,reduceCtorEq, ↓reduceIte]
  exact aB (rs:=[4]) (vs:=[.bool false]) rfl (.inl Fc_) J Pp QS_ rfl Y q
theorem Arf_ {n:Nat}{s:St}{a b:ByteArray}{Q:Value->St->Prop}(hn:40<=n)(q1:hasP a b=true->Q (.tuple #[.string (a.extract b.size a.size), .bool true]) s)(q2:hasP a b=false->Q (.tuple #[.string a, .bool false]) s):
  W (Ac envS (runF envS n) 125 [.string a, .string b]) s Q:=by
 refine Aoh_ λtm h0 h1=> ?_
 refine Awr_.u ?_
 simp -implicitDefEqProofs only[W8,RR,SS]
 refine Alj_.u ?_
 simp -implicitDefEqProofs only[Oi_,RR,SS,Nat.reduceEqDiff,reduceCtorEq, ↓reduceIte,h0,h1]
 refine Aiv_ J ?_
 simp -implicitDefEqProofs only[CI]
 cases hp:hasP a b with
 |true=>
  refine aE Lu_ ?_
  refine AqT_.u ?_
  have hle:b.size<=a.size:=by
   unfold hasP at hp
   rw[Bool.and_eq_true]at hp
   exact of_decide_eq_true hp.1
  simp -implicitDefEqProofs only[Sa_,RR,SS,Nat.reduceEqDiff,reduceCtorEq, ↓reduceIte,h0,h1,Fm CB]
  rw[GD_ CB (l:=b.size) (h:=a.size) (DE_ _ _ _) rfl hle (Nat.le_refl _)]
  exact aB (rs:=[4,5]) (vs:=[.string (a.extract b.size a.size), .bool true]) rfl (.inl XN_) J PS BR_ rfl Y (q1 hp)
 |false=>
  refine aH Lu_ ?_
  refine Ajp_.u ?_
  simp -implicitDefEqProofs only[GR_,RR,SS,reduceCtorEq, ↓reduceIte,h0]
  exact aB (rs:=[4,5]) (vs:=[.string a, .bool false]) rfl (.inl Wu_) J PS BR_ rfl Y (q2 hp)
theorem Ahj_ {n:Nat}{s:St}{a b:ByteArray}{Q:Value->St->Prop}(hn:60<=n)(q1:hasP a b=true->Q (.tuple #[.string (a.extract b.size a.size), .bool true]) s)(q2:hasP a b=false->Q (.tuple #[.string a, .bool false]) s):
  W (Ac envS (runF envS n) 93 [.string a, .string b]) s Q:=by
 refine AmM_ λtm h0 h1=> ?_
 refine Aqn_.u ?_
 simp -implicitDefEqProofs only[RT_,RR,SS]
 refine Anw_.u ?_
 simp -implicitDefEqProofs only[Zn,RR,SS,Nat.reduceEqDiff,reduceCtorEq, ↓reduceIte,h0,h1]
 refine Arf_ J (λhp=> ?_) λhp=> ?_
 ·rw[A3 (k:=0) rfl,A3 (k:=1) rfl]
  exact aB (rs:=[4,5]) (vs:=[.string (a.extract b.size a.size), .bool true]) rfl (.inl RX_) J Od Vy_ rfl Y (q1 hp)
 ·rw[A3 (k:=0) rfl,A3 (k:=1) rfl]
  exact aB (rs:=[4,5]) (vs:=[.string a, .bool false]) rfl (.inl RX_) J Od Vy_ rfl Y (q2 hp)
section
variable {E:Env}{s:St}{t:Nat}
theorem AdN_ (m n:Nat)(hn:1<=n)(hm:m<=9223372036854775807)(xo yo:Operand):Cl.get (aBin E .quo t xo yo) (.int .i64 (m:Nat)) (.int .i64 (n:Nat)) s= .some (.int .i64 (m/n:Nat)) s:=by
 show int3 quoK (AP E .quo t xo yo) (.int .i64 (.ofNat m)) (.int .i64 (.ofNat n)) s=_
 show Option.rec (motive:=λ_=>R Value) _ (λv=> .some v s) (quoK .i64 .i64 m n)=_
 have:quoK .i64 .i64 m n=some (.int .i64 (m/n:Nat)):=by
  unfold quoK BO
  rw[Nat.beq_refl,Nat.ble_eq_true_of_le hn]
  exact Hx (Nat.le_trans (Nat.div_le_self m n) hm)
 rw[this]
theorem AkA_ {m n:Nat}{xo yo:Operand}(hn:1<=n)(hm:m<=9223372036854775807)(Q:Value->St->Prop):W (Cl.get (aBin E .quo t xo yo) (.int .i64 (m:Nat)) (.int .i64 (n:Nat))) s Q=Q (.int .i64 (m/n:Nat)) s:=AD (AdN_ m n hn hm xo yo)
end
theorem QH:(10:Int)=((10:Nat):Int):=rfl
def LK:Nat->List Nat->Nat->Nat->List Nat
 |0,l,_,_=>l
 |k+1,l,m,i=>LK k (l.set (5-i) (48+m%10)) (m/10) (i+1)
theorem AiY_ (m:Nat):LK 6 [0,0,0,0,0,0] m 0=dig6 m:=by
 simp -implicitDefEqProofs only[LK,List.set,Nat.sub_zero,Nat.reduceSub,Nat.reduceAdd,dig6]
 simp -implicitDefEqProofs only[Nat.div_div_eq_div_mul,Nat.reduceMul]
theorem YX_ {b:Nat}{Q:Value×FrameMode->St->Prop}{s0:St}(hb0:s0.lim<=s0.next): ∀(k i m n:Nat) (l:List Nat) (tm:T Value) (s:St) (td:List Item),i+k=6->m<=999999->l.length=6->10*k+20<=n->skim 64 td=IY->Ext (In b 0 6) (In b 0 6) s0 s->Aa s b 0 (u8l l)->
  T.get tm 0=some (.int .i64 (m:Nat))->T.get tm 3=some (.pointer (some ⟨b,0,none⟩))->T.get tm 11=some (.int .i64 (i:Nat))->
  (∀n' tm' s1 td',n<=n'+10*k+5->skim 64 td'=RA->Ext (In b 0 6) (In b 0 6) s0 s1->Aa s1 b 0 (u8l (LK k l m i))->T.get tm' 3=some (.pointer (some ⟨b,0,none⟩))->W (runF envS n' ⟨47,Nm,CZ,tm',td', .run, .normal,none⟩) s1 Q)->
  W (runF envS n ⟨47,Nm,CZ,tm,td, .run, .normal,none⟩) s Q:=by
 intro k
 induction k with
 |zero=>
  intro i m n l tm s td hi hm hl hn hT hx ho h0 h3 h11 q
  refine FH_.u ?_ hT
  simp -implicitDefEqProofs only[Ql,RR,SS,h11]
  simp -implicitDefEqProofs only[Ab]
  refine aE Qt_ ?_
  exact q _ _ _ _ J rfl hx ho (an h3)
 |succ k ih=>
  intro i m n l tm s td hi hm hl hn hT hx ho h0 h3 h11 q
  refine FH_.u ?_ hT
  simp -implicitDefEqProofs only[Ql,RR,SS,h11]
  simp -implicitDefEqProofs only[Ab]
  refine aH Qt_ ?_
  refine YL_.u ?_
  simp -implicitDefEqProofs only[Bc_,RR,SS,Nat.reduceEqDiff, ↓reduceIte,h11]
  refine AkC_.u ?_
  have e5:wrap64 (5-((i:Nat):Int))=((5-i:Nat):Int):=by
   rw[AN J J];omega
  have e48:wrap64 (48+((m%10:Nat):Int))=((48+m%10:Nat):Int):=by
   rw[AN J J];omega
  have e8:IntKind.u8.wrap ((48+m%10:Nat):Int)=((48+m%10:Nat):Int):=by
   rw[wrap_u8];omega
  simp -implicitDefEqProofs only[UQ_,RR,SS,Nat.reduceEqDiff,reduceCtorEq, ↓reduceIte,Ah,h0,h3,e5]
  rw[QH,IT al]
  simp -implicitDefEqProofs only[Ad,e48]
  rw[DA AsE_ AkW_,e8]
  rw[Kz MQ_ (show 5-i<6 by omega)]
  have ho5:Own s b (0+(5-i)*1) (u8 (l.getD (5-i) 0)):=by
   have:=ho (5-i) (u8 (l.getD (5-i) 0)) (by
    rw[List.getElem?_map,List.getD_eq_getElem?_getD,List.getElem?_eq_getElem (show 5-i<l.length by omega)];rfl)
   rw[show 0+(5-i)*1=0+(5-i) by omega]
   exact this
  refine aI AtE_ rfl ho5 λsa na xa oa=> ?_
  have sub: ∀x,In b (0+(5-i)*1) 1 x->In b 0 6 x:=λx h=>⟨by have:=h.1;omega,by
   have h2:x<b+(0+(5-i)*1)+1:=h.2
   omega⟩
  have hxa:Ext (In b 0 6) (In b 0 6) s0 sa:=hx.trans xa hb0 (λx _ h=>sub x h) λx _ h=>sub x h
  have hoa:Aa sa b 0 (u8l (l.set (5-i) (48+m%10))):=λj v e=>by
   rw[List.getElem?_map,List.getElem?_set]at e
   by_cases hj:5-i=j
   ·rw[if_pos hj,if_pos J]at e
    cases e
    rw[<-hj,show 0+(5-i)=0+(5-i)*1 by omega]
    exact oa
   ·rw[if_neg hj]at e
    have:=ho j v (by rw[List.getElem?_map];exact e)
    refine this.ext xa λh=> ?_
    have h1:b+(0+(5-i)*1)<=b+(0+j):=h.1
    have h2:b+(0+j)<b+(0+(5-i)*1)+1:=h.2
    omega
  refine Asf_.u ?_
  simp -implicitDefEqProofs only[Pn_,RR,SS,reduceCtorEq, ↓reduceIte,h0]
  rw[QH,AkA_ al J]
  refine AnT_.u ?_
  have e1:wrap64 (((i:Nat):Int)+1)=((i+1:Nat):Int):=by
   rw[AN J J];omega
  simp -implicitDefEqProofs only[Pg_,RR,SS,Nat.reduceEqDiff,reduceCtorEq, ↓reduceIte,Ad,h11,e1]
  refine ih (i+1) (m/10) _ _ _ sa _ J J (by rw[List.length_set];exact hl) J Ath_ hxa hoa Y (an h3) Y λn' tm' s1 td' hn' hT' hx' ho' h3'=> ?_
  exact q n' tm' s1 td' J hT' hx' ho' h3'
theorem TM:Lc envS 22=true:=X
def preB:ByteArray:={data:= #[112,97,99,107,47]}
def HP (n:Int):ByteArray:=if 1<=n/\n<=999999 then preB++txt (dig6 n.toNat)else{data:= #[]}
theorem AfW_ (n:Int):(HP n).data.toList=Cr n:=by
 unfold HP Cr
 by_cases h:1<=n/\n<=999999
 ·rw[if_pos h,if_pos h]
  rfl
 ·rw[if_neg h,if_neg h]
theorem Agq_ {n:Nat}{i:Int}{s:St}{Q:Value->St->Prop}(hi1: -9223372036854775808<=i)(hi2:i<=9223372036854775807)(hi: ¬(1<=i/\i<=999999))(hn:20<=n)(q:Q (.string {data:= #[]}) s):W (Ac envS (runF envS n) 47 [.int .i64 i]) s Q:=by
 refine Ws λtm h0=> ?_
 refine JG_.u ?_
 simp -implicitDefEqProofs only[RD,RR,SS]
 refine JJ_.u ?_
 have fin: ∀(n':Nat) (tm':T Value) (td':List Item),10<=n'->skim 64 td'=Le->T.get tm' 10=some (.bool true)->W (runF envS n' ⟨47,Nm,CZ,tm',td', .run, .normal,none⟩) (s.cxN cxN) λp s1=>Q p.1 (s1.cxN s.cx):=λn' tm' td' hn' hT h10=>by
  refine aH Zm ?_ hT h10
  refine Ame_.u ?_
  simp -implicitDefEqProofs only[Su_,RR,SS]
  exact aB (rs:=[2]) (vs:=[.string {data:= #[]}]) rfl (.inl Aco_) J M2 PC_ rfl Y q
 by_cases h1:i<1
 ·simp -implicitDefEqProofs only[KB,RR,SS,reduceCtorEq, ↓reduceIte,Ab,h0]
  rw[decide_eq_true h1]
  simp -implicitDefEqProofs only[AJ,CA,Cx, ↓reduceIte]
  exact fin _ _ _ J rfl Y
 ·simp -implicitDefEqProofs only[KB,RR,SS,reduceCtorEq, ↓reduceIte,Ab,h0]
  rw[decide_eq_false h1]
  simp -implicitDefEqProofs only[SS,reduceCtorEq, ↓reduceIte,Ae]
  rw[decide_eq_true (show(999999:Int)<i by omega)]
  exact fin _ _ _ J rfl Y
theorem Aar_ {n m:Nat}{s:St}{Q:Value->St->Prop}(hbd:s.lim<=s.next)(hm1:1<=m)(hm2:m<=999999)(hn:120<=n)(q: ∀s1,Ext Non Non s s1->Q (.string (preB++txt (dig6 m))) s1):W (Ac envS (runF envS n) 47 [.int .i64 (m:Nat)]) s Q:=by
 refine Ws λtm h0=> ?_
 refine JG_.u ?_
 simp -implicitDefEqProofs only[RD,RR,SS]
 refine JJ_.u ?_
 simp -implicitDefEqProofs only[KB,RR,SS,reduceCtorEq, ↓reduceIte,Ab,h0]
 rw[decide_eq_false (show ¬((m:Nat):Int)<1 by omega)]
 simp -implicitDefEqProofs only[SS,reduceCtorEq, ↓reduceIte,Ae]
 rw[decide_eq_false (show ¬(999999:Int)<((m:Nat):Int) by omega)]
 refine aE Zm ?_
 refine Atn_.u ?_
 simp -implicitDefEqProofs only[Qs_,RR,SS]
 refine W.alloc XD_ λsa na xa oa=> ?_
 have na':sa.next=s.next+7:=na
 have hxa:Ext Non Non (s.cxN cxN) sa:=xa
 refine YT_.u ?_
 simp -implicitDefEqProofs only[TY,RR,SS]
 have hba:sa.lim<=sa.next:=xa.bnd hbd
 refine YX_ (s0:=sa) (b:=s.next) hba 6 0 m _ [0,0,0,0,0,0] _ sa _ rfl hm2 rfl J rfl (Ext.refl sa) oa (an h0) (by simp[T.get_set];rfl) Y λn' tm' s1 td' hn' hT' hx' ho' h3'=> ?_
 rw[AiY_]at ho'
 have up: ∀x,In s.next 0 6 x->s.next<=x:=λx h=>by have:=h.1;omega
 have hx1:Ext Non Non (s.cxN cxN) s1:=hxa.step hx' hbd (λx hx h=>by
  have h2:x<s.lim:=hx
  have:=up x h
  omega) λx h=>up x h
 refine YQ_.u ?_ hT'
 simp -implicitDefEqProofs only[WF,RR,SS,h3']
 rw[Hm (lo:=none) (hi:=none) (l:=0) (h:=6) MQ_ (A0 al) rfl rfl (Nat.zero_le _) (Nat.le_refl _),if_neg al]
 have hB:Bs s1 (.slice (some ⟨s.next,0+0*1,none⟩) (6-0) (6-0)) (dig6 m):=Aa.bn ho' (A0 (by simp[dig6]))
 refine W.str hB (.inl (by simp[dig6])) TM CB λs2 m2 n2 x2=> ?_
 have hx2:Ext Non Non (s.cxN cxN) s2:=hx1.step x2 hbd (λx hx h=>by
  have h2:x<s.lim:=hx
  have h3:s.next+(0+0*1)<=x:=h.1
  omega) λ_ h=>h.elim
 rw[NL (by show 5+_<=_;simp[txt,ByteArray.size,dig6])]
 exact aB (rs:=[2]) (vs:=[.string (preB++txt (dig6 m))]) rfl (.inl AmV_) J M2 PC_ hx2.cx (by simp[T.get_set];rfl) (q _ hx2.cxO)
theorem Agb_ {n:Nat}{i:Int}{s:St}{Q:Value->St->Prop}(hbd:s.lim<=s.next)(hi1: -9223372036854775808<=i)(hi2:i<=9223372036854775807)(hn:120<=n)(q: ∀s1,Ext Non Non s s1->Q (.string (HP i)) s1):W (Ac envS (runF envS n) 47 [.int .i64 i]) s Q:=by
 by_cases hi:1<=i/\i<=999999
 ·unfold HP at q
  rw[if_pos hi]at q
  obtain⟨m,rfl⟩: ∃m:Nat,i=(m:Int):=⟨i.toNat,J⟩
  exact Aar_ hbd J J hn q
 ·unfold HP at q
  rw[if_neg hi]at q
  exact Agq_ hi1 hi2 hi J (q s (Ext.refl s))
section
variable {E:Env}{s:St}{t:Nat}
theorem cmpU {c:Nat->Nat->Bool}(slow:Value->Value->M Value)(m n:Nat):int3 (cmpK c) slow (.int .u8 (m:Nat)) (.int .u8 (n:Nat)) s= .some (.bool (c m n)) s:=by
 show Option.rec (motive:=λ_=>R Value) _ (λv=> .some v s) (cmpK c .u8 .u8 m n)=_
 have:cmpK c .u8 .u8 m n=some (.bool (c m n)):=by
  unfold cmpK BO
  rw[Nat.beq_refl]
  show mkB (c m n)=_
  cases c m n<;>rfl
 rw[this]
theorem NC_ {m n:Nat}{xo yo:Operand}(Q:Value->St->Prop):W (Cl.get (aBin E .lss t xo yo) (.int .u8 (m:Nat)) (.int .u8 (n:Nat))) s Q=Q (.bool (Nat.blt m n)) s:=AD (cmpU _ m n)
theorem AaQ_ {m n:Nat}{xo yo:Operand}(Q:Value->St->Prop):W (Cl.get (aBin E .gtr t xo yo) (.int .u8 (m:Nat)) (.int .u8 (n:Nat))) s Q=Q (.bool (Nat.blt n m)) s:=AD (cmpU _ m n)
theorem XV_ (m n:Nat)(hn:n<=m)(hm:m<=255)(xo yo:Operand):Cl.get (aBin E .sub t xo yo) (.int .u8 (m:Nat)) (.int .u8 (n:Nat)) s= .some (.int .u8 (m-n:Nat)) s:=by
 show int3 subK (AP E .sub t xo yo) (.int .u8 (.ofNat m)) (.int .u8 (.ofNat n)) s=_
 show Option.rec (motive:=λ_=>R Value) _ (λv=> .some v s) (subK .u8 .u8 m n)=_
 have:subK .u8 .u8 m n=some (.int .u8 (m-n:Nat)):=by
  unfold subK BO
  rw[Nat.beq_refl,Nat.ble_eq_true_of_le hn]
  show fitI .u8 (m-n)=_
  unfold fitI
  rw[Nat.ble_eq_true_of_le (show m-n<=mxOf .u8 from Nat.le_trans (Nat.sub_le _ _) hm)]
  show mkI .u8 (m-n)=_
  unfold mkI
  rw[AB]
  rfl
 rw[this]
theorem Alg_ {m n:Nat}{xo yo:Operand}(hn:n<=m)(hm:m<=255)(Q:Value->St->Prop):W (Cl.get (aBin E .sub t xo yo) (.int .u8 (m:Nat)) (.int .u8 (n:Nat))) s Q=Q (.int .u8 (m-n:Nat)) s:=AD (XV_ m n hn hm xo yo)
end
theorem RL:(48:Int)=((48:Nat):Int):=rfl
theorem Ajr_:(57:Int)=((57:Nat):Int):=rfl
theorem Aqg_ (a:Nat)(l:List UInt8)(c:UInt8):val6 a (l++[c])=10*val6 a l+(c.toNat-48):=by
 unfold val6
 rw[List.foldl_append]
 rfl
theorem Abq_ (l:List UInt8)(h:l.all BP=true):val6 0 l<10^l.length:=by
 have gen: ∀(l:List UInt8) (a k:Nat),l.all BP=true->a<10^k->val6 a l<10^(k+l.length):=by
  intro l
  induction l with
  |nil=>intro a k _ h;exact h
  |cons c l ih=>
   intro a k h ha
   rw[List.all_cons,Bool.and_eq_true]at h
   have hc:c.toNat<=57:=by
    have:=h.1
    simp -implicitDefEqProofs only[BP,Bool.and_eq_true,decide_eq_true_eq]at this
    exact this.2
   have:=ih (10*a+(c.toNat-48)) (k+1) h.2 (by rw[Nat.pow_succ];omega)
   rw[List.length_cons,show k+(l.length+1)=k+1+l.length by omega]
   exact this
 have:=gen l 0 0 h al
 rwa [Nat.zero_add]at this
theorem AxL_ {a:ByteArray}{d:List UInt8}(hd:a.data.toList=d)(h6:d.length=6){Q:Value×FrameMode->St->Prop}{s:St}(q1: ∀n' tm' td',10<=n'->skim 64 td'=Ms->d.all BP=true->T.get tm' 6=some (.int .i64 (val6 0 d:Nat))->W (runF envS n' ⟨41,Ih,Ck,tm',td', .run, .normal,none⟩) s Q)
  (q2: ∀n' tm' td',10<=n'->skim 64 td'=Me->d.all BP=false->W (runF envS n' ⟨41,Ih,Ck,tm',td', .run, .normal,none⟩) s Q): ∀(k i n:Nat) (tm:T Value) (td:List Item),i+k=6->(d.take i).all BP=true->10*k+30<=n->skim 64 td=Jn->
  T.get tm 4=some (.string a)->T.get tm 6=some (.int .i64 (val6 0 (d.take i):Nat))->T.get tm 21=some (.int .i64 6)->T.get tm 22=some (.int .i64 (i:Nat))->
  W (runF envS n ⟨41,Ih,Ck,tm,td, .run, .normal,none⟩) s Q:=by
 intro k
 induction k with
 |zero=>
  intro i n tm td hi hall hn hT h4 h6' h21 h22
  refine Nh_.u ?_ hT
  simp -implicitDefEqProofs only[MC,RR,SS,h21,h22]
  simp -implicitDefEqProofs only[Ab]
  refine aE Gx_ ?_
  have ht:d.take i=d:=List.take_of_length_le J
  rw[ht]at hall h6'
  exact q1 _ _ _ J rfl hall (an h6')
 |succ k ih=>
  intro i n tm td hi hall hn hT h4 h6' h21 h22
  have hid:i<d.length:=J
  refine Nh_.u ?_ hT
  simp -implicitDefEqProofs only[MC,RR,SS,h21,h22]
  simp -implicitDefEqProofs only[Ab]
  refine aH Gx_ ?_
  refine Ajs_.u ?_
  simp -implicitDefEqProofs only[LT_,RR,SS,Nat.reduceEqDiff, ↓reduceIte,h22]
  refine Aeo_.u ?_
  obtain⟨c,hc⟩: ∃c,d[i]=c:=⟨_,rfl⟩
  have hb:a.data.toList[i]?=some c:=by rw[hd,List.getElem?_eq_getElem hid,hc]
  have hsnoc:d.take (i+1)=d.take i++[c]:=by rw[List.take_add_one,List.getElem?_eq_getElem hid,hc];rfl
  have hvlt:val6 0 (d.take i)<1000000:=by
   have h1:=Abq_ (d.take i) hall
   have h2:10^(d.take i).length<=10^6:=Nat.pow_le_pow_right al (by rw[List.length_take];omega)
   omega
  have bad: ∀n' tm' td',20<=n'->skim 64 td'=JU->T.get tm' 34=some (.bool true)->BP c=false->W (runF envS n' ⟨41,Ih,Ck,tm',td', .run, .normal,none⟩) s Q:=λn' tm' td' hn' hT' h34 hbad=>by
   refine aH Av_ ?_ hT' h34
   refine q2 _ _ _ J rfl ?_
   rw[Bool.eq_false_iff]
   intro hq
   have:=List.all_eq_true.1 hq c (by rw[<-hc];exact List.getElem_mem hid)
   rw[hbad]at this
   cases this
  by_cases g1:c.toNat<48
  ·simp -implicitDefEqProofs only[MI,RR,SS,Nat.reduceEqDiff, ↓reduceIte,h4,IH CB hb]
   rw[RL,NC_,BT g1]
   simp -implicitDefEqProofs only[AJ,A4,CA,Dl,Cx,B9, ↓reduceIte]
   exact bad _ _ _ J rfl Y (by simp[BP];omega)
  ·simp -implicitDefEqProofs only[MI,RR,SS,Nat.reduceEqDiff, ↓reduceIte,h4,IH CB hb]
   rw[RL,NC_,Gn (Nat.le_of_not_lt g1)]
   simp -implicitDefEqProofs only[SS,reduceCtorEq, ↓reduceIte,IH CB hb]
   rw[Ajr_,AaQ_]
   by_cases g2:57<c.toNat
   ·rw[BT g2]
    exact bad _ _ _ J rfl Y (by simp[BP];omega)
   ·rw[Gn (Nat.le_of_not_lt g2)]
    refine aE Av_ ?_
    refine AtD_.u ?_
    simp -implicitDefEqProofs only[Lr_,RR,SS,Nat.reduceEqDiff, ↓reduceIte,h4,h6',IH CB hb]
    have e1:wrap64 (((10*val6 0 (d.take i):Nat):Int)+((c.toNat-48:Nat):Int))=((val6 0 (d.take (i+1)):Nat):Int):=by
     rw[AN J J,hsnoc,Aqg_];omega
    have hc255:c.toNat<=255:=J
    have e2:IntKind.i64.wrap ((c.toNat-48:Nat):Int)=((c.toNat-48:Nat):Int):=Xv _ J
    rw[QH,K8 J]
    rw[RL,Alg_ J hc255,DA TZ_ Vy,e2]
    simp -implicitDefEqProofs only[Ad,e1]
    refine ArZ_.u ?_
    have e3:wrap64 (((i:Nat):Int)+1)=((i+1:Nat):Int):=by
     rw[AN J J];omega
    simp -implicitDefEqProofs only[Xr,RR,SS,Nat.reduceEqDiff, ↓reduceIte,Ad,h22,e3]
    refine ih (i+1) _ _ _ J ?_ J AeS_ (an h4) Y (an h21) Y
    rw[hsnoc,List.all_append,hall]
    simp[BP]
    omega
theorem SI (a:ByteArray)(i j:Nat):(a.extract i j).data.toList=(a.data.toList.take j).drop i:=by
 rw[ByteArray.data_extract,Array.toList_extract]
 simp -implicitDefEqProofs only[List.extract,List.drop_take]
theorem Gj (a:ByteArray):a.size=a.data.toList.length:=rfl
theorem ApR_ (a:ByteArray):BZ a.data.toList=if hasP a preB=true/\(a.extract preB.size a.size).size=6/\(a.extract preB.size a.size).data.toList.all BP=true then(val6 0 (a.extract preB.size a.size).data.toList,decide (0<val6 0 (a.extract preB.size a.size).data.toList))else(0,false):=by
 have e1:(a.extract preB.size a.size).data.toList=a.data.toList.drop 5:=by
  rw[SI,Gj a,List.take_length];rfl
 have e2:(a.extract preB.size a.size).size=a.data.toList.length-5:=by
  rw[Gj,e1,List.length_drop]
 have e3:hasP a preB=true↔a.data.toList.take 5=preL:=by
  unfold hasP
  rw[Bool.and_eq_true,decide_eq_true_eq,beq_iff_eq,SI,List.drop_zero,Gj a]
  constructor
  ·exact λh=>h.2
  ·intro h
   refine⟨?_,h⟩
   have h2:=congrArg List.length h
   rw[List.length_take]at h2
   have h3:preL.length=5:=rfl
   show 5<=_
   omega
 unfold BZ
 rw[e1,e2]
 by_cases h:a.data.toList.take 5=preL/\a.data.toList.length=11/\(a.data.toList.drop 5).all BP=true
 ·rw[if_pos h,if_pos ⟨e3.2 h.1,J,h.2.2⟩]
 ·rw[if_neg h,if_neg (λq=>h ⟨e3.1 q.1,by have:=q.2.1;omega,q.2.2⟩)]
theorem AnQ_ {n:Nat}{a:ByteArray}{s:St}{Q:Value->St->Prop}(hn:200<=n)(q:Q (.tuple #[.int .i64 ((BZ a.data.toList).1:Nat), .bool (BZ a.data.toList).2]) s):W (Ac envS (runF envS n) 41 [.string a]) s Q:=by
 rw[ApR_]at q
 refine Acw_ λtm h0=> ?_
 refine AqS_.u ?_
 simp -implicitDefEqProofs only[OQ_,RR,SS]
 refine AdP_.u ?_
 simp -implicitDefEqProofs only[ZM,RR,SS,reduceCtorEq, ↓reduceIte,h0]
 have no:(¬(hasP a preB=true/\(a.extract preB.size a.size).size=6/\(a.extract preB.size a.size).data.toList.all BP=true))->Q (.tuple #[.int .i64 0, .bool false]) s:=λh=>by
  rw[if_neg h]at q
  exact q
 have fin4: ∀(n':Nat) (tm':T Value) (td':List Item),10<=n'->skim 64 td'=IR->T.get tm' 19=some (.bool true)->Q (.tuple #[.int .i64 0, .bool false]) s->W (runF envS n' ⟨41,Ih,Ck,tm',td', .run, .normal,none⟩) (s.cxN cxN) λp s1=>Q p.1 (s1.cxN s.cx):=λn' tm' td' hn' hT h19 q=>by
  refine aH UT ?_ hT h19
  refine Abo_.u ?_
  simp -implicitDefEqProofs only[Yn,RR,SS]
  exact aB (rs:=[2,3]) (vs:=[.int .i64 0, .bool false]) rfl (.inl AtU_) J Kx Pg rfl Y q
 refine Ahj_ (b:=preB) J (λhp=> ?_) λhp=> ?_
 ·rw[A3 (k:=0) rfl,A3 (k:=1) rfl]
  refine Wt.u ?_
  generalize hx:a.extract preB.size a.size=x at *
  simp -implicitDefEqProofs only[Qz,RR,SS,Nat.reduceEqDiff,reduceCtorEq, ↓reduceIte,CI,Bool.not_true,Fm CB]
  rw[show(6:Int)=((6:Nat):Int)from rfl]
  simp -implicitDefEqProofs only[Ag]
  by_cases h6:x.size=6
  ·rw[h6]
   simp -implicitDefEqProofs only[decide_true,Bool.not_true]
   refine aE UT ?_
   refine AkB_.u ?_
   simp -implicitDefEqProofs only[Ow_,RR,SS]
   refine Acg_.u ?_
   simp -implicitDefEqProofs only[AL_,RR,SS,Nat.reduceEqDiff, ↓reduceIte,Fm CB,h6]
   refine AxL_ (a:=x) rfl h6 (λn' tm' td' hn' hT' hall h6'=> ?_) (λn' tm' td' hn' hT' hall=> ?_) 6 0 _ _ _ rfl rfl J rfl Y (by simp[T.get_set];rfl) Y Y
   ·refine Axq_.u ?_ hT'
    simp -implicitDefEqProofs only[TF,RR,SS,Ae,h6']
    rw[if_pos ⟨hp,h6,hall⟩]at q
    refine aB (rs:=[2,3]) (vs:=[.int .i64 (val6 0 x.data.toList:Nat), .bool (decide (0<val6 0 x.data.toList))]) rfl (.inl Agc_) J Kx Pg rfl ?_ q
    simp[T.get_set]
   ·refine AwP_.u ?_ hT'
    simp -implicitDefEqProofs only[Ul,RR,SS]
    refine aB (rs:=[2,3]) (vs:=[.int .i64 0, .bool false]) rfl (.inl AgI_) J Kx Pg rfl Y (no λh=> ?_)
    rw[hall]at h
    cases h.2.2
  ·rw[decide_eq_false (show ¬((x.size:Nat):Int)=((6:Nat):Int) by omega)]
   simp -implicitDefEqProofs only[Bool.not_false]
   exact fin4 _ _ _ J rfl Y (no λh=>h6 h.2.1)
 ·rw[A3 (k:=0) rfl,A3 (k:=1) rfl]
  refine Wt.u ?_
  simp -implicitDefEqProofs only[Qz,RR,SS,Nat.reduceEqDiff, ↓reduceIte,CI,Bool.not_false]
  exact fin4 _ _ _ J rfl Y (no λh=>by rw[hp]at h;cases h.1)
