import Derived.Test.YtheboekhpelhlaaDSb31
namespace Go.Proofs.Ytheboekhpelhlaa.Am
open Go.RowKit
theorem Aed_ (k:Nat)(s:St):Cl.get (aBin envS .eql 29 (.tmp k) (.const (.pointer none))) (.pointer none) (.pointer none) s= .some (.bool true) s:=X
theorem Aac_ (k:Nat)(s:St):Cl.get (aBin envS .eql 25 (.tmp k) (.const (.pointer none))) (.pointer none) (.pointer none) s= .some (.bool true) s:=X
theorem Xk_ (k:Nat)(s:St)(Q:Value->St->Prop):W (Cl.get (aBin envS .eql 29 (.tmp k) (.const (.pointer none))) (.pointer none) (.pointer none)) s Q=Q (.bool true) s:=As (Aed_ k s)
theorem AjO_ (k:Nat)(s:St)(Q:Value->St->Prop):W (Cl.get (aBin envS .eql 25 (.tmp k) (.const (.pointer none))) (.pointer none) (.pointer none)) s Q=Q (.bool true) s:=As (Aac_ k s)
theorem Apz_:ptrT envS 29=true:=X
theorem WP_:ptrT envS 25=true:=X
section
variable {n:Nat}{s:St}{v:Value}{l:List ActV}{p:ByteArray}{room:Int}
theorem Ajo_ (hb:s.lim<=s.next)(hA:AlI s v l)(hl:l.length<=1048576)(hn:100000<=n):W (Ac envS (runF envS n) 3 [.int .i64 room,v, .string p]) s λu _=>u= .bool true:=by
 have hb0:(s.cxN cxN).lim<=(s.cxN cxN).next:=hb
 have hA0:AlI (s.cxN cxN) v l:=hA.same rfl rfl
 refine AfC_ λtm t0 t1 t2=> ?_
 refine AlY_.u ?_
 simp only[WQ,RR,SS]
 have finA: ∀(n':Nat) (tm':T Value) (td':List Item) (s':St),90000<=n'->skim 64 td'=Lb->s'.cx=cxN->T.get tm' 26=some (.bool true)->W (runF envS n' ⟨3,IZ,Bo,tm',td', .run, .normal,none⟩) s' λq s1=>(λu _=>u= .bool true) q.1 (s1.cxN s.cx):=by
  intro n' tm' td' s' hn' hT' hc' g
  refine aJ Xq ?_ hT' g
  refine Xw_.u ?_
  simp only[Hp_,RR,SS]
  refine W.orc Si (W.pure ?_)
  exact aB (rs:=[6]) (vs:=[.bool true]) rfl (.inl Tz_) J J9 O4 hc' Y rfl
 refine Adt_.u ?_
 simp only[Ll_,RR,SS,Nat.reduceEqDiff,reduceCtorEq, ↓reduceIte,t1]
 refine WD_ hb0 hA0 hl J λs1 lg x1 hS=> ?_
 cases lg with
 |true=>
  simp only[AI,Bk,Ky,Fy,EP,Df, ↓reduceIte]
  exact finA _ _ _ _ J rfl x1.cx Y
 |false=>
 simp only[SS,reduceCtorEq, ↓reduceIte,Ck,t0,t2,CA A8]
 cases hp:decide ((100:Int)<((p.size:Nat):Int))with
 |true=>
  simp only[AI,Ky,EP, ↓reduceIte]
  exact finA _ _ _ _ J rfl x1.cx Y
 |false=>
 simp only[SS,reduceCtorEq, ↓reduceIte,Ck]
 cases hr:decide ((5000:Int)<room)with
 |true=>
  exact finA _ _ _ _ J rfl x1.cx Y
 |false=>
 have hr':room<=5000:=by have:=of_decide_eq_false hr;omega
 refine aG Xq ?_
 refine AjV_.u ?_
 simp only[FI_,RR,SS,reduceCtorEq, ↓reduceIte,t0]
 by_cases hneg:room<0
 ·refine Acr_ (x1.bnd hb0) (.inl hneg) J λs2 x2=> ?_
  have y2:=x1.on x2 hb0 λ_ _ h=>h
  rw[BL (k:=0) rfl]
  rw[BL (k:=1) rfl]
  refine S6.u ?_
  simp only[Ql,RR,SS,reduceCtorEq, ↓reduceIte,t0]
  refine Aik_ (.inl hneg) J λs3 x3=> ?_
  have y3:=y2.on x3 hb0 λ_ _ h=>h
  rw[BL (k:=0) rfl]
  rw[BL (k:=1) rfl]
  refine We.u ?_
  simp only[Qs,RR,SS,Nat.reduceEqDiff, ↓reduceIte,Eh]
  refine aG SZ ?_
  refine CY_.u ?_
  simp only[Oi,RR,SS,Nat.reduceEqDiff, ↓reduceIte,Xk_]
  refine aJ ME_ ?_
  refine UR_.u ?_
  simp only[Qm_,RR,SS,Nat.reduceEqDiff, ↓reduceIte,AjO_]
  refine W.orc Si (W.pure ?_)
  exact aB (rs:=[6]) (vs:=[.bool true]) rfl (.inl Aec_) J J9 O4 y3.cx Y rfl
 ·obtain⟨rm,rfl⟩: ∃rm:Nat,room=(rm:Nat):=⟨room.toNat,J⟩
  refine AqT_ (x1.bnd hb0) J J λs2 x2 hD2=> ?_
  have y2:=x1.on x2 hb0 λ_ _ h=>h
  rw[BL (k:=0) rfl]
  rw[BL (k:=1) rfl]
  refine S6.u ?_
  simp only[Ql,RR,SS,reduceCtorEq, ↓reduceIte,t0]
  refine AnB_ (y2.bnd hb0) J J J λs3 x3 hR3 n3=> ?_
  have y3:=y2.on x3 hb0 λ_ _ h=>h
  rw[BL (k:=0) rfl]
  rw[BL (k:=1) rfl]
  refine We.u ?_
  simp only[Qs,RR,SS,Nat.reduceEqDiff, ↓reduceIte,Eh]
  refine aG SZ ?_
  refine CY_.u ?_
  simp only[Oi,RR,SS,Nat.reduceEqDiff, ↓reduceIte,C5 Apz_]
  refine aG ME_ ?_
  refine SK_.u ?_
  simp only[Rv_,RR,SS,Nat.reduceEqDiff, ↓reduceIte,C5 WP_]
  refine aG AaG_ ?_
  refine AcR_.u ?_
  simp only[Wn,RR,SS]
  have h01:(s.cxN cxN).next<=s1.next:=x1.nxt
  have h12:s1.next<=s2.next:=x2.nxt
  refine VN_ (s0:=s.cxN cxN) (D:=s1.next+1) (M:=s1.next) (R:=s2.next) (p:=p) hb0 hA0 (hS rfl) rfl (λ_=>rfl) l.length 0 _ _ _ _ (paint (newC s1.next) s2.next 1000) ⟨[],0,(rm:Nat),0,false,0,false⟩ ⟨[], .slice none 0 0,0,(rm:Nat),0,false,0,false⟩ J (by have:=(hS rfl).len;omega) rfl ⟨y3,(hD2.col λy hy=>AX hy).ext0 x3 (Nat.zero_le _),hR3,⟨Rl.nil,rfl,rfl,rfl,rfl,rfl⟩,⟨Nat.zero_le _,λf hf=>(by cases hf)⟩,λy hy=> ?_,λy hy=> ?_⟩ (an t1) (an t2) Y Y Y
  ·rw[AX J]
   unfold newC
   rw[if_pos J]
   exact Nat.le_refl _
  ·rcases hy with h|h|⟨f,hf,_⟩
   ·have h1:s2.next+0<=y:=h.1
    exact⟨J,by rw[C2 J];exact Nat.le_refl _⟩
   ·exact(IU_ h).elim
   ·cases hf
end
open Go.RowKit Go.ChangeShapes Go.WideShapes
theorem Ape_ {H:Type}(d:DataW H):1<=Rows.uptoBulk d:=by
 unfold Rows.uptoBulk
 split<;>omega
theorem JE_ {H:Type}: ∀l:List (DataW H),l.length<=Rows.uptoBulkAll l
 |[]=>Nat.zero_le _
 |d::l=>by
  unfold Rows.uptoBulkAll
  have:=Ape_ d
  have:=JE_ l
  rw[List.length_cons]
  omega
mutual
theorem AqR_ {H:Type}{N:Nat}: ∀d:DataW H,Rows.uptoBulk d<=N->lensOk N d
 | .lit (.string l),h=>by
  unfold Rows.uptoBulk at h
  unfold lensOk
  omega
 | .lit (.bool _),_=>by unfold lensOk;trivial
 | .lit (.int _ _),_=>by unfold lensOk;trivial
 | .lit (.float _ _),_=>by unfold lensOk;trivial
 | .lit .nil,_=>by unfold lensOk;trivial
 | .nil,_=>by unfold lensOk;trivial
 | .ptr _,_=>by unfold lensOk;trivial
 | .slice es sp,h=>by
  unfold Rows.uptoBulk at h
  have:=JE_ es
  unfold lensOk
  exact⟨J,K3 es J⟩
 | .agg ps,h=>by
  unfold Rows.uptoBulk at h
  unfold lensOk
  exact K3 ps J
 | .iface _ _,_=>by unfold lensOk;trivial
 | .map _,_=>by unfold lensOk;trivial
 | .held _,_=>by unfold lensOk;trivial
theorem K3 {H:Type}{N:Nat}: ∀l:List (DataW H),Rows.uptoBulkAll l<=N->F4 N l
 |[],_=>by unfold F4;trivial
 |d::l,h=>by
  unfold Rows.uptoBulkAll at h
  unfold F4
  exact⟨AqR_ d J,K3 l J⟩
end
theorem lens_small {H:Type}{ds:List (DataW H)}(h:Rows.uptoSmall H ds=true): ∀d∈ds,lensOk 1048576 d:=
 H5 (K3 ds (of_decide_eq_true h))
theorem Aak_:envS.P=Try.prog:=X
theorem TG_:Try.prog.underlying 32=some (.slice 5):=X
theorem AkN_:Try.prog.underlying 5=some (.int .u8):=X
theorem Lc:Try.prog.underlying 3=some (.int .i64):=X
theorem YO_:Try.prog.cellsOf 5=1:=X
theorem Xt_ {P:Program}{N F:Nat}{s:St}{t e:TypeId}{us:List Value}(ht:P.underlying t=some (.slice e))(he:P.underlying e=some (.int .u8))(hc:P.cellsOf e=1)(h:Ax P N s (F+2) t us): ∃v l,us=[v]/\Bs s v l/\Byt l/\l.length<=N:=by
 obtain⟨v,es,rfl,hE,_,hN,ha⟩:=Ax.slice ht (by rw[hc];decide) h
 have h1: ∀i,i<es.length-> ∃n:Nat,n<256/\es[i]?=some [.int .u8 (n:Nat)]:=λi hi=>by
  obtain⟨_,hx⟩:=ha _ (List.getElem_mem hi)
  obtain⟨n,e1,e2⟩:=hx.int' he
  have h2:(0:Int)<=n/\n<=255:=by
   have e3:(decide ((0:Int)<=n)&&decide (n<=(255:Int)))=true:=e2
   rw[Bool.and_eq_true]at e3
   exact⟨of_decide_eq_true e3.1,of_decide_eq_true e3.2⟩
  exact⟨n.toNat,J,by rw[List.getElem?_eq_getElem hi,e1,Int.toNat_of_nonneg h2.1]⟩
 obtain⟨l,hl,hp⟩:=KZ h1
 refine⟨v,l,rfl, ?_,λx hx=> ?_,J⟩
 ·rcases hE with⟨rfl,rfl⟩|⟨b,c,rfl,hc1,hc2,hr⟩
  ·exact .inl ⟨rfl,List.eq_nil_of_length_eq_zero hl⟩
  ·rw[hc]at hc2 hr
   refine .inr ⟨b,0,c,by rw[hl],by rw[hl];exact hc1,hc2,λi x e=> ?_⟩
   obtain⟨n,e1,rfl⟩: ∃n,l[i]?=some n/\Value.int .u8 (n:Nat)=x:=by
    rw[List.getElem?_map]at e
    exact Option.map_eq_some_iff.1 e
   have:=hr i _ (hp i n e1).2 0 _ rfl
   rw[Nat.mul_one]at this
   rw[Nat.zero_add]
   exact this
 ·obtain⟨i,hi⟩:=List.getElem?_of_mem hx
  exact(hp i x hi).1
theorem AfF_ {P:Program}{N F:Nat}{s:St}{t e:TypeId}{us:List Value}(ht:P.underlying t=some (.slice e))(he:P.underlying e=some (.int .i64))(hc:P.cellsOf e=1)(h:Ax P N s (F+2) t us): ∃v l,us=[v]/\KsR s v l/\l.length<=N:=by
 obtain⟨v,es,rfl,hE,_,hN,ha⟩:=Ax.slice ht (by rw[hc];decide) h
 have h1: ∀i,i<es.length-> ∃n:Int,es[i]?=some [.int .i64 n]:=λi hi=>by
  obtain⟨_,hx⟩:=ha _ (List.getElem_mem hi)
  obtain⟨n,e1,_⟩:=hx.int' he
  exact⟨n,by rw[List.getElem?_eq_getElem hi,e1]⟩
 obtain⟨l,hl,hp⟩:=KZ h1
 refine⟨v,l,rfl, ?_,J⟩
 rcases hE with⟨rfl,rfl⟩|⟨b,c,rfl,_,_,hr⟩
 ·exact .inl ⟨rfl,List.eq_nil_of_length_eq_zero hl⟩
 ·rw[hc]at hr
  refine .inr ⟨b,0,c,by rw[hl],λi x e=> ?_⟩
  obtain⟨n,e1,rfl⟩: ∃n,l[i]?=some n/\Value.int .i64 n=x:=by
   rw[List.getElem?_map]at e
   exact Option.map_eq_some_iff.1 e
  have:=hr i _ (hp i n e1) 0 _ rfl
  rw[Nat.mul_one]at this
  rw[Nat.zero_add]
  exact this
theorem Ax.stringN {P:Program}{N F:Nat}{s:St}{t:TypeId}{us:List Value}(hu:P.underlying t=some .string)(h:Ax P N s (F+1) t us): ∃x:ByteArray,us=[.string x]/\x.size<=N:=by
 unfold Ax at h
 rw[hu]at h
 obtain⟨x,e,_,h⟩:=h
 exact⟨x,e,h⟩
theorem Apn_:Try.prog.underlying 22=some (.slice 36):=X
theorem Add_:PG Try.prog 36 [(3,0),(3,1),(9,2),(9,3),(32,4),(34,5)]=true:=X
theorem PQ:Try.prog.cellsOf 36=6:=X
theorem Acg_:Try.prog.cellsOf 36<1024:=by rw[PQ];decide
theorem Jd_:Try.prog.cellsOf 3=1:=X
theorem AiT_:Try.prog.cellsOf 9=1:=X
theorem UN_:Try.prog.cellsOf 32=1:=X
theorem Amj_:Try.prog.cellsOf 34=1:=X
theorem QM:Try.prog.underlying 9=some .string:=X
theorem AkP_:Try.prog.underlying 34=some (.slice 3):=X
theorem Wb_:aggT Try.prog 22=false:=X
theorem Yd_:aggT Try.prog 3=false:=X
theorem VS_:aggT Try.prog 9=false:=X
section
attribute [local irreducible] Ax
theorem Aeu_ {F:Nat}{s:St}{us:List Value}(h:Ax Try.prog 1048576 s (F+5) 22 us): ∃v l,us=[v]/\AlI s v l/\l.length<=1048576:=by
 obtain⟨v,es,rfl,hE,_,hN,ha⟩:=Ax.slice (P:=Try.prog) (F:=F+4) (t:=22) (e:=36) Apn_ Acg_ h
 rw[PQ]at hE
 have h1: ∀i,i<es.length-> ∃a:ActV,es[i]?=some (a.p.cells a.bv a.kv)/\ActOk s a:=λi hi=>by
  obtain⟨hx2,hx⟩:=ha _ (List.getElem_mem hi)
  rw[PQ]at hx2
  obtain⟨_,hx⟩:=hx.struct Add_
  have k0:=hx (3,0) am
  have k1:=hx (3,1) am
  have k2:=hx (9,2) am
  have k3:=hx (9,3) am
  have k4:=hx (32,4) am
  have k5:=hx (34,5) am
  simp only[Jd_,AiT_,UN_,Amj_]at k0 k1 k2 k3 k4 k5
  obtain⟨kd,e0,_⟩:=k0.int' Lc
  obtain⟨nn,e1,hw⟩:=k1.int' Lc
  obtain⟨nm,e2,z2⟩:=k2.stringN QM
  obtain⟨to,e3,z3⟩:=k3.stringN QM
  obtain⟨bv,bl,e4,b4,y4,z4⟩:=Xt_ (F:=F+1) TG_ AkN_ YO_ k4
  obtain⟨kv,ks,e5,b5,z5⟩:=AfF_ (F:=F+1) AkP_ Lc Jd_ k5
  have hn:nn<=9223372036854775807:=by
   have e3:(decide ((-9223372036854775808:Int)<=nn)&&decide (nn<=(9223372036854775807:Int)))=true:=hw
   rw[Bool.and_eq_true]at e3
   exact of_decide_eq_true e3.2
  refine⟨⟨⟨kd,nn,nm,to,bl,ks⟩,bv,kv⟩, ?_,⟨b4,y4,b5,hn,z4,z2,z3,z5⟩⟩
  rw[List.getElem?_eq_getElem hi]
  generalize es[i]=x at e0 e1 e2 e3 e4 e5 hx2
  match x,hx2,e0,e1,e2,e3,e4,e5 with
  |[a,b,c,d,e,f],_,e0,e1,e2,e3,e4,e5=>
   cases e0
   cases e1
   cases e2
   cases e3
   cases e4
   cases e5
   rfl
 obtain⟨l,hl,hp⟩:=KZ h1
 have hm: ∀a∈l,ActOk s a:=λa hq=>by
  obtain⟨i,hi⟩:=List.getElem?_of_mem hq
  exact(hp i a hi).2
 refine⟨v,l,rfl,⟨?_,hm⟩,J⟩
 rcases hE with⟨rfl,rfl⟩|⟨b,c,rfl,_,_,hr⟩
 ·exact .inl ⟨rfl,List.eq_nil_of_length_eq_zero hl⟩
 ·exact .inr ⟨b,c,by rw[hl],λi hi=>hr i _ (hp i _ (List.getElem?_eq_getElem hi)).1⟩
theorem U1:Try.f3.params.toList=[3,22,9]:=X
theorem Afw_:envS.orc.get 3=none:=X
theorem Wg_:envS.ext.get 3=none:=X
theorem AeI_:[3,22,9].all (Do Try.prog 7)=true:=X
set_option maxRecDepth 1000000 in
theorem walkScript {H:Type}{enc:TypeId×Value->H}{w:World}{base:Nat}{args:Array Value}{ds:List (DataW H)}{ps:List MemPlace}(hN: ∀d∈ds,lensOk 1048576 d)(hA:DataW.TrodAll enc Try.prog w 0 (λ_=>true) true Try.f3.params.toList args.toList ds ps)
  (hv: ∀(j:Nat) t v,Try.f3.params[j]?=some t->args[j]?=some v->Value.okWide Try.prog w .any base t v):Calls Try.prog 3 args w λe w'=>e= .returned (.bool true)/\Below w.heap.size w w':=by
 have hv': ∀(j:Nat) t v,[3,22,9][j]?=some t->args.toList[j]?=some v->Value.okWide Try.prog w .any base t v:=λj t v e1 e2=>by
  rw[<-U1]at e1
  rw[Array.getElem?_toList]at e1 e2
  exact hv j t v e1 e2
 rw[U1]at hA
 have hE:envS.P=Try.prog:=Aak_
 have h:=Ahv_ (E:=envS) (fuel:=2000000) (f:=3) (F:=7) (N:=1048576) (v:= .bool true) (ts:=[3,22,9]) AdI_ Afw_ Wg_ rfl (by rw[hE];exact hA) (by rw[hE];exact hv') (by rw[hE];exact AeI_) (.inr hN) (λm nx us hus hu=>by
  rw[hE]at hu
  match us,hus,hu with
  |[u0,u1,u2],_,hu=>
   have k0:=(hu 0 _ u0 rfl rfl).one Yd_
   have k1:=(hu 1 _ u1 rfl rfl).one Wb_
   have k2:=(hu 2 _ u2 rfl rfl).one VS_
   obtain⟨y,e0,_⟩:=k0.int' Lc
   obtain⟨v,l,e1,hL,hz⟩:=Aeu_ (F:=2) k1
   obtain⟨x,e2,_⟩:=k2.stringN QM
   cases e0
   cases e1
   cases e2
   exact Ajo_ (Nat.zero_le _) hL hz J)
 rw[hE]at h
 exact h
