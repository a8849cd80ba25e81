import Derived.Test.YtofanlcjeohcjaaIBz25
noncomputable section
namespace Go.Proofs.Ytofanlcjeohcjaa.Am
open Go.RowKit
theorem QZ:fldN envS 35 0=some (0,16,true):=X
theorem Jc:fldN envS 35 1=some (16,1,false):=X
theorem Ld:fldN envS 35 2=some (17,1,false):=X
theorem Ext.onG {G F' G':Nat->Prop}{s s1 s2:St}(h:Ext Any G s s1)(k:Ext F' G' s1 s2)(hb:s.lim<=s.next)(hG: ∀x,x<s.next->G' x->G x):Ext Any G s s2:=h.trans k hb (λ_ _ _=>trivial) hG
theorem EO (st:Rd):(rH st).1.1.length=16:=Fa st
theorem Vx: ∀(k:Nat) (st:Rd),∀h∈(rHs k st).1,h.1.length=16
 |0,_,h,hh=>by cases hh
 |_+1,none,h,hh=>by cases hh
 |k+1,some r,h,hh=>by
  have hh':h∈(rH (some r)).1::(rHs k (rH (some r)).2).1:=hh
  rcases List.mem_cons.1 hh' with rfl|hh
  ·exact EO _
  ·exact Vx k _ h hh
theorem MkS.hwI {s:St}{hs:List HdI}{v:Value}{b:Nat}(h:MkS s 18 hs.length (A9 hs) v b)(h16: ∀h∈hs,h.1.length=16):HiW s v:=by
 rcases h with⟨rfl,_⟩|⟨h,_⟩
 ·exact .inl rfl
 ·exact .inr ⟨b,0,_,_,h.val,λj hj=>⟨_,h.own j _ (List.getElem?_eq_getElem (by rw[Gh h16];exact hj))⟩⟩
structure PkB (s0 s:St)(R P T:Nat)(v:Value)(l:List Nat)(st:Rd)(num size:Int)(hs:List HdI)(vL:Value)(bL:Nat):Prop where
 x:Ext Any (RdG R) s0 s
 rd:RdI s R v l st
 p0:Own s P 0 (.int .i64 num)
 p1:Own s P 1 (.int .i64 size)
 p2:Own s P 2 vL
 t:Aa s T 0 [.int .i64 0, .int .i64 0, .slice none 0 0]
 ml:MkS s 18 hs.length (A9 hs) vL bL
 hT:s0.next<=T
 hTP:T+3<=P
 hPb:P+3<=bL
 hv: ∀x,BsF v x->x<s0.next
 hR:R+4<s0.next
 h16: ∀h∈hs,h.1.length=16
theorem PkB.rdx {s0 s s1:St}{R P T:Nat}{v:Value}{l:List Nat}{st st':Rd}{num size:Int}{hs:List HdI}{vL:Value}{bL:Nat}(h:PkB s0 s R P T v l st num size hs vL bL)(hb0:s0.lim<=s0.next)(x1:Ext Any (RdG R) s s1)(r1:RdI s1 R v l st'):PkB s0 s1 R P T v l st' num size hs vL bL:=by
 have a:=h.hT
 have b:=h.hTP
 have c:=h.hPb
 have d:=h.hR
 have e: ∀y,s0.next<=y-> ¬RdG R y:=λy hy hg=>by rcases hg with hg|hg|hg<;>omega
 exact⟨h.x.onG x1 hb0 λ_ _ hg=>hg,r1,h.p0.ext x1 (e _ J),h.p1.ext x1 (e _ J),h.p2.ext x1 (e _ J),h.t.ext x1 λi _=>e _ J,h.ml.ext x1 λy hy=>e y (by have:=hy.2.1;omega),h.hT,h.hTP,h.hPb,h.hv,h.hR,h.h16⟩
theorem PkB.ext0 {F:Nat->Prop}{s0 s s1:St}{R P T:Nat}{v:Value}{l:List Nat}{st:Rd}{num size:Int}{hs:List HdI}{vL:Value}{bL:Nat}(h:PkB s0 s R P T v l st num size hs vL bL)(hb0:s0.lim<=s0.next)(x1:Ext F Non s s1):PkB s0 s1 R P T v l st num size hs vL bL:=
 ⟨h.x.onG x1 hb0 λ_ _ hg=>hg.elim,h.rd.ext0 x1,h.p0.ext0 x1,h.p1.ext0 x1,h.p2.ext0 x1,h.t.ext0 x1,h.ml.ext0 x1,h.hT,h.hTP,h.hPb,h.hv,h.hR,h.h16⟩
theorem PkB.new {F G:Nat->Prop}{s0 s s1:St}{R P T:Nat}{v:Value}{l:List Nat}{st:Rd}{num size:Int}{hs:List HdI}{vL:Value}{bL:Nat}(h:PkB s0 s R P T v l st num size hs vL bL)(hb0:s0.lim<=s0.next)(x1:Ext F G s s1)(hG: ∀y,G y->s0.next<=y/\(P+3<=y)/\ ¬MkF 18 hs.length bL y):PkB s0 s1 R P T v l st num size hs vL bL:=by
 have a:=h.hT
 have b:=h.hTP
 have c:=h.hPb
 have d:=h.hR
 refine⟨h.x.onG x1 hb0 λy hy hg=>absurd (hG y hg).1 J,h.rd.ext x1 λy hy hg=> ?_,h.p0.ext x1 λhg=> ?_,h.p1.ext x1 λhg=> ?_,h.p2.ext x1 λhg=> ?_,h.t.ext x1 λi hi hg=> ?_,h.ml.ext x1 λy hy hg=>(hG y hg).2.2 hy,h.hT,h.hTP,h.hPb,h.hv,h.hR,h.h16⟩
 ·have h1:=(hG y hg).1
  rcases hy with hy|hy
  ·omega
  ·have:=h.hv y hy
   omega
 ·have:=(hG _ hg).2.1;omega
 ·have:=(hG _ hg).2.1;omega
 ·have:=(hG _ hg).2.1;omega
 ·have:=(hG _ hg).2.1
  have hi':i<3:=hi
  omega
section
variable {R P Z:Nat}{v:Value}{l:List Nat}{Q:Value×FrameMode->St->Prop}{s0:St}{num size:Int}
theorem AcF_ {cnt:Nat}{HS:List HdI}{ST:Rd}(hb0:s0.lim<=s0.next)(hcx:s0.cx=cxN)(hz:l.length<=1000000000)(hby:Byt l)(hcnt:cnt<=20000)
  (q: ∀s1 vL,Ext Any (RdG R) s0 s1->RdI s1 R v l ST->HiR s1 vL HS->(∀x,HiF vL x->s0.next<=x)->HiW s1 vL->Q (.agg #[.int .i64 num, .int .i64 size,vL], .run) s1):
  ∀(k i n:Nat) (st:Rd) (hs:List HdI) (vL:Value) (bL:Nat) (tm:T Value) (s:St) (td:List Item),i+k=cnt->40*k+1000<=n->hs.length<=i->skim 64 td=IM->PkB s0 s R P Z v l st num size hs vL bL->
  hs++(rHs k st).1=HS->(rHs k st).2=ST->T.get tm 0=some (.pointer (some ⟨R,0,none⟩))->T.get tm 2=some (.pointer (some ⟨Z,0,none⟩))->T.get tm 3=some (.pointer (some ⟨P,0,none⟩))->T.get tm 12=some (.int .i64 (cnt:Nat))->T.get tm 13=some (.int .i64 (i:Nat))->
  W (runF envS n ⟨85,CA_,CE,tm,td, .run, .normal,none⟩) s Q:=by
 have fin: ∀(n:Nat) (vL:Value) (bL:Nat) (tm:T Value) (s:St) (td:List Item),20<=n->skim 64 td=LL->PkB s0 s R P Z v l ST num size HS vL bL->T.get tm 2=some (.pointer (some ⟨Z,0,none⟩))->T.get tm 3=some (.pointer (some ⟨P,0,none⟩))->
   W (runF envS n ⟨85,CA_,CE,tm,td, .run, .normal,none⟩) s Q:=by
  intro n vL bL tm s td hn hT' h g2 g3
  have a:=h.hT
  have b:=h.hTP
  have c:=h.hPb
  have d:=h.hR
  have rowP:Row s P 0 [.int .i64 num, .int .i64 size,vL]:=λj u hu=>by
   match j,hu with
   |0,hu=>cases hu;exact h.p0.at'
   |1,hu=>cases hu;exact h.p1.at'
   |2,hu=>cases hu;exact h.p2.at'
  obtain⟨wp,wn,wc,ew⟩: ∃p n c,vL= .slice p n c:=by
   obtain⟨p,c,e⟩:=h.ml.sl
   exact⟨_,_,_,e⟩
  have h1:oneCell vL=true:=by rw[ew];rfl
  refine Adr_.u ?_ hT'
  simp only[Cd_,RR,SS,g3]
  refine aJ (o:=0) Ca rowP rfl λs1 m1 n1 x1=> ?_
  have k1:=h.ext0 hb0 x1
  try simp only[SS,g2]
  refine W.store (b:=Z) (o:=0) Ca (v:= .agg #[.int .i64 num, .int .i64 size,vL]) rfl (by show([.int .i64 num, .int .i64 size,vL]:List Value).all oneCell=true;simp[oneCell]at h1 ⊢;exact h1) (λj hj=>Aa.owned k1.t j (by simpa using hj)) λs2 n2 x2 o2=> ?_
  have y2:Ext Any (RdG R) s0 s2:=k1.x.onG x2 hb0 λy hy hg=>by
   have:=hg.1
   omega
  have r2:RdI s2 R v l ST:=k1.rd.ext x2 λy hy hg=>by
   have h1:=hg.1
   rcases hy with hy|hy
   ·omega
   ·have:=h.hv y hy
    omega
  have mk2:MkS s2 18 HS.length (A9 HS) vL bL:=k1.ml.ext x2 λy hy hg=>by
   have h1:y<Z+0+3:=hg.2
   have h2:=hy.2.1
   omega
  refine W.endC rfl (.inl Adl_) J Jy_ AcJ_ (y2.cx.trans hcx) (by simpa [T.get_set]using g2) ?_
  refine aJ (o:=0) Ca (Aa.row o2) rfl λs3 m3 n3 x3=> ?_
  refine q s3 vL (y2.onG x3 hb0 λ_ _ hg=>hg.elim) (r2.ext0 x3) ?_ (λx hx=> ?_) ((mk2.ext0 x3).hwI h.h16)
  ·rcases mk2.ext0 x3 with⟨rfl,h0,_⟩|⟨hm,_⟩
   ·exact .inl ⟨rfl,List.eq_nil_of_length_eq_zero h0⟩
   ·exact .inr ⟨bL,0,_,hm.val,hm.own.row⟩
  ·rcases h.ml with⟨e,_,_⟩|⟨hm,_⟩
   ·rw[e]at hx
    exact hx.elim
   ·rw[hm.val]at hx
    have h2:bL+0<=x:=hx.1
    omega
 intro k
 induction k with
 |zero=>
  intro i n st hs vL bL tm s td hi hn hil hT' h hHS hST g0 g2 g3 g12 g13
  refine Ep_.u ?_ hT'
  simp only[Pd,RR,SS,Ab,g12,g13]
  refine aE Jl_ ?_
  have e1:hs=HS:=by rw[<-hHS];exact(List.append_nil hs).symm
  have e2:st=ST:=hST
  subst e1 e2
  exact fin _ vL bL _ s _ J rfl h (an g2) (an g3)
 |succ k ih=>
  intro i n st hs vL bL tm s td hi hn hil hT' h hHS hST g0 g2 g3 g12 g13
  have hb:=h.x.bnd hb0
  refine Ep_.u ?_ hT'
  simp only[Pd,RR,SS,Ab,g12,g13]
  refine aH Jl_ ?_
  refine Aud_.u ?_
  simp only[Vk,RR,SS,reduceCtorEq, ↓reduceIte,g0]
  refine Pl hb h.rd J λe p s1 x1 he=> ?_
  have h1:=h.ext0 hb0 x1
  simp only[PJ (cs:= #[.int .i64 e, .int .i64 p]) (v:= .int .i64 e) Cm (.inl ⟨rfl,rfl⟩),Ag]
  cases st with
  |none=>
   have he0:e≠0:=λh0=>(he.1 h0) rfl
   refine aH Wb_ ?_ rfl (an he0)
   have e1:hs=HS:=by rw[<-hHS];exact(List.append_nil hs).symm
   have e2:none=ST:=hST
   subst e1 e2
   exact fin _ vL bL _ s1 _ J Ans_ h1 (an g2) (an g3)
  |some r=>
   have he0:e=0:=he.2 am
   refine aE Wb_ ?_ rfl (an he0)
   have hHS':hs++((rH (some r)).1::(rHs k (rH (some r)).2).1)=HS:=hHS
   have hST':(rHs k (rH (some r)).2).2=ST:=hST
   have hb1:=h1.x.bnd hb0
   refine AiT_.u ?_
   simp only[HW_,RR,SS]
   refine W.alloc GA λs2 n2 x2 o2=> ?_
   have n2':s2.next=s1.next+19:=n2
   have h2:=h1.ext0 hb0 x2
   have hH1:s0.next<=s1.next:=h1.x.nxt
   have hPn:P+3<=s1.next:=by
    have:=h1.p2.1
    omega
   have hMn: ∀y,MkF 18 hs.length bL y->y<s1.next:=h1.ml.lt
   refine Aab_.u ?_
   simp only[Qc_,RR,SS,reduceCtorEq, ↓reduceIte,g0]
   refine AqL_ (h2.x.bnd hb0) h2.rd hz J λs3 x3 r3=> ?_
   have h3:=h2.rdx hb0 x3 r3
   have eH: ∀y,s1.next<=y-> ¬RdG R y:=λy hy hg=>by
    have:=h.hR
    rcases hg with hg|hg|hg<;>omega
   have o3:Aa s3 s1.next 0 (List.replicate 16 (.int .u8 0)++[.int .i64 0, .int .i64 0]):=o2.ext x3 λj _=>eH _ J
   have l16:(u8l (rID (some r)).1).length=16:=by rw[AQ,Fa]
   simp only[Af QZ al]
   refine W.store (b:=s1.next) (o:=0+0) EM (v:= .agg (u8l (rID (some r)).1).toArray) l16 (CG _) (λj hj=>by
    obtain⟨u,hu⟩:=Aa.owned o3 j (by simp;omega)
    exact⟨u,hu⟩) λs4 n4 x4 o4=> ?_
   rw[BV]at o4
   have inH: ∀(o m:Nat) (y:Nat),In s1.next o m y->s0.next<=y/\P+3<=y/\ ¬MkF 18 hs.length bL y:=λo m y hy=>by
    have h1:=hy.1
    exact⟨J,J,λhm=>by have:=hMn y hm;omega⟩
   have h4:=h3.new hb0 x4 (inH _ _)
   have o4a:Aa s4 s1.next 0 (u8l (rID (some r)).1):=o4
   have o4b:Own s4 s1.next 16 (.int .i64 0):=(o3 16 _ rfl).ext x4 λhg=>by
    have h1:=hg.2
    omega
   have o4c:Own s4 s1.next 17 (.int .i64 0):=(o3 17 _ rfl).ext x4 λhg=>by
    have h1:=hg.2
    omega
   refine Aiq_.u ?_
   simp only[TH_,RR,SS,reduceCtorEq, ↓reduceIte,g0]
   refine Lp (lo:=0) (hi:=2147483647) (h4.x.bnd hb0) h4.rd hz hby J λs5 x5 r5=> ?_
   have h5:=h4.rdx hb0 x5 r5
   simp only[Af Jc al]
   refine aI (b:=s1.next) (o:=0+16) Ap rfl (o4b.ext x5 (eH _ J)) λs6 n6 x6 o6=> ?_
   have h6:=h5.new hb0 x6 (inH _ _)
   have o6a:Aa s6 s1.next 0 (u8l (rID (some r)).1):=λj u hu=>((o4a j u hu).ext x5 (eH _ J)).ext x6 λhg=>by
    have h1:=hg.1
    have h2:=(List.getElem?_eq_some_iff.1 hu).1
    omega
   have o6c:Own s6 s1.next 17 (.int .i64 0):=(o4c.ext x5 (eH _ J)).ext x6 λhg=>by
    have h1:=hg.2
    omega
   refine AwD_.u ?_
   simp only[Uo,RR,SS,reduceCtorEq, ↓reduceIte,g0]
   refine Lp (lo:=1) (hi:=1024) (h6.x.bnd hb0) h6.rd hz hby J λs7 x7 r7=> ?_
   have h7:=h6.rdx hb0 x7 r7
   simp only[Af Ld al]
   refine aI (b:=s1.next) (o:=0+17) Ap rfl (o6c.ext x7 (eH _ J)) λs8 n8 x8 o8=> ?_
   have h8:=h7.new hb0 x8 (inH _ _)
   have o8a:Aa s8 s1.next 0 (u8l (rID (some r)).1):=λj u hu=>((o6a j u hu).ext x7 (eH _ J)).ext x8 λhg=>by
    have h1:=hg.1
    have h2:=(List.getElem?_eq_some_iff.1 hu).1
    omega
   have o8b:Own s8 s1.next 16 (.int .i64 ((rInt 0 2147483647 (rID (some r)).2).1:Nat)):=(o6.ext x7 (eH _ J)).ext x8 λhg=>by
    have h1:=hg.1
    omega
   have o8c:Own s8 s1.next 17 (.int .i64 ((rInt 1 1024 (rInt 0 2147483647 (rID (some r)).2).2).1:Nat)):=o8
   have rowH:Row s8 s1.next 0 (Av (rH (some r)).1):=λj u hu=>by
    have hu':(u8l (rID (some r)).1++[.int .i64 ((rInt 0 2147483647 (rID (some r)).2).1:Nat), .int .i64 ((rInt 1 1024 (rInt 0 2147483647 (rID (some r)).2).2).1:Nat)])[j]?=some u:=hu
    rcases Nat.lt_or_ge j 16 with hj|hj
    ·rw[List.getElem?_append_left J]at hu'
     exact(o8a j u hu').at'
    ·rw[List.getElem?_append_right J,l16]at hu'
     obtain⟨d,rfl⟩: ∃d,j=16+d:=⟨j-16,J⟩
     rw[Nat.add_sub_cancel_left]at hu'
     match d,hu' with
     |0,hu'=>cases hu';exact o8b.at'
     |1,hu'=>cases hu';exact o8c.at'
   refine Xb_.u ?_
   simp only[Xq,RR,SS,Nat.reduceEqDiff, ↓reduceIte,g3,Af BG al]
   refine aA Bu h8.p2.at' ?_
   have h9:=h8.ext0 hb0 (Ext.rdN (F:=Any) (G:=Non) s8 (P+(0+2)) λ_=>trivial)
   refine aJ (b:=s1.next) (o:=0) CH (λj u hu=>(rowH j u hu).same rfl rfl) (BN (EO _)) λs10 m10 n10 x10=> ?_
   have h10:=h9.ext0 hb0 x10
   refine aM (h10.x.bnd hb0) (r:=Av (rH (some r)).1) Mk al (CR_ (Fa (some r)) _ _) (A0 al) λs11 n11 x11 r11=> ?_
   have h11:=h10.ext0 hb0 x11
   rw[CD]
   refine bA (s:=s11) (h11.x.bnd hb0) PZ h11.ml (D0 (n:=1) (c:=1) (Aa.row r11) (by rw[BN (EO _)])).g al al al J (by rw[BN (EO _)]) (EU _) λs12 v12 b12 hb12 mk12 x12=> ?_
   have hn12:s11.next<=s12.next:=x12.nxt
   have hs11:s1.next<=s11.next:=Nat.le_trans (Nat.le_trans x2.nxt (Nat.le_trans x3.nxt (Nat.le_trans x4.nxt (Nat.le_trans x5.nxt (Nat.le_trans x6.nxt (Nat.le_trans x7.nxt (Nat.le_trans x8.nxt (Nat.le_trans (Nat.le_of_eq n10.symm) x11.nxt)))))))) (Nat.le_refl _)
   have mkP: ∀y,MkF 18 hs.length bL y->P+3<=y/\s0.next<=y:=λy hy=>by
    have h1:=hy.2.1
    have h2:=h.hPb
    have h3:=h.hTP
    have h4:=h.hT
    exact⟨J,J⟩
   have p212:Own s12 P 2 vL:=h11.p2.ext x12 λhg=>by have:=(mkP _ hg).1;omega
   have v12one:oneCell v12=true:=by
    obtain⟨p,c,e⟩:=mk12.sl
    rw[e]
    rfl
   refine aI (b:=P) (o:=0+2) Bu v12one p212 λs13 n13 x13 o13=> ?_
   have x113:Ext Any (λy=>MkF 18 hs.length bL y\/y=P+2) s11 s13:=(x12.weak (h11.x.bnd hb0) (λ_ _ _=>trivial) λ_ _ hg=> .inl hg).trans x13 (h11.x.bnd hb0) (λ_ _ _=>trivial) λy _ hy=> .inr (by have h1:=hy.1;have h2:=hy.2;omega)
   have lens:(hs++[(rH (some r)).1]).length=hs.length+1:=am
   have heldA:A9 (hs++[(rH (some r)).1])=A9 hs++Av (rH (some r)).1:=by
    have: ∀(a:List HdI) (b:HdI),A9 (a++[b])=A9 a++Av b:=λa b=>by
     induction a with
     |nil=>show Av b++[]=[]++Av b;rw[List.append_nil,List.nil_append]
     |cons c a ih=>show Av c++A9 (a++[b])=(Av c++A9 a)++Av b;rw[ih,List.append_assoc]
    exact this _ _
   have h13:PkB s0 s13 R P Z v l (rH (some r)).2 num size (hs++[(rH (some r)).1]) v12 b12:=by
    have a:=h.hT
    have b:=h.hTP
    have c:=h.hPb
    have d:=h.hR
    refine⟨h11.x.onG x113 hb0 λy hy hg=> ?_, ?_,h11.p0.ext x113 λhg=> ?_,h11.p1.ext x113 λhg=> ?_,o13,h11.t.ext x113 λj hj hg=> ?_, ?_,a,b,J,h.hv,d,λz hz=> ?_⟩
    ·rcases hg with hg|hg
     ·have:=(mkP _ hg).2
      omega
     ·omega
    ·refine h11.rd.ext x113 λy hy hg=> ?_
     have hys:y<s0.next:=by
      rcases hy with hy|hy
      ·omega
      ·exact h.hv y hy
     rcases hg with hg|hg
     ·have:=(mkP _ hg).2
      omega
     ·omega
    ·rcases hg with hg|hg
     ·have:=(mkP _ hg).1
      omega
     ·omega
    ·rcases hg with hg|hg
     ·have:=(mkP _ hg).1
      omega
     ·omega
    ·have hj':j<3:=hj
     rcases hg with hg|hg
     ·have:=(mkP _ hg).1
      omega
     ·omega
    ·rw[lens,heldA]
     exact mk12.ext x13 λy hy hg=>by
      have h1:=hy.2.1
      have h2:=hg.2
      omega
    ·rcases List.mem_append.1 hz with hz|hz
     ·exact h.h16 z hz
     ·have:z=(rH (some r)).1:=by simpa using hz
      rw[this]
      exact EO _
   refine AeJ_.u ?_
   have ei:=eiW (i:=i) J
   simp only[Z9,RR,SS,Nat.reduceEqDiff, ↓reduceIte,Ad,g13,ei]
   exact ih (i+1) _ (rH (some r)).2 _ v12 b12 _ s13 _ J J (by rw[lens];omega) AfJ_ h13 (by rw[<-hHS',List.append_assoc];rfl) hST' (an g0) (an g2) (an g3) (an g12) Y
end
theorem Ep (lo hi:Nat)(st:Rd):(rInt lo hi st).1<=hi:=by
 cases st with
 |none=>exact Nat.zero_le _
 |some r=>
  unfold rInt
  simp only
  split
  ·exact Nat.zero_le _
  ·split
   ·exact Nat.zero_le _
   ·show _<=hi
    omega
theorem PkB.put {s0 s s':St}{R P Z bL k:Nat}{v:Value}{l:List Nat}{st:Rd}{num size x:Int}(B:PkB s0 s R P Z v l st num size [] (.slice none 0 0) bL)(hb0:s0.lim<=s0.next)(hk:k<2)(x':Ext (In P (0+k) 1) (In P (0+k) 1) s s')(o:Own s' P (0+k) (.int .i64 x)):PkB s0 s' R P Z v l st (if k=0 then x else num) (if k=1 then x else size) [] (.slice none 0 0) bL:=by
 have a:=B.hT
 have b:=B.hTP
 have c:=B.hPb
 have d:=B.hR
 have ne: ∀y,y<P\/y≠P+k-> ¬In P (0+k) 1 y:=λy hy hg=>by
  have h1:=hg.1
  have h2:=hg.2
  omega
 refine⟨B.x.onG x' hb0 λy hy hg=>absurd hg (ne y (.inl J)),B.rd.ext x' λy hy=>ne y (.inl ?_), ?_, ?_,B.p2.ext x' (ne _ (.inr J)),B.t.ext x' λj hj=>ne _ (.inl (by have:j<3:=hj;omega)), .inl ⟨rfl,rfl,rfl⟩,a,b,c,B.hv,d,B.h16⟩
 ·rcases hy with hy|hy
  ·omega
  ·have:=B.hv y hy
   omega
 ·by_cases hk0:k=0
  ·subst hk0
   exact o
  ·rw[if_neg hk0]
   exact B.p0.ext x' (ne _ (.inr J))
 ·by_cases hk1:k=1
  ·subst hk1
   exact o
  ·rw[if_neg hk1]
   exact B.p1.ext x' (ne _ (.inr J))
section
variable {R n:Nat}{v:Value}{l:List Nat}{s:St}{Q:Value->St->Prop}{st:Rd}
theorem Awa_ (hb:s.lim<=s.next)(h:RdI s R v l st)(hz:l.length<=1000000000)(hby:Byt l)(hn:802000<=n)
  (q: ∀s1 (p:PkI),Ext Any (RdG R) s s1->RdI s1 R v l (rPk st).2->p.key=(rPk st).1->HiR s1 p.v p.hs->(∀x,HiF p.v x->s.next<=x)->HiW s1 p.v->Q (.agg (pkC p).toArray) s1):
  W (Ac envS (runF envS n) 85 [.pointer (some ⟨R,0,none⟩)]) s Q:=by
 have hb0:(s.cxN cxN).lim<=(s.cxN cxN).next:=hb
 have h':RdI (s.cxN cxN) R v l st:=h.same rfl rfl
 refine AdX_ λtm g0=> ?_
 refine XC_.u ?_
 simp only[KE_,RR,SS]
 refine W.alloc FJ λs1 n1 x1 o1=> ?_
 have n1':s1.next=s.next+4:=n1
 have y1:Ext Any Non (s.cxN cxN) s1:=x1.any hb0
 refine AgV_.u ?_
 simp only[MS_,RR,SS]
 refine W.alloc FJ λs2 n2 x2 o2=> ?_
 have n2':s2.next=s1.next+4:=n2
 have y2:=y1.then0 x2 hb0
 have o1':Aa s2 s.next 0 [.int .i64 0, .int .i64 0, .slice none 0 0]:=λj u hu=>(o1 j u hu).ext0 x2
 have o2':Aa s2 s1.next 0 [.int .i64 0, .int .i64 0, .slice none 0 0]:=o2
 have B0:PkB (s.cxN cxN) s2 R s1.next s.next v l st 0 0 [] (.slice none 0 0) s2.next:=
  ⟨y2.weak hb0 (λ_ _ h=>h) λ_ _ h=>h.elim,h'.ext0 y2,o2' 0 _ rfl,o2' 1 _ rfl,o2' 2 _ rfl,o1', .inl ⟨rfl,rfl,rfl⟩,Nat.le_refl _,J,J,λx hx=>h.lt x hx,h.rt,λz hz=>by cases hz⟩
 refine Avy_.u ?_
 simp only[Zi,RR,SS,reduceCtorEq, ↓reduceIte,g0]
 refine Lp (lo:=1) (hi:=999999) (B0.x.bnd hb0) B0.rd hz hby J λs3 x3 r3=> ?_
 have B3:=B0.rdx hb0 x3 r3
 simp only[Af Dm al]
 refine aI (b:=s1.next) (o:=0+0) Ap rfl B3.p0 λs4 n4 x4 o4=> ?_
 have B4:=B3.put hb0 (k:=0) J x4 o4
 simp only[reduceIte,Nat.reduceEqDiff]at B4
 refine Agr_.u ?_
 simp only[ZR,RR,SS,reduceCtorEq, ↓reduceIte,g0]
 refine Lp (lo:=0) (hi:=65536) (B4.x.bnd hb0) B4.rd hz hby J λs5 x5 r5=> ?_
 have B5:=B4.rdx hb0 x5 r5
 simp only[Af DB al]
 refine aI (b:=s1.next) (o:=0+1) Ap rfl B5.p1 λs6 n6 x6 o6=> ?_
 have B6:=B5.put hb0 (k:=1) J x6 o6
 simp only[reduceIte,Nat.reduceEqDiff]at B6
 refine Aqp_.u ?_
 simp only[QQ_,RR,SS,reduceCtorEq, ↓reduceIte,g0]
 refine VP_ (hi:=20000) (B6.x.bnd hb0) B6.rd hz hby J λs7 x7 r7=> ?_
 have B7:=B6.rdx hb0 x7 r7
 refine AcF_ (s0:=s.cxN cxN) (HS:=(rHs (rInt 0 20000 (rInt 0 65536 (rInt 1 999999 st).2).2).1 (rInt 0 20000 (rInt 0 65536 (rInt 1 999999 st).2).2).2).1) (ST:=(rHs (rInt 0 20000 (rInt 0 65536 (rInt 1 999999 st).2).2).1 (rInt 0 20000 (rInt 0 65536 (rInt 1 999999 st).2).2).2).2) (cnt:=(rInt 0 20000 (rInt 0 65536 (rInt 1 999999 st).2).2).1) hb0 rfl hz hby (Ep _ _ _) (λs8 vL x8 r8 hi8 hf8 hw8=> ?_) _ 0 _ _ [] _ _ _ s7 _ (Nat.zero_add _) (by have:=Ep 0 20000 (rInt 0 65536 (rInt 1 999999 st).2).2;omega) am rfl B7 rfl rfl (an g0) Y Y Y Y
 exact q _ ⟨((rInt 1 999999 st).1:Nat),((rInt 0 65536 (rInt 1 999999 st).2).1:Nat),vL,_⟩ x8.cx' (r8.same rfl rfl) rfl (hi8.same rfl rfl) hf8 (hw8.same rfl rfl)
end
structure PsO (s0 s:St)(os:List PkI)(vo:Value)(bo:Nat):Prop where
 mo:MkS s 3 os.length (pkCs os) vo bo
 no:s0.next<=bo
 hs: ∀o∈os,HiR s o.v o.hs/\(∀h∈o.hs,h.1.length=16)/\(∀x,HiF o.v x->s0.next<=x/\ ¬MkF 3 os.length bo x)
 ow: ∀o∈os,HiW s o.v
 sp:os.Pairwise λp q=> ∀x,HiF p.v x-> ¬HiF q.v x
theorem PsO.ext {F G:Nat->Prop}{s0 s s':St}{os:List PkI}{vo:Value}{bo:Nat}(h:PsO s0 s os vo bo)(x:Ext F G s s')(hG: ∀y,s0.next<=y-> ¬G y):PsO s0 s' os vo bo:=
 ⟨h.mo.ext x λy hy=>hG y (by have:=hy.2.1;have:=h.no;omega),h.no,λo ho=>⟨(h.hs o ho).1.ext (h.hs o ho).2.1 x λy hy=>hG y ((h.hs o ho).2.2 y hy).1,(h.hs o ho).2⟩,λo ho=>(h.ow o ho).ext x λy hy=>hG y ((h.hs o ho).2.2 y hy).1,h.sp⟩
theorem PsO.ext0 {F:Nat->Prop}{s0 s s':St}{os:List PkI}{vo:Value}{bo:Nat}(h:PsO s0 s os vo bo)(x:Ext F Non s s'):PsO s0 s' os vo bo:=h.ext x λ_ _=>id
theorem Cf_ {G:Nat->Prop}{s0 s:St}{os:List PkI}{vo:Value}{bo:Nat}{p:PkI}{Q:Value->St->Prop}(hb0:s0.lim<=s0.next)(hx:Ext Any G s0 s)(h:PsO s0 s os vo bo)(hp:HiR s p.v p.hs)(h16: ∀h∈p.hs,h.1.length=16)(hlo: ∀x,HiF p.v x->s0.next<=x/\ ¬MkF 3 os.length bo x)(hle:os.length<=100000)(hpw:HiW s p.v)(hpn: ∀o∈os,∀x,HiF o.v x-> ¬HiF p.v x)
  (q: ∀s2 v2 b2,Ext Any G s0 s2->Ext Any (MkF 3 os.length bo) s s2->PsO s0 s2 (os++[p]) v2 b2->Q v2 s2):
  W (BS envS 55 1 [(0, .agg (pkC p).toArray)]) s λv s1=>W (Bg envS .append [55,55] [vo,v]) s1 Q:=by
 have hb:=hx.bnd hb0
 refine aM hb (r:=pkC p) FR_ al (AsR_ p) (A0 al) λs1 n1 x1 r1=> ?_
 have hb1:=x1.bnd hb
 have n1':s1.next=s.next+4:=n1
 rw[CD]
 have hn0:s0.next<=s.next:=hx.nxt
 refine bA (s:=s1) hb1 Vw (h.mo.ext0 x1) (D0 (n:=1) (c:=1) (Aa.row r1) rfl).g al al al J rfl (KU_ hp.one) λs2 v2 b2 hb2 mk2 x2=> ?_
 have x12:Ext Any (MkF 3 os.length bo) s s2:=(x1.weak hb (λ_ _ h=>h.elim) λ_ _ h=>h.elim).trans x2 hb (λ_ _ _=>trivial) λ_ _ h=>h
 have x02:Ext Any G s0 s2:=hx.trans x12 hb0 (λ_ _ _=>trivial) λy hy hq=>by
  have h1:=hq.2.1
  have h2:=h.no
  omega
 have hlt: ∀x,MkF 3 os.length bo x->x<s.next:=h.mo.lt
 have hl:(os++[p]).length=os.length+1:=am
 refine q s2 v2 b2 x02 x12 ⟨?_,J, ?_,λo ho=> ?_, ?_⟩
 ·rw[hl,SR_]
  show MkS s2 3 (os.length+1) (pkCs os++(pkC p++[])) v2 b2
  rw[List.append_nil]
  exact mk2
 ·intro o ho
  rw[hl]
  rcases List.mem_append.1 ho with ho|ho
  ·obtain⟨g1,g2,g3⟩:=h.hs o ho
   have hlo':=g1.lt g2
   exact⟨g1.ext g2 x12 λx hx hq=>(g3 x hx).2 hq,g2,λx hx=>⟨(g3 x hx).1,λhq=>by have h3:=hq.2.1;have h4:=hlo' x hx;omega⟩⟩
  ·have:o=p:=by simpa using ho
   subst this
   have hlo':=hp.lt h16
   exact⟨hp.ext h16 x12 λx hx hq=>(hlo x hx).2 hq,h16,λx hx=>⟨(hlo x hx).1,λhq=>by have h3:=hq.2.1;have h4:=hlo' x hx;omega⟩⟩
 ·rcases List.mem_append.1 ho with ho|ho
  ·exact(h.ow o ho).ext x12 λx hx hq=>((h.hs o ho).2.2 x hx).2 hq
  ·have:o=p:=by simpa using ho
   subst this
   exact hpw.ext x12 λx hx hq=>(hlo x hx).2 hq
 ·exact List.pairwise_append.2 ⟨h.sp,List.pairwise_singleton _ _,λo ho q hq=>by rw[List.mem_singleton.1 hq];exact hpn o ho⟩
theorem PsO.pw {n0:Nat}{s0 s:St}{os:List PkI}{vo:Value}{bo:Nat}(h:PsO s0 s os vo bo)(hn:n0<=s0.next):PkW n0 s os vo bo:=
 ⟨h.mo,Nat.le_trans hn h.no,h.ow,λo ho x hx=>⟨Nat.le_trans hn ((h.hs o ho).2.2 x hx).1,((h.hs o ho).2.2 x hx).2⟩,h.sp⟩
theorem PsO.rows {s0 s:St}{os:List PkI}{vo:Value}{bo:Nat}(h:PsO s0 s os vo bo):PkR s vo os/\ ∀x,PkF vo os x->s0.next<=x:=by
 refine⟨⟨?_,λp hp=>(h.hs p hp).1,λp hp=>(h.hs p hp).2.1⟩,λx hx=> ?_⟩
 ·rcases h.mo with⟨rfl,h0,_⟩|⟨hm,_⟩
  ·exact .inl ⟨rfl,List.eq_nil_of_length_eq_zero h0⟩
  ·exact .inr ⟨bo,0,_,hm.val,hm.own.row⟩
 ·rcases hx with hx|⟨p,hp,hx⟩
  ·rcases h.mo with⟨e,_,_⟩|⟨hm,_⟩
   ·rw[e]at hx
    exact hx.elim
   ·rw[hm.val]at hx
    have h1:bo+0<=x:=hx.1
    have:=h.no
    omega
  ·exact((h.hs p hp).2.2 x hx).1
theorem Su: ∀(k:Nat) (st:Rd),(rPs k st).1.length<=k/\ ∀p∈(rPs k st).1,p.2.2.length<=20000
 |0,_=>⟨Nat.le_refl _,λp hp=>by cases hp⟩
 |_+1,none=>⟨Nat.zero_le _,λp hp=>by cases hp⟩
 |k+1,some r=>by
  obtain⟨h1,h2⟩:=Su k (rPk (some r)).2
  have hl: ∀(k:Nat) (st:Rd),(rHs k st).1.length<=k:=by
   intro k
   induction k with
   |zero=>exact λ_=>Nat.le_refl _
   |succ k ih=>
    intro st
    cases st with
    |none=>exact Nat.zero_le _
    |some r=>
     show((rH (some r)).1::(rHs k (rH (some r)).2).1).length<=_
     rw[List.length_cons]
     exact Nat.succ_le_succ (ih _)
  refine⟨by show((rPk (some r)).1::(rPs k (rPk (some r)).2).1).length<=_;rw[List.length_cons];omega,λp hp=> ?_⟩
  have hp':p∈(rPk (some r)).1::(rPs k (rPk (some r)).2).1:=hp
  rcases List.mem_cons.1 hp' with rfl|hp
  ·exact Nat.le_trans (hl _ _) (Ep _ _ _)
  ·exact h2 p hp
theorem L6 {B:Nat}: ∀(os:List PkI),(∀p∈os,p.hs.length<=B)->Ar os<=os.length*B
 |[],_=>Nat.zero_le _
 |p::os,h=>by
  have h1:=h p am
  have h2:=L6 os λx hx=>h x (by simp[hx])
  have e:Ar (p::os)=p.hs.length+Ar os:=by unfold Ar;simp
  rw[e,List.length_cons,Nat.succ_mul]
  omega
section
variable {R:Nat}{v:Value}{l:List Nat}{Q:Value×FrameMode->St->Prop}{s0:St}
theorem Ahd_ {cnt:Nat}{HS:List KeyP}{ST:Rd}(hb0:s0.lim<=s0.next)(hz:l.length<=1000000000)(hby:Byt l)(hcnt:cnt<=500)(hR:R+4<s0.next)(hv: ∀x,BsF v x->x<s0.next):
  ∀(k i n:Nat) (st:Rd) (os:List PkI) (vo:Value) (bo:Nat) (tm:T Value) (s:St) (td:List Item),i+k=cnt->20*k+803000<=n->os.length<=i->skim 64 td=JW->Ext Any (RdG R) s0 s->RdI s R v l st->PsO s0 s os vo bo->
  os.map PkI.key++(rPs k st).1=HS->(rPs k st).2=ST->T.get tm 6=some (.pointer (some ⟨R,0,none⟩))->T.get tm 7=some vo->T.get tm 18=some (.int .i64 (cnt:Nat))->T.get tm 19=some (.int .i64 (i:Nat))->
  (∀(n1:Nat) (os:List PkI) (vo:Value) (bo:Nat) (tm1:T Value) (s1:St) (td1:List Item),n-(20*k+10)<=n1->skim 64 td1=KW->Ext Any (RdG R) s0 s1->RdI s1 R v l ST->PsO s0 s1 os vo bo->os.map PkI.key=HS->T.get tm1 6=some (.pointer (some ⟨R,0,none⟩))->T.get tm1 7=some vo->
   W (runF envS n1 ⟨39,K4,Cn,tm1,td1, .run, .normal,none⟩) s1 Q)->
  W (runF envS n ⟨39,K4,Cn,tm,td, .run, .normal,none⟩) s Q:=by
 intro k
 induction k with
 |zero=>
  intro i n st os vo bo tm s td hi hn hil hT' hx hr ho hHS hST g6 g7 g18 g19 q
  refine Zz.u ?_ hT'
  simp only[OS,RR,SS,Ab,g18,g19]
  refine aE WN ?_
  have e1:os.map PkI.key=HS:=by rw[<-hHS];exact(List.append_nil _).symm
  have e2:st=ST:=hST
  subst e2
  exact q _ os vo bo _ s _ J rfl hx hr ho e1 (an g6) (an g7)
 |succ k ih=>
  intro i n st os vo bo tm s td hi hn hil hT' hx hr ho hHS hST g6 g7 g18 g19 q
  have hb:=hx.bnd hb0
  refine Zz.u ?_ hT'
  simp only[OS,RR,SS,Ab,g18,g19]
  refine aH WN ?_
  refine AnG_.u ?_
  simp only[Hv_,RR,SS,Nat.reduceEqDiff, ↓reduceIte,g6]
  refine Pl hb hr J λe p s1 x1 he=> ?_
  have hx1:Ext Any (RdG R) s0 s1:=hx.onG x1 hb0 λ_ _ h=>h.elim
  simp only[PJ (cs:= #[.int .i64 e, .int .i64 p]) (v:= .int .i64 e) Cm (.inl ⟨rfl,rfl⟩),Ag]
  cases st with
  |none=>
   have he0:e≠0:=λh0=>(he.1 h0) rfl
   refine aH JY_ ?_ rfl (an he0)
   have e1:os.map PkI.key=HS:=by rw[<-hHS];exact(List.append_nil _).symm
   have e2:none=ST:=hST
   subst e2
   exact q _ os vo bo _ s1 _ J AnL_ hx1 (hr.ext0 x1) (ho.ext0 x1) e1 (an g6) (an g7)
  |some r=>
   have he0:e=0:=he.2 am
   refine aE JY_ ?_ rfl (an he0)
   have hHS':os.map PkI.key++((rPk (some r)).1::(rPs k (rPk (some r)).2).1)=HS:=hHS
   have hST':(rPs k (rPk (some r)).2).2=ST:=hST
   have nG: ∀y,s0.next<=y-> ¬RdG R y:=λy hy hg=>by rcases hg with hg|hg|hg<;>omega
   refine Apr_.u ?_
   simp only[BA_,RR,SS,Nat.reduceEqDiff, ↓reduceIte,g6,g7]
   refine Awa_ (hx1.bnd hb0) (hr.ext0 x1) hz hby J λs2 p x2 r2 hk hi2 hf2 hw2=> ?_
   have hx2:Ext Any (RdG R) s0 s2:=hx1.onG x2 hb0 λ_ _ h=>h
   have ho2:PsO s0 s2 os vo bo:=(ho.ext0 x1).ext x2 nG
   have h16: ∀h∈p.hs,h.1.length=16:=by
    have:p.hs=(rPk (some r)).1.2.2:=by rw[<-hk];rfl
    rw[this]
    exact Vx _ _
   have n1:s0.next<=s1.next:=hx1.nxt
   refine Cf_ (p:=p) hb0 hx2 ho2 hi2 h16 (λx hx=>⟨by have:=hf2 x hx;omega,λhm=>by have h1:=hf2 x hx;have h2:=(ho.ext0 x1).mo.lt x hm;omega⟩) J hw2 (λo ho' x hx hq=>by have h1:=hf2 x hq;have h2:=(ho.ext0 x1).hs o ho';have h3:=h2.1.lt h2.2.1 x hx;omega) λs3 v3 b3 x3 x23 ho3=> ?_
   have r3:RdI s3 R v l (rPk (some r)).2:=r2.ext x23 λy hy hg=>by
    have h1:=hg.2.1
    have h2:=ho.no
    rcases hy with hy|hy
    ·omega
    ·have:=hv y hy
     omega
   refine AoC_.u ?_
   have ei:=eiW (i:=i) J
   simp only[Hg_,RR,SS,Nat.reduceEqDiff, ↓reduceIte,Ad,g19,ei]
   refine ih (i+1) _ (rPk (some r)).2 (os++[p]) v3 b3 _ s3 _ J J (by simp;omega) Alk_ x3 r3 ho3 ?_ hST' (an g6) Y (an g18) Y λn1 os' vo' bo' tm1 s1' td1 a1=>q n1 os' vo' bo' tm1 s1' td1 J
   rw[List.map_append,List.append_assoc]
   show os.map PkI.key++([p.key]++_)=HS
   rw[hk]
   exact hHS'
end
theorem PkI.key_inj {p o:PkI}(h:p.key=o.key):p.num=o.num/\p.size=o.size/\p.hs=o.hs:=by
 have h1:(p.num,p.size,p.hs)=(o.num,o.size,o.hs):=h
 injection h1 with h1 h2
 injection h2 with h2 h3
 exact⟨h1,h2,h3⟩
theorem OQ: ∀(os ps:List PkI),os.map PkI.key=ps.map PkI.key->os.length=ps.length/\Ar os=Ar ps/\os.all Bd=ps.all Bd/\ ∀pr,BL pr os=BL pr ps
 |[],[],_=>⟨rfl,rfl,rfl,λ_=>rfl⟩
 |[],_::_,h=>by simp at h
 |_::_,[],h=>by simp at h
 |o::os,p::ps,h=>by
  rw[List.map_cons,List.map_cons]at h
  injection h with h1 h2
  obtain⟨g1,g2,g3⟩:=PkI.key_inj h1
  obtain⟨k1,k2,k3,k4⟩:=OQ os ps h2
  have et: ∀(x:PkI) (l:List PkI),Ar (x::l)=x.hs.length+Ar l:=λx l=>by unfold Ar;simp
  have eb:Bd o=Bd p:=by unfold Bd;rw[g1,g2,g3]
  refine⟨by rw[List.length_cons,List.length_cons,k1],by rw[et,et,g3,k2],by rw[List.all_cons,List.all_cons,eb,k3],λpr=> ?_⟩
  show((match pr with|none=>true|some x=>decide (x<o.num))&&AZ o.size 0 o.hs&&BL (some o.num) os)=((match pr with|none=>true|some x=>decide (x<p.num))&&AZ p.size 0 p.hs&&BL (some p.num) ps)
  rw[g1,g2,g3,k4]
theorem H4 {os ps:List PkI}(h:os.map PkI.key=ps.map PkI.key):AY os=AY ps:=by
 obtain⟨h1,h2,h3,h4⟩:=OQ os ps h
 unfold AY
 rw[h1,h2,h3,h4]
section
variable {n:Nat}{v:Value}{l:List Nat}{s:St}{Q:Value->St->Prop}
theorem Amb_ (hbd:s.lim<=s.next)(h:Bs s v l)(hz:l.length<4)(hn:30<=n)(q2:Q (.tuple #[.slice none 0 0, .int .i64 4]) s):W (Ac envS (runF envS n) 81 [v]) s Q:=by
 refine Ji_ λtm h0=> ?_
 have hc:Bs (s.cxN cxN) v l:=h.same rfl rfl
 refine T7.u ?_
 simp only[MN,RR,SS]
 refine Cs_.u ?_
 simp only[PX,RR,SS,reduceCtorEq, ↓reduceIte,h0]
 rw[hc.len' AH]
 try simp only[Ah]
 refine TZ.u ?_
 have ed:decide (wrap64 ((l.length:Nat)-4:Int)<0)=true:=by
  rw[AN J J];simp;omega
 simp only[J7,RR,SS,reduceCtorEq, ↓reduceIte,Ab,h0,ed]
 refine aH LU ?_
 refine MM.u ?_
 simp only[LT,RR,SS]
 refine aB (rs:=[2,3]) (vs:=[.slice none 0 0, .int .i64 4]) rfl (.inl O4) J HZ JG rfl Y ?_
 exact q2
def IxOk (l:List Nat)(ks:List KeyP):Prop:=GOk l/\rAll (l.take (l.length-4))=(ks,some [])
theorem Aax_ (hb:s.lim<=s.next)(hB:Bs s v l)(hby:Byt l)(hz:l.length<=900000)(hn:410000000<=n)
  (q1: ∀(os:List PkI) vo s1,IxOk l (os.map PkI.key)->AY os=0->Ext Any Non s s1->PkR s1 vo os->(∀x,PkF vo os x->s.next<=x)->os.length<=500->Ar os<=10000000->(∃bo,PkW s.next s1 os vo bo)->Q (.tuple #[vo, .int .i64 0]) s1)
  (q2: ∀s1,(∀os:List PkI,AY os=0-> ¬IxOk l (os.map PkI.key))->Ext Any Non s s1->Q (.tuple #[.slice none 0 0, .int .i64 4]) s1):
  W (Ac envS (runF envS n) 39 [v]) s Q:=by
 have hb0:(s.cxN cxN).lim<=(s.cxN cxN).next:=hb
 refine Att_ λtm g0=> ?_
 refine Asp_.u ?_
 simp only[IX_,RR,SS]
 refine Avh_.u ?_
 simp only[FX_,RR,SS,reduceCtorEq, ↓reduceIte,g0]
 have bad: ∀(n':Nat) (tm':T Value) (s1:St) (td':List Item),20<=n'->skim 64 td'=Nk->Ext Any Non (s.cxN cxN) s1->T.get tm' 5=some (.int .i64 4)->(∀os:List PkI,AY os=0-> ¬IxOk l (os.map PkI.key))->
   W (runF envS n' ⟨39,K4,Cn,tm',td', .run, .normal,none⟩) s1 λp s1=>Q p.1 (s1.cxN s.cx):=by
  intro n' tm' s1 td' hn' hT' hx g5 hno
  refine HF_.u ?_ hT'
  simp only[OU,RR,SS,Ag,g5]
  refine aH FP_ ?_
  refine Aae_.u ?_
  simp only[Aq_,RR,SS]
  refine aB (rs:=[2,3]) (vs:=[.slice none 0 0, .int .i64 4]) rfl (.inl Avp_) J JP QS hx.cx Y ?_
  exact q2 _ hno hx.cx'
 have hB':Bs (s.cxN cxN) v l:=hB.same rfl rfl
 by_cases h4:l.length<4
 ·refine Amb_ hb0 hB' h4 J ?_
  rw[A3 (k:=0) rfl,A3 (k:=1) rfl]
  exact bad _ _ _ _ J rfl (Ext.refl _) Y λos _ h=>by have:=h.1.1;omega
 have hBn:Bn (s.cxN cxN) v l:=by
  rcases hB' with⟨_,rfl⟩|h
  ·simp at h4
  ·exact h
 refine AuR_ hb0 hBn hby hz J (λhg s1 w x1 hw=> ?_) λhg s1 x1=> ?_
 ·have y1:Ext Any Non (s.cxN cxN) s1:=x1.any hb0
  obtain⟨body,hbody⟩: ∃b,l.take (l.length-4)=b:=⟨_,rfl⟩
  rw[hbody]at hw
  have hbb:Byt body:=λx hx=>hby x (by rw[<-hbody]at hx;exact List.mem_of_mem_take hx)
  have hbl:body.length<=l.length:=by rw[<-hbody,List.length_take];omega
  rw[A3 (k:=0) rfl,A3 (k:=1) rfl]
  refine HF_.u ?_
  simp only[OU,RR,SS, ↓reduceIte,Ag]
  refine aE FP_ ?_
  refine AeG_.u ?_
  simp only[Za,RR,SS,Nat.reduceEqDiff, ↓reduceIte]
  refine Aih_ (y1.bnd hb0) hw.bn.bs J J λs2 w2 R x2 hRn hwn hr=> ?_
  have y2:=y1.then0 x2 hb0
  have n12:s1.next<=s2.next:=x2.nxt
  have n01:s.next<=s1.next:=y1.nxt
  refine AbD_.u ?_
  simp only[ZD,RR,SS]
  refine ApF_.u ?_
  simp only[Uy_,RR,SS,Nat.reduceEqDiff, ↓reduceIte]
  refine VP_ (hi:=500) (y2.bnd hb0) hr J hbb J λs3 x3 r3=> ?_
  refine Ahd_ (s0:=s2) (R:=R) (v:=w2) (l:=body) (HS:=(rAll body).1) (ST:=(rAll body).2) (cnt:=(rInt 0 500 (some body)).1) (y2.bnd hb0) J hbb (Ep _ _ _) hr.rt hr.lt _ 0 _ _ [] (.slice none 0 0) s2.next _ s3 _ (Nat.zero_add _) (by have:=Ep 0 500 (some body);omega) am rfl x3 r3 ⟨.inl ⟨rfl,rfl,rfl⟩,Nat.le_refl _,λo ho=>(by cases ho),λo ho=>(by cases ho),List.Pairwise.nil⟩ rfl rfl Y Y Y Y λn4 os vo bo tm4 s4 td4 hn4 hT4 x4 r4 ho hk g6 g7=> ?_
  have y4:Ext Any Non (s.cxN cxN) s4:=y2.trans x4 hb0 (λ_ _ _=>trivial) λy hy hg=>by
   have h1:y<s.next:=hy
   rcases hg with hg|hg|hg<;>omega
  obtain⟨hl1,hl2⟩:=Su (rInt 0 500 (some body)).1 (rInt 0 500 (some body)).2
  have hosl:os.length<=500:=by
   have h1:(rAll body).1.length<=(rInt 0 500 (some body)).1:=hl1
   have:=Ep 0 500 (some body)
   rw[<-hk,List.length_map]at h1
   omega
  have hosz: ∀p∈os,p.hs.length<=20000:=λp hp=>by
   have:p.key∈(rAll body).1:=by rw[<-hk];exact List.mem_map_of_mem hp
   exact hl2 _ this
  have htot:Ar os<=10000000:=by
   have h1:=L6 os hosz
   have h2:os.length*20000<=500*20000:=Nat.mul_le_mul_right _ hosl
   omega
  obtain⟨hrow,hrf⟩:=ho.rows
  have hcnt:=Ep 0 500 (some body)
  refine AwM_.u ?_ hT4
  simp only[WQ,RR,SS,g6]
  refine AoH_ (y4.bnd hb0) r4 J J λe p s5 x5 he=> ?_
  have y5:=y4.then0 x5 hb0
  simp only[A4,Dl,B9,PJ (cs:= #[.int .i64 e, .int .i64 p]) (v:= .int .i64 e) Cm (.inl ⟨rfl,rfl⟩),Ag]
  have finB: ∀(n':Nat) (tm':T Value) (s6:St) (td':List Item),20<=n'->skim 64 td'=Jz->Ext Any Non (s.cxN cxN) s6->T.get tm' 39=some (.bool true)->(∀os:List PkI,AY os=0-> ¬IxOk l (os.map PkI.key))->
    W (runF envS n' ⟨39,K4,Cn,tm',td', .run, .normal,none⟩) s6 λp s1=>Q p.1 (s1.cxN s.cx):=by
   intro n' tm' s6 td' hn' hT' hx g39 hno
   refine aH QA_ ?_ hT' g39
   refine AfQ_.u ?_
   simp only[PB_,RR,SS]
   refine aB (rs:=[2,3]) (vs:=[.slice none 0 0, .int .i64 4]) rfl (.inl ArS_) J JP QS hx.cx Y ?_
   exact q2 _ hno hx.cx'
  by_cases he0:e=0
  ·have hST:(rAll body).2=some []:=he.1 he0
   have ed:decide (e=0)=true:=decide_eq_true he0
   simp only[SS,ed,Bool.not_true,reduceCtorEq, ↓reduceIte,g7]
   refine M1 (y5.bnd hb0) (hrow.ext0 x5) J J J λs6 x6=> ?_
   have y6:=y5.then0 x6 hb0
   simp only[Ag]
   by_cases hc:AY os=0
   ·refine aE QA_ ?_ rfl (an hc)
    refine AbA_.u ?_
    simp only[Pq_,RR,SS,Nat.reduceEqDiff, ↓reduceIte,g7]
    refine aB (rs:=[2,3]) (vs:=[vo, .int .i64 0]) rfl (.inl YR_) J JP QS y6.cx Y ?_
    refine q1 os vo _ ⟨hg, ?_⟩ hc y6.cx' (((hrow.ext0 x5).ext0 x6).same rfl rfl) (λx hx=>by have:=hrf x hx;omega) hosl htot ⟨bo,((((ho.pw (by omega:s.next<=s2.next)).ext0 x5).ext0 x6).same rfl rfl)⟩
    rw[hbody]
    exact Prod.ext hk.symm hST
   ·refine finB _ _ s6 _ J rfl y6 (an hc) λos' hc' h=> ?_
    have h1:=h.2
    rw[hbody]at h1
    have h2:os'.map PkI.key=os.map PkI.key:=by rw[hk,h1]
    rw[H4 h2]at hc'
    exact hc hc'
  ·have ed:decide (e=0)=false:=decide_eq_false he0
   simp only[ed,Bool.not_false,CA,AJ,CA,Cx, ↓reduceIte]
   refine finB _ _ s5 _ J rfl y5 Y λos' hc' h=> ?_
   have h1:=h.2
   rw[hbody]at h1
   exact he0 (he.2 (by rw[h1]))
 ·have y1:Ext Any Non (s.cxN cxN) s1:=x1.any hb0
  rw[A3 (k:=0) rfl,A3 (k:=1) rfl]
  exact bad _ _ _ _ J rfl y1 Y λos _ h=>hg h.1
end
def Oa:Nat:=Ao Try.f75
def AG_:Code:=Try.f75.body.getD .skip
theorem HN_:envS.fn.get 75=some Try.f75:=X
theorem Agg_:G0 envS 75 3 Oa AG_:=λh=>
 aK HN_ (h _)
theorem ZN_:Try.f75.results.toList=[.tmp 0]:=X
def Kg_:List Item:=skim 64 [.code AG_]
def LB_:=nx Kg_
def LA_:=nx LB_
def If_:Rg:=λE u r t=>
 sV 0 (.pointer none) t
theorem AqQ_:RegEq 75 3 Oa Kg_ If_:={}
def Vl:Rg:=λE u r t=>
 M.bind (oS (seqP [(0,(some (.bool true)))]) λps=>Br E 149 ps) λv1=>
 M.bind (oS (some v1) λa=>kBox a) λv2=>
 sV 0 v2 t
theorem WJ_:RegEq 75 3 Oa LB_ Vl:={}
theorem WO_: ∃k,LA_= .code .ret::k:=⟨LA_.tail,X⟩
def DV:Nat:=Ao Try.f113
abbrev JW_:Nat:=19
def On_:Code:=Try.f113.body.getD .skip
theorem Yj:envS.fn.get 113=some Try.f113:=X
theorem AdM_:G1 envS 113 19 DV On_:=λh=>
 aK Yj (h _ X)
theorem AtN_:Try.f113.results.toList=[.tmp 2]:=X
def TS_:List Item:=skim 64 [.code On_]
def ZA:=nx TS_
def Vb:=nx ZA
def ZI:=bf Vb
def PN_:=nx ZI
def KH:=nx PN_
def Pv:=nx KH
def Hx_:=bt Pv
def QK:=bf Pv
def PM_:=nx Hx_
def KL_:=nx QK
theorem AhU_:skim 64 PM_.tail=KH:=X
def JT_:Rg:=λE u r t=>
 sV 2 (.int .i64 0) t
theorem Aas_:RegEq 113 19 DV TS_ JT_:={}
def Xh:Rg:=λE u r t=>
 mG t 0 λv4=>
 bN E .lss 4 0 (some v4) λv5=>
 mv (some v5) λv6=>
 sK v6 false (pG t 0) λv7=>
 sK v6 false (oS (some v7) λa=>oS (some (.int .i64 2147483647)) λb=>Cl.get (aBin E .gtr 3 (.tmp 7) (.const (.int .i64 2147483647))) a b) λv8=>
 ae v6 (.bool true) v8 λv9=>
 ac 9 v9 t
theorem Wz_:RegEq 113 19 DV ZA Xh:={}
theorem Yo_:Aj Vb=some 9:=X
def Gv_:Rg:=λE u r t=>
 sV 3 (.int .i64 1) t
theorem Ada_:RegEq 113 19 DV ZI Gv_:={}
def QT_:Rg:=λE u r t=>
 mG t 0 λv10=>
 bC E .shr 3 10 (.int .u64 7) (some v10) λv11=>
 sV 0 v11 t
theorem Atp_:RegEq 113 19 DV PN_ QT_:={}
def Pe:Rg:=λE u r t=>
 mG t 0 λv12=>
 bN E .gtr 12 0 (some v12) λv13=>
 ac 13 v13 t
theorem Vr:RegEq 113 19 DV KH Pe:={}
theorem RF:Aj Pv=some 13:=X
def RZ_:Rg:=λE u r t=>
 mG t 3 λv16=>
 bN E .add 16 1 (some v16) λv17=>
 sV 3 v17 t
theorem AhM_:RegEq 113 19 DV Hx_ RZ_:={}
def Zk:Rg:=λE u r t=>
 mG t 3 λv18=>
 sV 2 v18 t
theorem AsI_:RegEq 113 19 DV QK Zk:={}
def Pv_:Rg:=λE u r t=>
 mG t 0 λv14=>
 bC E .shr 3 14 (.int .u64 7) (some v14) λv15=>
 sV 0 v15 t
theorem AvR_:RegEq 113 19 DV PM_ Pv_:={}
theorem Aqq_: ∃k,KL_= .code .ret::k:=⟨KL_.tail,X⟩
def CQ:Nat:=Ao Try.f76
abbrev FT_:Nat:=61
def Rm_:Code:=Try.f76.body.getD .skip
theorem W5:envS.fn.get 76=some Try.f76:=X
theorem Asw_:G2 envS 76 61 CQ Rm_:=λh=>
 aK W5 (h _ X X)
theorem AsY_:Try.f76.results.toList=[]:=X
def Z5:List Item:=skim 64 [.code Rm_]
def UA:=nx Z5
def Gm_:=bf UA
def ME_:=nx Gm_
def MI_:=nx ME_
def V7:=nx MI_
def Kt:=nx V7
def Sw:=nx Kt
def Ar_:=bt Sw
def Ou:=bf Sw
def CZ_:=nx Ar_
def MZ:=nx Ou
def Zl:=nx CZ_
def Ck_:=bt MZ
def LC:=bf MZ
theorem Aqd_:skim 64 Zl.tail=Kt:=X
theorem Zo_:skim 64 Ck_.tail=LC:=X
def Ayc_:=nx LC
def Uk:Rg:=λE u r t=>
 mG t 0 λv7=>
 bC E .eql 104 7 (.pointer none) (some v7) λv8=>
 mv (some v8) λv9=>
 sK v9 false (pG t 0) λv10=>
 sK v9 false (oS (some v10) λa=>kNil a) λv11=>
 sK v9 false (oS (some v11) λa=>kFld E 149 a 0) λv12=>
 sK v9 false (oS (some v12) λa=>AE E 4 a) λv13=>
 sK v9 false (oS (some v13) λa=>kUn E.P .not a) λv14=>
 ae v9 (.bool true) v14 λv15=>
 ac 15 v15 t
theorem XJ_:RegEq 76 61 CQ Z5 Uk:={}
theorem ArA_:Aj UA=some 15:=X
def YM:Rg:=λE u r t=>
 mG t 1 λv16=>
 cN u r 113 [(some v16)] λv17=>
 sV 4 v17 t
theorem Aei_:RegEq 76 61 CQ Gm_ YM:={}
def Rr_:Rg:=λE u r t=>
 mG t 0 λv18=>
 mG t 0 λv19=>
 kN v19 λv20=>
 fD E 149 1 (some v20) λv21=>
 lD E 4 (some v21) λv22=>
 mv (some v22) λv23=>
 sK v23 false (pG t 4) λv24=>
 sK v23 false (oS (some v24) λa=>oS (some (.int .i64 0)) λb=>Cl.get (aBin E .eql 3 (.tmp 24) (.const (.int .i64 0))) a b) λv25=>
 ae v23 (.bool true) v25 λv26=>
 kN v18 λv27=>
 fD E 149 1 (some v27) λv28=>
 sT E 4 (some v28) (some v26) λ_=>
 M.pure t
theorem Alh_:RegEq 76 61 CQ ME_ Rr_:={}
def Ti_:Rg:=λE u r t=>
 M.bind (A6 E 150) λv5=>
 ac 5 v5 t
theorem Axr_:RegEq 76 61 CQ MI_ Ti_:={}
def Xx:Rg:=λE u r t=>
 mG t 4 λv29=>
 setF 29 v29 t λt1=>
 sV 30 (.int .i64 0) t1
theorem AxD_:RegEq 76 61 CQ V7 Xx:={}
def Rn:Rg:=λE u r t=>
 bI E .lss 3 (.tmp 30) (.tmp 29) (T.get t 30) (T.get t 29) λv31=>
 ac 31 v31 t
theorem Hl_:RegEq 76 61 CQ Kt Rn:={}
theorem JO_:Aj Sw=some 31:=X
def Fd_:Rg:=λE u r t=>
 mG t 30 λv32=>
 sV 6 v32 t
theorem Afz_:RegEq 76 61 CQ Ar_ Fd_:={}
def Fi_:Rg:=λE u r t=>
 mG t 4 λv44=>
 bN E .gtr 44 0 (some v44) λv45=>
 ac 45 v45 t
theorem Xk_:RegEq 76 61 CQ Ou Fi_:={}
def PO_:Rg:=λE u r t=>
 mG t 6 λv33=>
 bM E .sub 3 (.int .i64 4) 33 (some v33) λv34=>
 mG t 1 λv35=>
 mG t 6 λv36=>
 bM E .mul 3 (.int .i64 7) 36 (some v36) λv37=>
 bT E .shr 3 35 37 v35 v37 λv38=>
 bN E .and 38 127 (some v38) λv39=>
 vB E 3 5 (some v39) λv40=>
 bC E .or 5 40 (.int .u8 128) (some v40) λv41=>
 iD E 150 (T.get t 5) (some v34) λv42=>
 sT E 5 (some v42) (some v41) λ_=>
 M.pure t
theorem Adc_:RegEq 76 61 CQ CZ_ PO_:={}
theorem Amd_:Aj MZ=some 45:=X
def U3:Rg:=λE u r t=>
 bN E .add 30 1 (T.get t 30) λv43=>
 sV 30 v43 t
theorem Ade_:RegEq 76 61 CQ Zl U3:={}
def Pc_:Rg:=λE u r t=>
 iD E 150 (T.get t 5) (some (.int .i64 4)) λv46=>
 lD E 5 (some v46) λv47=>
 bC E .and 5 47 (.int .u8 127) (some v47) λv48=>
 iD E 150 (T.get t 5) (some (.int .i64 4)) λv49=>
 sT E 5 (some v49) (some v48) λ_=>
 M.pure t
theorem AhR_:RegEq 76 61 CQ Ck_ Pc_:={}
def UJ_:RdW:=λE call round tm=>
 PD (T.get tm 0) λp0=>
 PD (T.get tm 0) λp1=>
 M.bind (apartO (oS (some p1.1) λa=>kNil a)) λp2=>
 FD E 149 2 (some p2.1) λp3=>
 LD E 22 (some p3.1) λp4=>
 PD (T.get tm 4) λp5=>
 BI E .sub 3 (.const (.int .i64 5)) (.tmp 55) (some (.int .i64 5)) (some p5.1) λp6=>
 M.bind (apartO (M.on (T.get tm 5) λa=>M.on (onO (some p6.1) λv=>some (some v)) λb=>M.on (some none) λc=>Be E 150 a b c)) λp7=>
 LN E .append [22,22] [(some p4.1),(some p7.1)] λp8=>
 M.bind (apartO (oS (some p0.1) λa=>kNil a)) λp9=>
 FD E 149 2 (some p9.1) λp10=>
 fJ [p10,p9,p8,p7,p6,p5,p4,p3,p2,p1,p0] tm
theorem Aew_:DrawEq 76 61 CQ LC [0,0,2,6,14,0,32,96,254,511,1023,2047] UJ_:={}
theorem Aqe_ (E:Env)(call round:Ai)(x50 x51 x52 x53 x54 x55 x56 x57 x58 x59 x60:Value)(tm:T Value)(s:St):AK call round (A5 E CQ 61 (hdC LC)) [x60,x59,x58,x57,x56,x55,x54,x53,x52,x51,x50] tm s=(M.bind (oS (some x60) λa=>oS (some x58) λb=>Ax E 22 a b) λ_=>M.pure tm) s:=X
def Iy:Nat:=Ao Try.f77
def EN_:Code:=Try.f77.body.getD .skip
theorem Wc_:envS.fn.get 77=some Try.f77:=X
theorem Avu_:G2 envS 77 21 Iy EN_:=λh=>
 aK Wc_ (h _ X X)
theorem AmJ_:Try.f77.results.toList=[]:=X
def Mw_:List Item:=skim 64 [.code EN_]
def Bq_:=nx Mw_
def N6:=nx Bq_
def OO:=bt N6
def AaI_:=bf N6
theorem Awi_:skim 64 OO.tail=AaI_:=X
def SO:Rg:=λE u r t=>
 M.bind (oS (T.get t 1) λa=>kBox a) λv3=>
 ac 3 v3 t
theorem Aft_:RegEq 77 21 Iy Mw_ SO:={}
def Ts_:Rg:=λE u r t=>
 mG t 0 λv4=>
 bC E .neq 104 4 (.pointer none) (some v4) λv5=>
 mv (some v5) λv6=>
 sK v6 true (pG t 0) λv7=>
 sK v6 true (oS (some v7) λa=>kNil a) λv8=>
 sK v6 true (oS (some v8) λa=>kFld E 149 a 0) λv9=>
 sK v6 true (oS (some v9) λa=>AE E 4 a) λv10=>
 ae v6 v10 (.bool false) λv11=>
 ac 11 v11 t
theorem AeX_:RegEq 77 21 Iy Bq_ Ts_:={}
theorem Asa_:Aj N6=some 11:=X
def Jv_:RdW:=λE call round tm=>
 PD (T.get tm 0) λp0=>
 PD (T.get tm 0) λp1=>
 M.bind (apartO (oS (some p1.1) λa=>kNil a)) λp2=>
 FD E 149 2 (some p2.1) λp3=>
 LD E 22 (some p3.1) λp4=>
 M.bind (apartO (M.on (T.get tm 3) λa=>M.on (some none) λb=>M.on (some none) λc=>Be E 26 a b c)) λp5=>
 LN E .append [22,22] [(some p4.1),(some p5.1)] λp6=>
 M.bind (apartO (oS (some p0.1) λa=>kNil a)) λp7=>
 FD E 149 2 (some p7.1) λp8=>
 fJ [p8,p7,p6,p5,p4,p3,p2,p1,p0] tm
theorem Amn_:DrawEq 77 21 Iy OO [0,0,2,6,14,0,62,127,255,511] Jv_:={}
theorem Afw_ (E:Env)(call round:Ai)(x12 x13 x14 x15 x16 x17 x18 x19 x20:Value)(tm:T Value)(s:St):AK call round (A5 E Iy 21 (hdC OO)) [x20,x19,x18,x17,x16,x15,x14,x13,x12] tm s=(M.bind (oS (some x20) λa=>oS (some x18) λb=>Ax E 22 a b) λ_=>M.pure tm) s:=X
def Ib:Nat:=Ao Try.f78
def RK_:Code:=Try.f78.body.getD .skip
theorem Tx:envS.fn.get 78=some Try.f78:=X
theorem AqB_:G1 envS 78 24 Ib RK_:=λh=>
 aK Tx (h _ X)
theorem ApV_:Try.f78.results.toList=[.tmp 2, .tmp 3]:=X
def Qg_:List Item:=skim 64 [.code RK_]
def PL_:=nx Qg_
def Un_:=nx PL_
def Lb_:=bf Un_
def UE_:=nx Lb_
def IO_:=bf UE_
def Xa:=nx IO_
def Mf_:Rg:=λE u r t=>
 mv (some (.slice none 0 0)) λv2=>
 setF 2 v2 t λt1=>
 sV 3 (.int .i64 0) t1
theorem Aay_:RegEq 78 24 Ib Qg_ Mf_:={}
def Hh_:Rg:=λE u r t=>
 mG t 0 λv5=>
 bC E .eql 104 5 (.pointer none) (some v5) λv6=>
 mv (some v6) λv7=>
 sK v7 false (pG t 0) λv8=>
 sK v7 false (oS (some v8) λa=>kNil a) λv9=>
 sK v7 false (oS (some v9) λa=>kFld E 149 a 0) λv10=>
 sK v7 false (oS (some v10) λa=>AE E 4 a) λv11=>
 sK v7 false (oS (some v11) λa=>kUn E.P .not a) λv12=>
 ae v7 (.bool true) v12 λv13=>
 sV 4 v13 t
theorem AkR_:RegEq 78 24 Ib PL_ Hh_:={}
theorem AoJ_:Aj Un_=some 4:=X
def RP_:Rg:=λE u r t=>
 mG t 0 λv15=>
 kN v15 λv16=>
 fD E 149 1 (some v16) λv17=>
 lD E 4 (some v17) λv18=>
 sV 14 v18 t
theorem Adm_:RegEq 78 24 Ib Lb_ RP_:={}
theorem AtO_:Aj UE_=some 14:=X
def XK:Rg:=λE u r t=>
 mG t 0 λv19=>
 kN v19 λv20=>
 fD E 149 2 (some v20) λv21=>
 lD E 22 (some v21) λv22=>
 lN E .append [22,22] [(some (.slice none 0 0)),(some v22)] λv23=>
 mv (some v23) λv2=>
 setF 2 v2 t λt1=>
 sV 3 (.int .i64 0) t1
theorem ApI_:RegEq 78 24 Ib IO_ XK:={}
theorem AdR_: ∃k,Xa= .code .ret::k:=⟨Xa.tail,X⟩
theorem NV:fldN envS 149 0=some (0,1,false):=X
theorem Uf:fldN envS 149 1=some (1,1,false):=X
theorem HR:fldN envS 149 2=some (2,1,false):=X
theorem QR_:ptrT envS 104=true:=X
theorem ArR_:C5 envS 149 [(0, .bool true)]=some [.bool true, .bool false, .slice none 0 0]:=X
theorem Px:arrN envS 150=some (5,1):=X
theorem AiC_:DZ envS 150=some (u8l [0,0,0,0,0]):=X
theorem CF_ {E:Env}{s:St}{t:Nat}{xo yo:Operand}{n:Nat}(hn:7*n<=9223372036854775807)(Q:Value->St->Prop):W (Cl.get (aBin E .mul t xo yo) (.int .i64 7) (.int .i64 (n:Nat))) s Q=Q (.int .i64 (7*n:Nat)) s:=K8 (m:=7) hn Q
def digs:Nat->Nat->Nat
 |0,_=>0
 |f+1,m=>if m=0 then 0 else 1+digs f (m/128)
theorem Tt {m:Nat}(h:m<=2147483647):1+digs 5 (m/128)=BU m:=by
 unfold BU
 simp only[digs]
 repeat' split
 all_goals omega
section
variable {n:Nat}{s:St}{Q:Value->St->Prop}
theorem AcS_ {QQ:Value×FrameMode->St->Prop}{N:Nat}(hcx:s.cx=cxN)(q:QQ (.int .i64 (N:Nat), .run) s): ∀(f m k n:Nat) (tm:T Value) (td:List Item),m<128^f->f<=5->k+f<=100->20*f+20<=n->skim 64 td=KH->k+digs f m=N->T.get tm 0=some (.int .i64 (m:Nat))->T.get tm 3=some (.int .i64 (k:Nat))->
  W (runF envS n ⟨113,JW_,DV,tm,td, .run, .normal,none⟩) s QQ:=by
 have fin: ∀(k n:Nat) (tm:T Value) (td:List Item),10<=n->skim 64 td=QK->k=N->T.get tm 3=some (.int .i64 (k:Nat))->W (runF envS n ⟨113,JW_,DV,tm,td, .run, .normal,none⟩) s QQ:=by
  intro k n tm td hn hT' hk g3
  subst hk
  refine AsI_.u ?_ hT'
  simp only[Zk,RR,SS,g3]
  exact aB (rs:=[2]) (vs:=[.int .i64 (k:Nat)]) rfl (.inl Aqq_) J Yj AtN_ hcx Y q
 intro f
 induction f with
 |zero=>
  intro m k n tm td hm hf hk hn hT' hN g0 g3
  have hm0:m=0:=by rw[Nat.pow_zero]at hm;omega
  subst hm0
  refine Vr.u ?_ hT'
  simp only[Pe,RR,SS,Ae,g0]
  refine aE RF ?_
  exact fin k _ _ _ J rfl hN (an g3)
 |succ f ih=>
  intro m k n tm td hm hf hk hn hT' hN g0 g3
  refine Vr.u ?_ hT'
  simp only[Pe,RR,SS,Ae,g0]
  by_cases hm0:m=0
  ·subst hm0
   refine aE RF ?_
   exact fin k _ _ _ J rfl hN (an g3)
  ·refine aH RF ?_
   refine AhM_.u ?_
   have ei:=eiW (i:=k) J
   simp only[RZ_,RR,SS,Nat.reduceEqDiff, ↓reduceIte,Ad,g3,ei]
   refine AvR_.u ?_
   simp only[Pv_,RR,SS,reduceCtorEq, ↓reduceIte,g0]
   rw[S3]
   have hm':m/128<128^f:=by
    rw[Nat.pow_succ]at hm
    exact Nat.div_lt_of_lt_mul (by rw[Nat.mul_comm];exact hm)
   have hN':k+(if m=0 then 0 else 1+digs f (m/128))=N:=hN
   rw[if_neg hm0]at hN'
   exact ih (m/128) (k+1) _ _ _ hm' J J J AhU_ J Y Y
theorem AvV_ {m:Nat}(hm:m<=2147483647)(hn:200<=n)(q:Q (.int .i64 (BU m:Nat)) s):W (Ac envS (runF envS n) 113 [.int .i64 (m:Nat)]) s Q:=by
 refine AdM_ λtm g0=> ?_
 refine Aas_.u ?_
 simp only[JT_,RR,SS]
 refine Wz_.u ?_
 have e1:decide (((m:Nat):Int)<0)=false:=decide_eq_false J
 have e2:decide ((2147483647:Int)<((m:Nat):Int))=false:=decide_eq_false J
 simp only[Xh,RR,SS,reduceCtorEq, ↓reduceIte,Ab,Ae,g0,e1,e2,Bool.false_eq_true]
 refine aE Yo_ ?_
 refine Ada_.u ?_
 simp only[Gv_,RR,SS]
 refine Atp_.u ?_
 simp only[QT_,RR,SS,reduceCtorEq, ↓reduceIte,g0]
 rw[S3]
 refine AcS_ (N:=BU m) rfl ?_ 5 (m/128) 1 _ _ _ (Nat.lt_of_le_of_lt (show m/128<=16777216 by omega) al) (Nat.le_refl _) J J rfl (Tt hm) Y Y
 exact q
end
structure WrI (s0 s:St)(A:Nat)(v:Value)(acc:List Nat)(bk:Nat):Prop where
 x:Ext Any Non s0 s
 o0:Own s A 0 (.bool true)
 o1:Own s A 1 (.bool false)
 o2:Own s A 2 v
 ml:MkS s 1 acc.length (u8l acc) v bk
 hA:s0.next<=A
 hAt:A+3<=s.next
 hb:s0.next<=bk
 dj: ∀x,MkF 1 acc.length bk x-> ¬(A<=x/\x<A+3)
theorem WrI.ext {F G:Nat->Prop}{s0 s s':St}{A:Nat}{v:Value}{acc:List Nat}{bk:Nat}(h:WrI s0 s A v acc bk)(hb0:s0.lim<=s0.next)(x:Ext F G s s')(hG: ∀y,G y->s.next<=y):WrI s0 s' A v acc bk:=by
 have a:=h.hAt
 have ne: ∀y,y<s.next-> ¬G y:=λy hy hg=>by have:=hG y hg;omega
 exact⟨h.x.onG x hb0 λy hy hg=>absurd (hG y hg) (by have:=h.x.nxt;omega),h.o0.ext x (ne _ J),h.o1.ext x (ne _ J),h.o2.ext x (ne _ J),h.ml.ext x λy hy=>ne y (h.ml.lt y hy),h.hA,Nat.le_trans a x.nxt,h.hb,h.dj⟩
theorem WrI.ext0 {F:Nat->Prop}{s0 s s':St}{A:Nat}{v:Value}{acc:List Nat}{bk:Nat}(h:WrI s0 s A v acc bk)(hb0:s0.lim<=s0.next)(x:Ext F Non s s'):WrI s0 s' A v acc bk:=h.ext hb0 x λ_ h=>h.elim
abbrev WrG (A:Nat)(acc:List Nat)(bk:Nat):Nat->Prop:=λx=>(A<=x/\x<A+3)\/MkF 1 acc.length bk x
section
variable {n:Nat}{s:St}{Q:Value->St->Prop}
theorem Aqo_ (hb:s.lim<=s.next)(hn:20<=n)(q: ∀s1,WrI s s1 s.next (.slice none 0 0) [] s1.next->s1.next=s.next+4->Q (.pointer (some ⟨s.next,0,none⟩)) s1):W (Ac envS (runF envS n) 75 []) s Q:=by
 have hb0:(s.cxN cxN).lim<=(s.cxN cxN).next:=hb
 refine Agg_ λtm=> ?_
 refine AqQ_.u ?_
 simp only[If_,RR,SS]
 refine WJ_.u ?_
 simp only[Vl,RR,SS,Ci ArR_]
 refine W.box λs1 n1 x1 o1=> ?_
 have n1':s1.next=s.next+4:=n1
 have y1:Ext Any Non (s.cxN cxN) s1:=x1.any hb0
 have o1':Aa s1 s.next 0 [.bool true, .bool false, .slice none 0 0]:=o1
 refine aB (rs:=[0]) (vs:=[.pointer (some ⟨s.next,0,none⟩)]) rfl (.inl WO_) J HN_ ZN_ y1.cx (by simp[T.get_set];rfl) ?_
 have c1:(s1.cxN s.cx).next=s1.next:=rfl
 exact q _ ⟨y1.cx',(o1' 0 _ rfl).same rfl rfl,(o1' 1 _ rfl).same rfl rfl,(o1' 2 _ rfl).same rfl rfl, .inl ⟨rfl,rfl,rfl⟩,Nat.le_refl _,J,J,λx hx=>absurd hx.1 (Nat.lt_irrefl 0)⟩ n1'
