import Derived.Test.YtndednnianphoaaGreatDoorJo18
noncomputable section
namespace Go.Proofs.YtndednnianphoaaGreatDoor.Am
open Go.RowKit
def FileS.kept (f:FileS)(v:Value)(b:Nat)(m:List Nat):FileS:={f with sv:=v,sbk:=b,sb:=m,lv:= .slice none 0 0,lbk:=0,lb:=[]}
theorem FileI.kept {F:Nat->Prop}{s s':St}{col:Nat->Nat}{c b:Nat}{v:Value}{m:List Nat}{f:FileS}(h:FileI s col c f)(x:Ext F (λy=>y=f.blk\/y=f.blk+1\/MkF 1 f.sb.length f.sbk y) s s')(h0:Own s' f.blk 0 v)(h1:Own s' f.blk 1 (.slice none 0 0))(hm:MkS s' 1 m.length (u8l m) v b)(hb:b=f.sbk/\m.length=f.sb.length\/s.next<=b):FileI s' (Av col s.next (c+1)) c (f.kept v b m):=by
 have b1:=h.o1.1
 refine⟨h0,h1,λy q1 q2=>(AG (by have h3:y<f.blk+2:=q2;omega)).trans (h.k y q1 q2),hm,λy hy=> ?_, .inl ⟨rfl,rfl,rfl⟩,λy hy=>absurd hy.1 (Nat.lt_irrefl 0)⟩
 have hy':MkF 1 m.length b y:=hy
 rcases hb with⟨q1,q2⟩|q1
 ·rw[q1,q2]at hy'
  exact(AG (h.ms.lt y hy')).trans (h.ks y hy')
 ·exact Ch (by have:=hy'.2.1;omega)
theorem FileS.kept_ent (f:FileS)(v:Value)(b:Nat)(m:List Nat):(f.kept v b m).ent=f.ent:=rfl
theorem Oe_:WB_=[]:=by kernel_rfl
section
variable {n D M K j:Nat}{s:St}{k:DkS}{col:Nat->Nat}{a:ByteArray}{Q:Value->St->Prop}
theorem Nt_ (hb:s.lim<=s.next)(hI:DkI s col D M k)(hj:j<k.fs.length)(hK:Own s K 0 (.pointer (some ⟨k.fs[j].blk,0,none⟩)))(kK:1000<=col K)(hlen:k.fs.length<=300)(hz:k.used<=4000000)(hn:20<=n)
  (q: ∀s1 col' v b,DkI s1 col' D M {k with fs:=k.fs.set j (k.fs[j].kept v b (k.fs[j].sb++k.fs[j].lb))}->(∀x,x<s.next->col' x=col x)->Ext Any (λx=>col x<1000) s s1->Q (.tuple #[]) s1):
  W (Ab envS (runF envS n) 37 [.pointer (some ⟨K,0,none⟩)]) s Q:=by
 have hb0:(s.cxN cxN).lim<=(s.cxN cxN).next:=hb
 have hused:=aW hj
 refine OZ_ λtm t0=> ?_
 have g:FileI (s.cxN cxN) col (2+3*j) k.fs[j]:=(hI.fl j hj).same rfl rfl
 have hI0:DkI (s.cxN cxN) col D M k:=hI.same rfl rfl
 have hK0:Own (s.cxN cxN) K 0 (.pointer (some ⟨k.fs[j].blk,0,none⟩)):=hK.same rfl rfl
 have hn0:(s.cxN cxN).next=s.next:=rfl
 have hcx:(s.cxN cxN).cx=cxN:=rfl
 generalize hs0:s.cxN cxN=s0 at *
 have kKs: ∀x,MkF 1 k.fs[j].sb.length k.fs[j].sbk x->x≠K:=λx hx h=>by have:=g.ks x hx;rw[h]at this;omega
 have k0:=g.k k.fs[j].blk (Nat.le_refl _) (by omega)
 have k1:=g.k (k.fs[j].blk+1) (by omega) (by omega)
 refine PS_.u ?_
 simp only[UI,RR,t0,Af]
 refine aE Ct ((hK0.same (s':=dSt s0.mem s0.next) rfl rfl).at') λrd0 hr0=> ?_
 refine aE Ct ((hK0.same (s':=dSt s0.mem s0.next) rfl rfl).at') λrd1 hr1=> ?_
 refine aE Ct ((hK0.same (s':=dSt s0.mem s0.next) rfl rfl).at') λrd2 hr2=> ?_
 try simp only[Af]
 rw[W_dq λs Q=>Bu (s:=s) _ Q]
 dsimp only
 try simp only[Af]
 rw[W_dq λs Q=>Ai (s:=s) HZ (by decide) Q]
 dsimp only
 try simp only[Af]
 refine aE B9 ((g.o0.same (s':=dSt s0.mem s0.next) rfl rfl).at') λrd5 hr5=> ?_
 refine aE Ct ((hK0.same (s':=dSt s0.mem s0.next) rfl rfl).at') λrd6 hr6=> ?_
 try simp only[Af]
 rw[W_dq λs Q=>Bu (s:=s) _ Q]
 dsimp only
 try simp only[Af]
 rw[W_dq λs Q=>Ai (s:=s) D2 (by decide) Q]
 dsimp only
 try simp only[Af]
 refine aE B9 ((g.o1.same (s':=dSt s0.mem s0.next) rfl rfl).at') λrd9 hr9=> ?_
 try simp only[Af,B2,Cb,BQ]
 refine bA ?_
 rw[Oq]
 refine W.appV (s:=oSt s0.mem s0.next) (Nat.le_refl _) PP (g.ms.same rfl rfl) ((g.ml.bs (Nat.lt_of_le_of_lt (show _<=5000000 by omega) (by decide))).same (s':=oSt s0.mem s0.next) rfl rfl).src.g (by decide) (by decide) (by omega) (by rw[BU,Nat.mul_one]) (FO _) λs2 v2 b2 hb2 mk2 x2=>⟨_,_,x2,λrd10 wr10 hr10 hw10=> ?_⟩
 have n2:s0.next<=s2.next:=x2.nxt
 try simp only[Af]
 rw[W_dq λs Q=>Bu (s:=s) _ Q]
 dsimp only
 try simp only[Af]
 rw[W_dq λs Q=>Ai (s:=s) HZ (by decide) Q]
 dsimp only
 try simp only[Af]
 refine bA ?_
 have o0:Own (oSt s2.mem s2.next) k.fs[j].blk 0 k.fs[j].sv:=((g.o0.same (s':=oSt s0.mem s0.next) rfl rfl).ext x2 λh=>by have h1:=g.ks _ h;rw[Nat.add_zero,k0]at h1;omega).same rfl rfl
 have o1:Own (oSt s2.mem s2.next) k.fs[j].blk 1 k.fs[j].lv:=((g.o1.same (s':=oSt s0.mem s0.next) rfl rfl).ext x2 λh=>by have h1:=g.ks _ h;rw[k1]at h1;omega).same rfl rfl
 refine aG B9 mk2.one o0 λs3 n3 x3 o3=>⟨_,_,x3,λrd13 wr13 hr13 hw13=> ?_⟩
 have n3':s3.next=s2.next:=n3
 try simp only[Af]
 rw[W_dq λs Q=>Bu (s:=s) _ Q]
 dsimp only
 try simp only[Af]
 rw[W_dq λs Q=>Ai (s:=s) D2 (by decide) Q,AY]
 refine⟨C7 ?_, ?_⟩
 ·simp only[List.reverse_cons,List.reverse_nil,List.nil_append,List.cons_append,allP,B6,List.take,Cz]
  have lts: ∀x,s0.next<=x-> ¬x<s0.next:=λx h=>by omega
  have g10: ∀x,x∈wr10-> ¬x∈rd0:=λx h1 h2=>kKs x (hw10 x h1).2 (by have:=hr0 x h2;omega)
  have g11: ∀x,x∈wr10-> ¬x∈rd1:=λx h1 h2=>kKs x (hw10 x h1).2 (by have:=hr1 x h2;omega)
  have g13: ∀x,x∈wr13-> ¬x∈rd1:=λx h1 h2=>by
   have h4:=hr1 x h2
   have h3:K=k.fs[j].blk:=by have h5:=(hw13 x h1).2;have h6:=h5.1;have h7:=h5.2;omega
   rw[<-h3]at k0
   omega
  have a10: ∀x,x∈rd10->s0.next<=x->False:=λx h1 h2=>by have h3:x<s0.next:=(hr10 x h1).1;omega
  have b10: ∀x,x∈wr10->s0.next<=x->False:=λx h1 h2=>by have h3:x<s0.next:=(hw10 x h1).1;omega
  simp+contextual [lts,g10,g11,g13]
  exact⟨⟨.inl rfl, .inl rfl, .inl rfl, .inl rfl⟩, .inl rfl, .inl rfl, .inl rfl, .inl rfl, .inl rfl⟩
 ·refine W.cast (Aad_ _ _ _ _ _ _ _ _ _ _ _ _ _ _ _ _ _ _ _ _) ?_
  simp only[SS]
  generalize hs':(⟨(dSt s3.mem s3.next).mem,(dSt s3.mem s3.next).next,s0.lim,_,_,s0.cx⟩:St)=s7
  have m7:s7.mem=s3.mem:=by rw[<-hs'];rfl
  have n7:s7.next=s3.next:=by rw[<-hs'];rfl
  have x7:Ext Any (λx=>x=k.fs[j].blk\/x=k.fs[j].blk+1\/MkF 1 k.fs[j].sb.length k.fs[j].sbk x) s0 s7:=by
   rw[<-hs']
   refine aL (by show s0.next<=s3.next;omega) (λx hx hg=> ?_) ?_ λ_ _ _ _ _=>trivial
   ·have e1:T.get s3.mem x=T.get s2.mem x:=x3.mem x (by show x<s2.next;omega) λh=>hg (.inl (by have h1:=h.1;have h2:=h.2;omega))
    exact e1.trans (x2.mem x hx λh=>hg (.inr (.inr h)))
   ·simp only[List.mem_cons,List.not_mem_nil,or_false]
    rintro m (rfl|rfl|rfl|rfl|rfl|rfl|rfl|rfl|rfl|rfl|rfl|rfl|rfl|rfl|rfl|rfl) x hx hxl<;>first|(cases hx;done)|exact .inr (.inr (hw10 x hx).2)|exact .inl (by have h4:=(hw13 x hx).2;have h1:=h4.1;have h2:=h4.2;omega)
  have o17:Own s7 k.fs[j].blk 1 k.fs[j].lv:=(o1.ext x3 λh=>by have h1:=h.1;have h2:=h.2;omega).same m7 n7
  refine aG B9 rfl o17 λs8 n8 x8 o8=> ?_
  have y8:Ext Any (λx=>x=k.fs[j].blk\/x=k.fs[j].blk+1\/MkF 1 k.fs[j].sb.length k.fs[j].sbk x) s0 s8:=x7.on x8 hb0 λy _ hq=> .inr (.inl (by have h1:=hq.1;have h2:=hq.2;omega))
  have hnb: ∀x,MkF 1 (k.fs[j].sb.length+k.fs[j].lb.length) b2 x->x≠k.fs[j].blk/\x≠k.fs[j].blk+1:=λx hx=>by
   rcases hb2 with h|h
   ·rw[h.1,h.2,Nat.add_zero]at hx
    have h1:=g.ks x hx
    exact⟨λh2=>by rw[h2]at h1;omega,λh2=>by rw[h2]at h1;omega⟩
   ·have h3:=hx.2.1
    have h4:=g.o1.1
    have h6:s0.next<=b2:=h
    exact⟨by omega,by omega⟩
  have mk8:MkS s8 1 (k.fs[j].sb++k.fs[j].lb).length (u8l (k.fs[j].sb++k.fs[j].lb)) v2 b2:=by
   rw[Px,List.length_append]
   have mk3:=(mk2.same (s':=oSt s2.mem s2.next) rfl rfl).ext x3 λx hx h=>(hnb x hx).1 (by have h1:=h.1;have h2:=h.2;omega)
   exact(mk3.same m7 n7).ext x8 λx hx h=>(hnb x hx).2 (by have h1:=h.1;have h2:=h.2;omega)
  have o08:Own s8 k.fs[j].blk 0 v2:=(Own.same o3 m7 n7).ext x8 λh=>by have h1:=h.1;have h2:=h.2;omega
  have hf:=g.kept y8 o08 o8 mk8 (hb2.imp (λh=>⟨h.1,by rw[List.length_append,h.2,Nat.add_zero]⟩) λh=>h)
  have hD:=hI0.file (col':=Av col s0.next (2+3*j+1)) hj y8 (λy hy h=>by
   rcases h with rfl|rfl|h
   ·omega
   ·omega
   ·have:=g.ks y h
    omega) (λy hy=>AG hy) hf (FileS.kept_ent ..)
  refine aC (rs:=[]) (vs:=[]) rfl (.inr Oe_) (by omega) Ej_ QG_ (y8.cx.trans hcx) rfl ?_
  refine q _ (Av col s0.next (2+3*j+1)) v2 b2 (hD.same rfl rfl) (λx hx=>AG (by omega)) ?_
  have y9:=y8.gw (G':=λx=>col x<1000) hb0 λy hy h=>by
   rcases h with rfl|rfl|h
   ·omega
   ·omega
   ·have:=g.ks y h
    omega
  rw[<-hs0]at y9
  exact y9.cx'
theorem Vh_ (hb:s.lim<=s.next)(hI:DkI s col D M k)(hlen:k.fs.length<=300)(hz:k.used<=4000000)(hn:200<=n)
  (q1:k.out=true-> ∀s1 col',After s s1 col col' D M k->Q (.int .i64 10) s1)
  (q2:k.out=false->Az k.fs a=none-> ∀s1 col',After s s1 col col' D M k->Q (.int .i64 6) s1)
  (q3:k.out=false-> ∀j,Az k.fs a=some j->(k.fused=true/\k.left=0)-> ∀s1 col',After s s1 col col' D M {k with out:=true}->Q (.int .i64 10) s1)
  (q4:k.out=false-> ∀j,Az k.fs a=some j-> ∀hj:j<k.fs.length,¬(k.fused=true/\k.left=0)-> ∀s1 col' v b,After s s1 col col' D M {k with fs:=k.fs.set j (k.fs[j].kept v b (k.fs[j].sb++k.fs[j].lb)),steps:=wrap64 (k.steps+1),left:=if k.fused then wrap64 (k.left-1)else k.left}->Q (.int .i64 0) s1):
  W (Ab envS (runF envS n) 12 [.pointer (some ⟨D,0,none⟩), .string a]) s Q:=by
 have hb0:(s.cxN cxN).lim<=(s.cxN cxN).next:=hb
 have hI0:DkI (s.cxN cxN) (Av col s.next 1000) D M k:=(hI.col λx hx=>AG hx).same rfl rfl
 have hag: ∀x,x<s.next->Av col s.next 1000 x=col x:=λx hx=>AG hx
 have hnew: ∀x,s.next<=x->Av col s.next 1000 x=1000:=λx hx=>Ch hx
 have hDlt:D+6<s.next:=hI.d6.1
 generalize hcol1:Av col s.next 1000=col1 at *
 refine WE_ λtm t0 t1=> ?_
 refine Lg_.u ?_
 simp only[Ah_,RR,SS]
 refine PA_.u ?_
 simp only[Be_,RR,SS,reduceCtorEq, ↓reduceIte,t0]
 refine Ku (o:=k.out) hb0 (hI0.d0.same rfl rfl) (hI0.d6.same rfl rfl) (by omega) λs1 m1 n1 x1=> ?_
 have y1:=x1
 have n1':s1.next=s.next:=n1
 have hI1:DkI s1 col1 D M k:=hI0.same m1 n1
 refine Xy_.u ?_
 cases ho:k.out with
 |true=>
  simp only[PA,RR,SS, ↓reduceIte,AL]
  refine aK Xf ?_
  refine TJ_.u ?_
  simp only[EQ_,RR,SS,Nat.reduceEqDiff, ↓reduceIte]
  refine aC (rs:=[4]) (vs:=[.int .i64 10]) rfl (.inl JD_) (by omega) Ic Jf y1.cx (by simp[T.get_set]) ?_
  exact q1 ho _ col1 ⟨hI1.same rfl rfl,hag,(y1.gw hb0 λ_ _ h=>h.elim).cx'⟩
 |false=>
  simp only[PA,RR,SS,reduceCtorEq, ↓reduceIte,AL]
  refine aH Xf ?_
  refine OE_.u ?_
  simp only[Ss,RR,SS,Nat.reduceEqDiff,reduceCtorEq, ↓reduceIte,t0,t1,Ai DD (by decide)]
  refine aB DM hI1.d1.at' ?_
  refine HF (fs:=k.fs) (mx:=k.mx) (hI1.om.same rfl rfl) ?_
  refine W.alloc He_ λs2 n2 x2 o2=> ?_
  have y1':=(y1.thenRd hb0 (D+(0+1))).thenRd hb0 M
  have y2:=y1'.on x2 hb0 λ_ _ h=>h
  have x12:Ext Any Non s1 s2:=(((Ext.refl (F:=Any) (G:=Non) s1).thenRd (y1.bnd hb0) (D+(0+1))).thenRd (y1.bnd hb0) M).on x2 (y1.bnd hb0) λ_ _ h=>h
  have hI2:=hI1.ext0 x12 hlen
  have en:((s1.rdN (D+(0+1))).rdN M).next=s.next:=n1'
  rw[en]at o2 n2 ⊢
  have n2':s2.next=s.next+2:=n2
  have hlv:oneCell (A7 k.fs a)=true:=by
   unfold A7
   cases Az k.fs a with
   |none=>rfl
   |some j=>simp only;cases k.fs[j]?<;>rfl
  refine aG Ct hlv (o2 0 _ rfl) λs3 n3 x3 o3=> ?_
  have x3':Ext Any (λy=>y=s.next) s2 s3:=x3.weak (y2.bnd hb0) (λ_ _ _=>trivial) λy _ hq=>by have h1:=hq.1;have h2:=hq.2;omega
  have y3:Ext Any Non (s.cxN cxN) s3:=y2.on x3' hb0 λy hy h=>by have:y<s.next:=hy;omega
  have hI3:DkI s3 col1 D M k:=hI2.ext x3' hlen λy _ h=>by rw[hnew y (by omega)];exact Nat.le_refl _
  have n3':s3.next=s.next+2:=by omega
  refine PB_.u ?_
  simp only[DT_,RR,SS, ↓reduceIte]
  refine aB Ct o3.at' ?_
  have y4:=y3.thenRd hb0 (s.next+0)
  have hI4:DkI (s3.rdN (s.next+0)) col1 D M k:=hI3.same rfl rfl
  have oK:Own (s3.rdN (s.next+0)) s.next 0 (A7 k.fs a):=o3.same rfl rfl
  have n4:(s3.rdN (s.next+0)).next=s.next+2:=n3'
  generalize s3.rdN (s.next+0)=s4 at *
  cases hj:Az k.fs a with
  |none=>
   have hv:A7 k.fs a= .pointer none:=by unfold A7;rw[hj]
   rw[hv]
   simp only[J7]
   refine aK Z4 ?_
   refine Act_.u ?_
   simp only[Bo_,RR,SS]
   refine aC (rs:=[4]) (vs:=[.int .i64 6]) rfl (.inl MF_) (by omega) Ic Jf y4.cx (by simp[T.get_set]) ?_
   exact q2 ho hj _ col1 ⟨hI4.same rfl rfl,hag,(y4.gw hb0 λ_ _ h=>h.elim).cx'⟩
  |some j=>
   have hlt:=Fo hj
   have hv:A7 k.fs a= .pointer (some ⟨k.fs[j].blk,0,none⟩):=by
    unfold A7
    rw[hj]
    simp only[List.getElem?_eq_getElem hlt]
   rw[hv]at oK ⊢
   simp only[Dj G7]
   refine aH Z4 ?_
   refine Xx_.u ?_
   simp only[FB_,RR,SS,Nat.reduceEqDiff,reduceCtorEq, ↓reduceIte,t0]
   have hD0:=hI4.kd
   refine OV (f2:=37) (y4.bnd hb0) hI4.d3 hI4.d4 hI4.d5 hI4.d6 (by omega) (λhf s9 n9 x9 o9=> ?_) λhf n9 s9 hn9 hcx9 hnx9 x9 o93 o95=> ?_
   ·have y9:Ext Any (λx=>col1 x<1000) (s.cxN cxN) s9:=(y4.gw hb0 λ_ _ h=>h.elim).on x9 hb0 λy _ h=>by rw[h,hD0 (D+6) (by omega) (by omega)];decide
    refine aC (rs:=[4]) (vs:=[.int .i64 10]) rfl (.inl Vy) (by omega) Ic Jf y9.cx (by simp[T.get_set]) ?_
    have hd:Ext Any (λy=>y=D+6) s4 s9:=x9
    have hI9:=hI4.own (st:=k.steps) (fu:=k.fused) (le:=k.left) (ou:=true) hd (λy _ h=>by omega) (hI4.d3.ext hd λh=>by omega) (hI4.d4.ext hd λh=>by omega) (hI4.d5.ext hd λh=>by omega) o9
    exact q3 ho j hj hf _ col1 ⟨hI9.same rfl rfl,hag,(y9.gw hb0 λy hy h=>by rw[<-hag y hy];exact h).cx'⟩
   ·have hd:Ext Any (λy=>y=D+3\/y=D+5) s4 (s9.cxN s4.cx):=x9
    have hI9':=hI4.own (st:=wrap64 (k.steps+1)) (fu:=k.fused) (le:=if k.fused then wrap64 (k.left-1)else k.left) (ou:=k.out) hd (λy _ h=>by omega) (o93.same rfl rfl) (hI4.d4.ext hd λh=>by omega) (o95.same rfl rfl) (hI4.d6.ext hd λh=>by omega)
    have hI9:=hI9'.same (s':=s9) rfl rfl
    have vK:=(oK.ext hd λh=>by omega).same (s':=s9) rfl rfl
    have y9:Ext Any (λx=>col1 x<1000) (s.cxN cxN) (s9.cxN s4.cx):=(y4.gw hb0 λ_ _ h=>h.elim).on hd hb0 λy _ h=>by rw[hD0 y (by omega) (by omega)];decide
    have y9':Ext Any (λx=>col1 x<1000) (s.cxN cxN) s9:=⟨y9.nxt,y9.lim,hcx9,y9.mem,y9.rd,y9.wr⟩
    have hn9':s9.next=s4.next:=hnx9
    show W (Ab envS (runF envS n9) 37 [.pointer (some ⟨s.next,0,none⟩)]) s9 _
    refine Nt_ (K:=s.next) (y9'.bnd hb0) hI9 hlt vK (by rw[hnew _ (by omega)];exact Nat.le_refl _) hlen (by show DkS.used _<=_;exact hz) (by omega) λs10 col' v b hI10 hag10 x10=> ?_
    refine⟨x10.cx.trans hcx9, ?_⟩
    have y10:=y9'.on x10 hb0 λy hy h=>h
    have e8:s4.cx=cxN:=y4.cx
    rw[e8]
    refine aC (rs:=[4]) (vs:=[.int .i64 0]) rfl (.inl Vy) (by omega) Ic Jf rfl (by simp[T.get_set]) ?_
    exact q4 ho j hj hlt hf _ col' v b ⟨hI10.same rfl rfl,λx hx=>(hag10 x (by omega)).trans (hag x hx),(y10.gw hb0 λy hy h=>by rw[<-hag y hy];exact h).cx'⟩
end
def Lq:Nat:=Ar Tryz.f72
def GH_:Code:=Tryz.f72.body.getD .skip
theorem UP:envS.fn.get 72=some Tryz.f72:=by kernel_rfl
theorem Zv_:G1 envS 72 5 Lq GH_:=λh=>
 aI UP (h _ (by kernel_rfl))
theorem Wu_:Tryz.f72.results.toList=[.tmp 2]:=by kernel_rfl
def Vh:List Item:=skim 64 [.code GH_]
def De_:=nx Vh
def Fl_:=nx De_
def BK_:Rg:=λE call round tm=>
 mv (some (.int .u32 0)) λv2=>
 setF 2 v2 tm λtm1=>
 M.pure tm1
theorem Qw_:RegEq 72 5 Lq Vh BK_:={}
def Y6:Rg:=λE call round tm=>
 mv (T.get tm 0) λv3=>
 cN call round 83 [(some (.int .u32 0)),(some v3)] λv4=>
 mv (some v4) λv2=>
 setF 2 v2 tm λtm1=>
 M.pure tm1
theorem LM_:RegEq 72 5 Lq De_ Y6:={}
theorem AbR_: ∃k,Fl_= .code .ret::k:=⟨Fl_.tail,by kernel_rfl⟩
def I4:Nat:=Ar Tryz.f53
def Dc_:Code:=Tryz.f53.body.getD .skip
theorem Sx:envS.fn.get 53=some Tryz.f53:=by kernel_rfl
theorem OC_:G1 envS 53 21 I4 Dc_:=λh=>
 aI Sx (h _ (by kernel_rfl))
theorem Adi_:Tryz.f53.results.toList=[.tmp 2]:=by kernel_rfl
def Ag_:List Item:=skim 64 [.code Dc_]
def QT:=nx Ag_
def HC_:=nx QT
def ER_:=nx HC_
def Tu:Rg:=λE call round tm=>
 mv (some (.slice none 0 0)) λv2=>
 setF 2 v2 tm λtm1=>
 M.pure tm1
theorem Acl_:RegEq 53 21 I4 Ag_ Tu:={}
def YY:Rg:=λE call round tm=>
 mv (T.get tm 0) λv4=>
 cN call round 72 [(some v4)] λv5=>
 mv (some v5) λv3=>
 setF 3 v3 tm λtm1=>
 M.pure tm1
theorem Jk_:RegEq 53 21 I4 QT YY:={}
def Y9:Rg:=λE call round tm=>
 mv (T.get tm 0) λv6=>
 mv (T.get tm 3) λv7=>
 vB E 118 5 (some v7) λv8=>
 mv (T.get tm 3) λv9=>
 bI E .shr 118 (.tmp 9) (.const (.int .u64 8)) (some v9) (some (.int .u64 8)) λv10=>
 vB E 118 5 (some v10) λv11=>
 mv (T.get tm 3) λv12=>
 bI E .shr 118 (.tmp 12) (.const (.int .u64 16)) (some v12) (some (.int .u64 16)) λv13=>
 vB E 118 5 (some v13) λv14=>
 mv (T.get tm 3) λv15=>
 bI E .shr 118 (.tmp 15) (.const (.int .u64 24)) (some v15) (some (.int .u64 24)) λv16=>
 vB E 118 5 (some v16) λv17=>
 M.bind (oS (seqP [(0,(some v8)),(1,(some v11)),(2,(some v14)),(3,(some v17))]) λps=>BY E 23 4 ps) λv18=>
 M.bind (oS (seqP [(0,(some v6)),(1,(some v18))]) λps=>BY E 114 2 ps) λv19=>
 cN call round 43 [(some v19)] λv20=>
 mv (some v20) λv2=>
 setF 2 v2 tm λtm1=>
 M.pure tm1
theorem Zx_:RegEq 53 21 I4 HC_ Y9:={}
theorem Qo_: ∃k,ER_= .code .ret::k:=⟨ER_.tail,by kernel_rfl⟩
def FQ:Nat:=Ar Tryz.f22
def Zy:Code:=Tryz.f22.body.getD .skip
theorem Jd:envS.fn.get 22=some Tryz.f22:=by kernel_rfl
theorem QT_:G1 envS 22 23 FQ Zy:=λh=>
 aI Jd (h _ (by kernel_rfl))
theorem P8:Tryz.f22.results.toList=[.tmp 2, .tmp 3]:=by kernel_rfl
def BX_:List Item:=skim 64 [.code Zy]
def Ir_:=nx BX_
def Fo_:=nx Ir_
def Pb:=nx Fo_
def Iy_:=bt Pb
def Fw_:=bf Pb
def GC_:=nx Iy_
def CU_:=nx Fw_
def En_:Rg:=λE call round tm=>
 mv (some (.slice none 0 0)) λv2=>
 setF 2 v2 tm λtm1=>
 mv (some (.int .i64 0)) λv3=>
 setF 3 v3 tm1 λtm2=>
 M.pure tm2
theorem AbK_:RegEq 22 23 FQ BX_ En_:={}
def YB:Rg:=λE call round tm=>
 mv (T.get tm 0) λv5=>
 lN E .len [23] [(some v5)] λv6=>
 bI E .sub 3 (.tmp 6) (.const (.int .i64 4)) (some v6) (some (.int .i64 4)) λv7=>
 mv (some v7) λv4=>
 setF 4 v4 tm λtm1=>
 M.pure tm1
theorem TT_:RegEq 22 23 FQ Ir_ YB:={}
def OK:Rg:=λE call round tm=>
 mv (T.get tm 4) λv8=>
 bI E .lss 3 (.tmp 8) (.const (.int .i64 0)) (some v8) (some (.int .i64 0)) λv9=>
 mv (some v9) λv10=>
 sK v10 false (oS (T.get tm 0) λa=>M.pure a) λv11=>
 sK v10 false (oS (T.get tm 4) λa=>M.pure a) λv12=>
 sK v10 false (M.on (some v11) λa=>M.on (some none) λb=>M.on (onO (some v12) λv=>some (some v)) λc=>Bz E 23 a b c) λv13=>
 sK v10 false (M.on (some (.func (.func 53) #[] #[])) λf=>M.on (seqO [(some v13)]) λl=>Be call round f l) λv14=>
 sK v10 false (oS (T.get tm 0) λa=>M.pure a) λv15=>
 sK v10 false (M.on (some (.func (.func 52) #[] #[])) λf=>M.on (seqO [(some v14),(some v15)]) λl=>Be call round f l) λv16=>
 sK v10 false (oS (some v16) λa=>kUn E.P .not a) λv17=>
 M.bind (M.on (some v10) λa=>M.on (some (.bool true)) λb=>M.on (some v17) λc=>Aw a b c) λv18=>
 setF 18 v18 tm λtm1=>
 M.pure tm1
theorem Acq_:RegEq 22 23 FQ Fo_ OK:={}
theorem Pa:Ak Pb=some 18:=by kernel_rfl
def PO:Rg:=λE call round tm=>
 mv (some (.slice none 0 0)) λv2=>
 setF 2 v2 tm λtm1=>
 mv (some (.int .i64 4)) λv3=>
 setF 3 v3 tm1 λtm2=>
 M.pure tm2
theorem GR_:RegEq 22 23 FQ Iy_ PO:={}
def ET_:Rg:=λE call round tm=>
 mv (T.get tm 0) λv19=>
 mv (T.get tm 4) λv20=>
 M.bind (M.on (some v19) λa=>M.on (some none) λb=>M.on (onO (some v20) λv=>some (some v)) λc=>Bz E 23 a b c) λv21=>
 cN call round 54 [(some v21)] λv22=>
 mv (some v22) λv2=>
 setF 2 v2 tm λtm1=>
 mv (some (.int .i64 0)) λv3=>
 setF 3 v3 tm1 λtm2=>
 M.pure tm2
theorem XY_:RegEq 22 23 FQ Fw_ ET_:={}
theorem GM_: ∃k,GC_= .code .ret::k:=⟨GC_.tail,by kernel_rfl⟩
theorem Pe_: ∃k,CU_= .code .ret::k:=⟨CU_.tail,by kernel_rfl⟩
def Br:Nat:=Ar Tryz.f43
abbrev GL:Nat:=36
def Q4:Code:=Tryz.f43.body.getD .skip
theorem M8:envS.fn.get 43=some Tryz.f43:=by kernel_rfl
theorem ZY:G1 envS 43 36 Br Q4:=λh=>
 aI M8 (h _ (by kernel_rfl))
theorem VL:Tryz.f43.results.toList=[.tmp 2]:=by kernel_rfl
def Ge_:List Item:=skim 64 [.code Q4]
def Hl_:=nx Ge_
def Yn:=nx Hl_
def J1:=nx Yn
def LU:=nx J1
def GS_:=bt LU
def LQ:=bf LU
def EP_:=nx GS_
def TS:=nx LQ
def Ba_:=nx EP_
def Iu:=nx TS
def DS_:=nx Ba_
def Pv:=nx Iu
def FN_:=bf DS_
def Yp:=bt Pv
def J5:=bf Pv
theorem Nx_:skim 64 FN_.tail=J1:=by kernel_rfl
def SB:=nx Yp
def Sc:=nx J5
def Wh:=nx SB
theorem BL_:skim 64 Wh.tail=Iu:=by kernel_rfl
def PV:Rg:=λE call round tm=>
 mv (some (.slice none 0 0)) λv2=>
 setF 2 v2 tm λtm1=>
 M.pure tm1
theorem Hs_:RegEq 43 36 Br Ge_ PV:={}
def LT:Rg:=λE call round tm=>
 mv (some (.int .i64 0)) λv3=>
 setF 3 v3 tm λtm1=>
 M.pure tm1
theorem Fg_:RegEq 43 36 Br Hl_ LT:={}
def LH:Rg:=λE call round tm=>
 mv (T.get tm 0) λv9=>
 setF 9 v9 tm λtm1=>
 lN E .len [114] [(some v9)] λv10=>
 setF 10 v10 tm1 λtm2=>
 mv (some (.int .i64 0)) λv11=>
 setF 11 v11 tm2 λtm3=>
 M.pure tm3
theorem Zd:RegEq 43 36 Br Yn LH:={}
def Na:Rg:=λE call round tm=>
 bI E .lss 3 (.tmp 11) (.tmp 10) (T.get tm 11) (T.get tm 10) λv12=>
 setF 12 v12 tm λtm1=>
 M.pure tm1
theorem RV:RegEq 43 36 Br J1 Na:={}
theorem QA:Ak LU=some 12:=by kernel_rfl
def Zi:Rg:=λE call round tm=>
 iD E 114 (T.get tm 9) (T.get tm 11) λv13=>
 lD E 23 (some v13) λv14=>
 mv (some v14) λv5=>
 setF 5 v5 tm λtm1=>
 M.pure tm1
theorem Ru_:RegEq 43 36 Br GS_ Zi:={}
def Me:Rg:=λE call round tm=>
 mv (T.get tm 3) λv23=>
 cN call round 65 [(some (.slice none 0 0)),(some v23)] λv24=>
 mv (some v24) λv6=>
 setF 6 v6 tm λtm1=>
 M.pure tm1
theorem AD_:RegEq 43 36 Br LQ Me:={}
def Wc:Rg:=λE call round tm=>
 mv (T.get tm 3) λv15=>
 mv (T.get tm 5) λv16=>
 lN E .len [23] [(some v16)] λv17=>
 bI E .add 3 (.tmp 15) (.tmp 17) (some v15) (some v17) λv18=>
 mv (some v18) λv3=>
 setF 3 v3 tm λtm1=>
 M.pure tm1
theorem Ye_:RegEq 43 36 Br EP_ Wc:={}
def Pj:Rg:=λE call round tm=>
 mv (T.get tm 0) λv25=>
 setF 25 v25 tm λtm1=>
 lN E .len [114] [(some v25)] λv26=>
 setF 26 v26 tm1 λtm2=>
 mv (some (.int .i64 0)) λv27=>
 setF 27 v27 tm2 λtm3=>
 M.pure tm3
theorem Zs:RegEq 43 36 Br TS Pj:={}
def Ur:Rg:=λE call round tm=>
 mv (T.get tm 3) λv19=>
 bI E .lss 3 (.tmp 19) (.const (.int .i64 0)) (some v19) (some (.int .i64 0)) λv20=>
 setF 20 v20 tm λtm1=>
 M.pure tm1
theorem XD_:RegEq 43 36 Br Ba_ Ur:={}
def Hs:Rg:=λE call round tm=>
 bI E .lss 3 (.tmp 27) (.tmp 26) (T.get tm 27) (T.get tm 26) λv28=>
 setF 28 v28 tm λtm1=>
 M.pure tm1
theorem Jy:RegEq 43 36 Br Iu Hs:={}
theorem SH_:Ak DS_=some 20:=by kernel_rfl
theorem Km:Ak Pv=some 28:=by kernel_rfl
def VM:Rg:=λE call round tm=>
 bI E .add 3 (.tmp 11) (.const (.int .i64 1)) (T.get tm 11) (some (.int .i64 1)) λv22=>
 mv (some v22) λv11=>
 setF 11 v11 tm λtm1=>
 M.pure tm1
theorem Zf_:RegEq 43 36 Br FN_ VM:={}
def NX:Rg:=λE call round tm=>
 iD E 114 (T.get tm 25) (T.get tm 27) λv29=>
 lD E 23 (some v29) λv30=>
 mv (some v30) λv8=>
 setF 8 v8 tm λtm1=>
 M.pure tm1
theorem Xz:RegEq 43 36 Br Yp NX:={}
def OC:Rg:=λE call round tm=>
 mv (T.get tm 6) λv35=>
 mv (some v35) λv2=>
 setF 2 v2 tm λtm1=>
 M.pure tm1
theorem UH:RegEq 43 36 Br J5 OC:={}
def Oa:Rg:=λE call round tm=>
 mv (T.get tm 6) λv31=>
 mv (T.get tm 8) λv32=>
 lN E .append [23,23] [(some v31),(some v32)] λv33=>
 mv (some v33) λv6=>
 setF 6 v6 tm λtm1=>
 M.pure tm1
theorem Vb:RegEq 43 36 Br SB Oa:={}
theorem Fz_: ∃k,Sc= .code .ret::k:=⟨Sc.tail,by kernel_rfl⟩
def NZ:Rg:=λE call round tm=>
 bI E .add 3 (.tmp 27) (.const (.int .i64 1)) (T.get tm 27) (some (.int .i64 1)) λv34=>
 mv (some v34) λv27=>
 setF 27 v27 tm λtm1=>
 M.pure tm1
theorem FZ_:RegEq 43 36 Br Wh NZ:={}
def FC:Nat:=Ar Tryz.f65
def Cr_:Code:=Tryz.f65.body.getD .skip
theorem Mt:envS.fn.get 65=some Tryz.f65:=by kernel_rfl
theorem Z9:G2 envS 65 27 FC Cr_:=λh=>
 aI Mt (h _ (by kernel_rfl) (by kernel_rfl))
theorem Zp:Tryz.f65.results.toList=[.tmp 4]:=by kernel_rfl
def XC:List Item:=skim 64 [.code Cr_]
def Qj:=nx XC
def Ie_:=nx Qj
def V5:=bf Ie_
def Z8:=nx V5
def K0:=nx Z8
def RU:=bt K0
def P9:=bf K0
theorem QC_:skim 64 RU.tail=P9:=by kernel_rfl
def Ex_:=nx P9
def Pc:Rg:=λE call round tm=>
 mv (some (.slice none 0 0)) λv4=>
 setF 4 v4 tm λtm1=>
 M.pure tm1
theorem S4:RegEq 65 27 FC XC Pc:={}
def LA:Rg:=λE call round tm=>
 mv (T.get tm 1) λv5=>
 bI E .lss 3 (.tmp 5) (.const (.int .i64 0)) (some v5) (some (.int .i64 0)) λv6=>
 setF 6 v6 tm λtm1=>
 M.pure tm1
theorem Xm:RegEq 65 27 FC Qj LA:={}
theorem Xd:Ak Ie_=some 6:=by kernel_rfl
def KO:Rg:=λE call round tm=>
 mv (T.get tm 1) λv8=>
 mv (T.get tm 0) λv9=>
 lN E .cap [23] [(some v9)] λv10=>
 mv (T.get tm 0) λv11=>
 lN E .len [23] [(some v11)] λv12=>
 bI E .sub 3 (.tmp 10) (.tmp 12) (some v10) (some v12) λv13=>
 bI E .sub 3 (.tmp 8) (.tmp 13) (some v8) (some v13) λv14=>
 mv (some v14) λv1=>
 setF 1 v1 tm λtm1=>
 M.pure tm1
theorem WI:RegEq 65 27 FC V5 KO:={}
def Pu:Rg:=λE call round tm=>
 mv (T.get tm 1) λv15=>
 bI E .gtr 3 (.tmp 15) (.const (.int .i64 0)) (some v15) (some (.int .i64 0)) λv16=>
 setF 16 v16 tm λtm1=>
 M.pure tm1
theorem Hh_:RegEq 65 27 FC Z8 Pu:={}
theorem VE:Ak K0=some 16:=by kernel_rfl
def HO_:Rg:=λE call round tm=>
 mv (T.get tm 0) λv17=>
 mv (T.get tm 0) λv18=>
 lN E .cap [23] [(some v18)] λv19=>
 M.bind (M.on (some v17) λa=>M.on (some none) λb=>M.on (onO (some v19) λv=>some (some v)) λc=>Bz E 23 a b c) λv20=>
 mv (T.get tm 1) λv21=>
 lN E .append [23,3] [(some v20),(some v21)] λv22=>
 mv (T.get tm 0) λv23=>
 lN E .len [23] [(some v23)] λv24=>
 M.bind (M.on (some v22) λa=>M.on (some none) λb=>M.on (onO (some v24) λv=>some (some v)) λc=>Bz E 23 a b c) λv25=>
 mv (some v25) λv0=>
 setF 0 v0 tm λtm1=>
 M.pure tm1
theorem Xs_:RegEq 65 27 FC RU HO_:={}
def PF:Rg:=λE call round tm=>
 mv (T.get tm 0) λv26=>
 mv (some v26) λv4=>
 setF 4 v4 tm λtm1=>
 M.pure tm1
theorem AY_:RegEq 65 27 FC P9 PF:={}
theorem WY: ∃k,Ex_= .code .ret::k:=⟨Ex_.tail,by kernel_rfl⟩
def Cp:Nat:=Ar Tryz.f52
abbrev LU_:Nat:=26
def Wm:Code:=Tryz.f52.body.getD .skip
theorem IS:envS.fn.get 52=some Tryz.f52:=by kernel_rfl
theorem Yk_:G2 envS 52 26 Cp Wm:=λh=>
 aI IS (h _ (by kernel_rfl) (by kernel_rfl))
theorem M0:Tryz.f52.results.toList=[.tmp 4]:=by kernel_rfl
def Ec_:List Item:=skim 64 [.code Wm]
def Uo:=nx Ec_
def Ot:=nx Uo
def Ip_:=bt Ot
def CR_:=bf Ot
def YQ:=nx Ip_
def Jt:=nx CR_
def M3:=nx Jt
def Bt_:=bt M3
def Im_:=bf M3
def MH:=nx Bt_
def Dg_:=nx Im_
def Pd:=nx MH
def WG:=bt Pd
def GW_:=bf Pd
def Xe:=nx WG
theorem Na_:skim 64 GW_.tail=Jt:=by kernel_rfl
def Hj_:Rg:=λE call round tm=>
 mv (some (.bool false)) λv4=>
 setF 4 v4 tm λtm1=>
 M.pure tm1
theorem TQ_:RegEq 52 26 Cp Ec_ Hj_:={}
def VO:Rg:=λE call round tm=>
 mv (T.get tm 0) λv6=>
 lN E .len [23] [(some v6)] λv7=>
 mv (T.get tm 1) λv8=>
 lN E .len [23] [(some v8)] λv9=>
 bI E .neq 3 (.tmp 7) (.tmp 9) (some v7) (some v9) λv10=>
 setF 10 v10 tm λtm1=>
 M.pure tm1
theorem Ms_:RegEq 52 26 Cp Uo VO:={}
theorem Wi:Ak Ot=some 10:=by kernel_rfl
def Bj_:Rg:=λE call round tm=>
 mv (some (.bool false)) λv4=>
 setF 4 v4 tm λtm1=>
 M.pure tm1
theorem PD_:RegEq 52 26 Cp Ip_ Bj_:={}
def Hg_:Rg:=λE call round tm=>
 mv (T.get tm 0) λv11=>
 lN E .len [23] [(some v11)] λv12=>
 setF 12 v12 tm λtm1=>
 mv (some (.int .i64 0)) λv13=>
 setF 13 v13 tm1 λtm2=>
 M.pure tm2
theorem UE_:RegEq 52 26 Cp CR_ Hg_:={}
theorem VW_: ∃k,YQ= .code .ret::k:=⟨YQ.tail,by kernel_rfl⟩
def Ph:Rg:=λE call round tm=>
 bI E .lss 3 (.tmp 13) (.tmp 12) (T.get tm 13) (T.get tm 12) λv14=>
 setF 14 v14 tm λtm1=>
 M.pure tm1
theorem XA:RegEq 52 26 Cp Jt Ph:={}
theorem CD_:Ak M3=some 14:=by kernel_rfl
def DI_:Rg:=λE call round tm=>
 mv (T.get tm 13) λv15=>
 mv (some v15) λv5=>
 setF 5 v5 tm λtm1=>
 M.pure tm1
theorem SM_:RegEq 52 26 Cp Bt_ DI_:={}
def SV:Rg:=λE call round tm=>
 mv (some (.bool true)) λv4=>
 setF 4 v4 tm λtm1=>
 M.pure tm1
theorem PF_:RegEq 52 26 Cp Im_ SV:={}
def EK_:RdW:=λE call round tm=>
 PD (T.get tm 0) λp0=>
 PD (T.get tm 5) λp1=>
 ID E 23 (some p0.1) (some p1.1) λp2=>
 LD E 5 (some p2.1) λp3=>
 PD (T.get tm 1) λp4=>
 PD (T.get tm 5) λp5=>
 ID E 23 (some p4.1) (some p5.1) λp6=>
 LD E 5 (some p6.1) λp7=>
 fJ [p7,p6,p5,p4,p3,p2,p1,p0] tm
theorem Ua_:DrawEq 52 26 Cp MH [0,0,3,7,0,0,48,112,255] EK_:={}
theorem Ln_ (E:Env)(call round:Ah)(x16 x17 x18 x19 x20 x21 x22 x23:Value)(tm:T Value)(s:St):AH call round (Bg E Cp 26 (hdC MH)) [x23,x22,x21,x20,x19,x18,x17,x16] tm s=(M.bind (oS (some x19) λa=>oS (some x23) λb=>Cl.get (aBin E .neq 5 (.tmp 19) (.tmp 23)) a b) λv24=>setT 24 v24 tm λtm1=>M.pure tm1) s:=by kernel_rfl
theorem OU_: ∃k,Dg_= .code .ret::k:=⟨Dg_.tail,by kernel_rfl⟩
theorem TY:Ak Pd=some 24:=by kernel_rfl
def In_:Rg:=λE call round tm=>
 mv (some (.bool false)) λv4=>
 setF 4 v4 tm λtm1=>
 M.pure tm1
theorem Mp_:RegEq 52 26 Cp WG In_:={}
def Tt:Rg:=λE call round tm=>
 bI E .add 3 (.tmp 13) (.const (.int .i64 1)) (T.get tm 13) (some (.int .i64 1)) λv25=>
 mv (some v25) λv13=>
 setF 13 v13 tm λtm1=>
 M.pure tm1
theorem WW_:RegEq 52 26 Cp GW_ Tt:={}
theorem Ol_: ∃k,Xe= .code .ret::k:=⟨Xe.tail,by kernel_rfl⟩
def Jq:Nat:=Ar Tryz.f54
def WO:Code:=Tryz.f54.body.getD .skip
theorem LZ:envS.fn.get 54=some Tryz.f54:=by kernel_rfl
theorem Yt_:G1 envS 54 8 Jq WO:=λh=>
 aI LZ (h _ (by kernel_rfl))
theorem X5:Tryz.f54.results.toList=[.tmp 2]:=by kernel_rfl
def Sg:List Item:=skim 64 [.code WO]
def WH:=nx Sg
def Zk:=nx WH
def UF:=bf Zk
def GJ_:=nx UF
def T6:Rg:=λE call round tm=>
 mv (some (.slice none 0 0)) λv2=>
 setF 2 v2 tm λtm1=>
 M.pure tm1
theorem Aas_:RegEq 54 8 Jq Sg T6:={}
def Cp_:Rg:=λE call round tm=>
 mv (T.get tm 0) λv3=>
 bI E .eql 23 (.tmp 3) (.const (.slice none 0 0)) (some v3) (some (.slice none 0 0)) λv4=>
 setF 4 v4 tm λtm1=>
 M.pure tm1
theorem TW_:RegEq 54 8 Jq WH Cp_:={}
theorem WK_:Ak Zk=some 4:=by kernel_rfl
def Rt:Rg:=λE call round tm=>
 M.bind (oS (seqP []) λps=>BY E 23 0 ps) λv5=>
 mv (T.get tm 0) λv6=>
 lN E .append [23,23] [(some v5),(some v6)] λv7=>
 mv (some v7) λv2=>
 setF 2 v2 tm λtm1=>
 M.pure tm1
theorem KY_:RegEq 54 8 Jq UF Rt:={}
theorem GD_: ∃k,GJ_= .code .ret::k:=⟨GJ_.tail,by kernel_rfl⟩
section
variable {s:St}
def Bn (s:St)(v:Value)(l:List Nat):Prop:= ∃b o c,v= .slice (some ⟨b,o,none⟩) l.length c/\l.length<=c%capU/\BH c 1=true/\Row s b o (u8l l)
theorem Bn.bs {v:Value}{l:List Nat}(h:Bn s v l):Bs s v l:= .inr h
theorem Bn.ext {F G:Nat->Prop}{s s':St}{v:Value}{l:List Nat}(h:Bn s v l)(e:Ext F G s s')(hG: ∀x,BsF v x-> ¬G x):Bn s' v l:=by
 rcases h.bs.ext e hG with⟨rfl,_⟩|h'
 ·obtain⟨_,_,_,e,_⟩:=h;cases e
 ·exact h'
theorem Bn.ext0 {F:Nat->Prop}{s s':St}{v:Value}{l:List Nat}(h:Bn s v l)(e:Ext F Non s s'):Bn s' v l:=h.ext e λ_ _=>id
def Byt (l:List Nat):Prop:= ∀x∈l,x<256
theorem FO_: ∀{l:List Nat},Byt l->u8s (u8l l)=some l
 |[],_=>rfl
 |n::l,h=>by
  have e:=FO_ (l:=l) λx hx=>h x (by simp[hx])
  show(match Value.int .u8 (.ofNat n),u8s (u8l l)with| .int .u8 (.ofNat n),some ns=>bif Nat.blt n 256 then some (n::ns)else none|_,_=>none)=_
  rw[e]
  simp -implicitDefEqProofs only[Bv (h n (by simp)),cond_true]
theorem W.rdB {b o:Nat}{l:List Nat}{Q:List Value->St->Prop}(h:Row s b o (u8l l))(q: ∀s1,s1.mem=s.mem->s1.next=s.next->Ext (In b o l.length) Non s s1->Q (u8l l) s1):W (Am.rdL l.length ⟨b,o,none⟩) s Q:=by
 have hl:l.length=(u8l l).length:=(BU l).symm
 rw[hl]
 refine W.rdL h λs1 e1 e2 e3=>q s1 e1 e2 ?_
 rw[BU]at e3
 exact e3
theorem W.more {sum:Nat}{v:Value}{l:List Nat}{Q:Value->St->Prop}(h:Bn s v l)(hl:Byt l)(hz:l.length<=4611686018427387904)(hs:sum<4294967296)
  (q: ∀s1,s1.mem=s.mem->s1.next=s.next->Ext (BsF v) Non s s1->Q (.int .u32 (CX sum l:Nat)) s1):W (Ds [.int .u32 (sum:Nat),v]) s Q:=by
 obtain⟨b,o,c,rfl,h1,h2,h3⟩:=h
 refine W.chk (by rw[Bv hs];simpa using hz) (W.bind (W.rdB h3 λs1 e1 e2 e3=>W.on (FO_ hl) ?_))
 rw[Ju]
 exact W.pure (q s1 e1 e2 e3)
end
theorem ZF_ {n:Nat}{s:St}{v:Value}{l:List Nat}{Q:Value->St->Prop}(hn:10<=n)(h:Bn s v l)(hl:Byt l)(hz:l.length<=4611686018427387904)
  (q: ∀s1,s1.mem=s.mem->s1.next=s.next->Ext (BsF v) Non s s1->Q (.int .u32 (CX 0 l:Nat)) s1):W (Ab envS (runF envS n) 72 [v]) s Q:=by
 refine Zv_ λtm h0=> ?_
 refine Qw_.u ?_
 simp -implicitDefEqProofs only[BK_,RR,SS]
 refine LM_.u ?_
 simp -implicitDefEqProofs only[Y6,RR,SS,reduceCtorEq, ↓reduceIte,h0]
 refine W.orc (m:=Ds) (by kernel_rfl) ?_
 change W (Ds [.int .u32 ((0:Nat):Int),v]) _ _
 refine W.more (s:=s.cxN cxN) h hl hz (by decide) λs1 e1 e2 e3=> ?_
 refine aC (rs:=[2]) (vs:=[.int .u32 (CX 0 l:Nat)]) rfl (.inl AbR_) (by omega) UP Wu_ e3.cx (by simp[T.get_set]) ?_
 refine q _ e1 e2 ⟨e3.nxt,e3.lim,rfl,e3.mem,e3.rd,e3.wr⟩
theorem Bk:slN envS 23=some 1:=by kernel_rfl
theorem E0:slN envS 114=some 1:=by kernel_rfl
theorem Lz:elT envS 23=some (1,1,[.int .u8 0]):=by kernel_rfl
theorem IE:appT envS 23 23=some (1,1,false,[.int .u8 0]):=by kernel_rfl
theorem KR_:appT envS 23 3=some (1,1,true,[.int .u8 0]):=by kernel_rfl
theorem D1:tyS envS 23=some (1,false):=by kernel_rfl
theorem VZ:tyS envS 5=some (1,false):=by kernel_rfl
theorem N2 (n:Nat):rep n [Value.int .u8 0]=List.replicate n (Value.int .u8 0):=by
 induction n with
 |zero=>rfl
 |succ n ih=>
  show [Value.int .u8 0]++rep n [Value.int .u8 0]=_
  rw[ih];rfl
structure Room (s s':St)(N:Nat)(v:Value)(b:Nat):Prop where
 val:v= .slice (some ⟨b,0,none⟩) 0 (capU*((b+N*1)*1024+1)+N)
 new:s.next<=b
 own:An s' b 0 (List.replicate N (.int .u8 0))
 tok:T.get s'.mem (b+N)=some (.O (.tok false 1025))
 lt:b+N<s'.next
theorem AcJ_ {n N:Nat}{s:St}{Q:Value->St->Prop}(hbd:s.lim<=s.next)(hn:20<=n)(hN:0<N)(hN2:N<=1000000)
  (q: ∀s1 v b,Room s s1 N v b->Ext Non Non s s1->Q v s1):W (Ab envS (runF envS n) 65 [.slice none 0 0, .int .i64 (N:Nat)]) s Q:=by
 refine Z9 λtm h0 h1=> ?_
 refine S4.u ?_
 simp -implicitDefEqProofs only[Pc,RR,SS]
 refine Xm.u ?_
 simp -implicitDefEqProofs only[LA,RR,SS,Nat.reduceEqDiff, ↓reduceIte,AC,h1]
 refine aH Xd ?_
 refine WI.u ?_
 simp -implicitDefEqProofs only[KO,RR,SS,Nat.reduceEqDiff,reduceCtorEq, ↓reduceIte,Bq,h0,h1,KS Bk,B0 Bk]
 refine Hh_.u ?_
 have e1:wrap64 ((N:Int)-wrap64 (((0:Nat):Int)-((0:Nat):Int)))=(N:Nat):=by
  rw[Bc (n:=((0:Nat):Int)-((0:Nat):Int)) (by simp) (by simp),Bc]<;>simp<;>omega
 simp -implicitDefEqProofs only[Pu,RR,SS, ↓reduceIte,Bp,e1]
 refine aK VE ?_ rfl (by simp[T.get_set,hN])
 refine Xs_.u ?_
 simp -implicitDefEqProofs only[HO_,RR,SS,Nat.reduceEqDiff,reduceCtorEq, ↓reduceIte,h0,KS Bk,TL (lo:=none) (hi:=some (.int .i64 ((0:Nat):Int))) Bk rfl rfl,H1]
 refine W.appNilT (s:=s.cxN cxN) hbd (n:=N) (l:=rep N [.int .u8 0]) KR_ (Lj_ (by omega)) hN (by decide) (by decide) (by omega) (by rw[N2];simp) (by rw[N2];simp[oneCell]) λs2 v b hf hT x2=> ?_
 obtain⟨rfl,hnew,hown,hlen,htok,hlt⟩:=hf
 have hc:=HP (q:=(b+N*1)*1024+1) (BW (n:=N) (by omega))
 simp -implicitDefEqProofs only[B0 Bk,NH (l:=0) (h:=0) (lo:=none) (hi:=some (.int .i64 ((0:Nat):Int))) Bk rfl rfl (Nat.le_refl _) (Nat.zero_le _) (FX (m:=b+N*1) (BW (n:=N) (by omega)) (by decide)), ↓reduceIte,hc,hN]
 refine AY_.u ?_ QC_
 simp -implicitDefEqProofs only[PF,RR,SS, ↓reduceIte]
 refine aC (rs:=[4]) (vs:=[.slice (some ⟨b,0,none⟩) 0 (capU*((b+N*1)*1024+1)+N)]) rfl (.inl WY) (by omega) Mt Zp x2.cx (by simp[T.get_set]) ?_
 exact q _ _ b ⟨rfl,hnew,λi v e=>(hown i v (by rw[N2];exact e)).same rfl rfl,by rw[Nat.mul_one]at hT;exact hT,by rw[Nat.mul_one]at hlt;exact hlt⟩ ⟨x2.nxt,x2.lim,rfl,x2.mem,x2.rd,x2.wr⟩
def tot (l:List (Value×List Nat)):Nat:=(l.map λp=>p.2.length).sum
theorem Us_ {l:List (Value×List Nat)}{i:Nat}{p:Value×List Nat}(h:l[i]?=some p):tot (l.take (i+1))=tot (l.take i)+p.2.length:=by
 unfold tot
 rw[List.take_add_one,h]
 simp
theorem NC {l:List (Value×List Nat)}(i:Nat):tot (l.take i)<=tot l:=by
 unfold tot
 have:(l.map λp=>p.2.length).sum=((l.take i).map λp=>p.2.length).sum+((l.drop i).map λp=>p.2.length).sum:=by
  rw[<-List.sum_append,<-List.map_append,List.take_append_drop]
 omega
def CL (b o:Nat)(l:List (Value×List Nat)):Nat->Prop:=λx=>In b o l.length x\/ ∃p∈l,BsF p.1 x
structure Parts (s:St)(b o:Nat)(l:List (Value×List Nat)):Prop where
 row:Row s b o (l.map (·.1))
 bs: ∀p∈l,Bs s p.1 p.2
theorem Parts.same {s s':St}{b o:Nat}{l:List (Value×List Nat)}(h:Parts s b o l)(hm:s'.mem=s.mem)(hn:s'.next=s.next):Parts s' b o l:=
 ⟨λi v e=>(h.row i v e).same hm hn,λp hp=>(h.bs p hp).same hm hn⟩
theorem Parts.ext0 {F:Nat->Prop}{s s':St}{b o:Nat}{l:List (Value×List Nat)}(h:Parts s b o l)(e:Ext F Non s s'):Parts s' b o l:=⟨h.row.ext0 e,λp hp=>(h.bs p hp).ext0 e⟩
section
variable {b o c:Nat}{parts:List (Value×List Nat)}
theorem Parts.get {s:St}(h:Parts s b o parts){i:Nat}(hi:i<parts.length):At s b (o+i*1) parts[i].1/\Bs s parts[i].1 parts[i].2:=by
 refine⟨?_,h.bs _ (List.getElem_mem hi)⟩
 rw[Nat.mul_one]
 exact h.row i _ (by simp[hi])
theorem OL {i:Nat}(hi:i<parts.length):tot (parts.take (i+1))=tot (parts.take i)+parts[i].2.length:=Us_ (List.getElem?_eq_getElem hi)
theorem Bu_ (ht:tot parts<=1000000)(hlen:parts.length<=4611686018427387904){F:Nat->Prop}(hF: ∀x,CL b o parts x->F x){Q:Value×FrameMode->St->Prop}{s0:St}(hb0:s0.lim<=s0.next)(hp:Parts s0 b o parts): ∀(k i n:Nat) (tm:T Value) (s:St) (td:List Item),i+k=parts.length->7*k+7<=n->skim 64 td=J1->Ext F Non s0 s->s.mem=s0.mem->s.next=s0.next->
  T.get tm 0=some (.slice (some ⟨b,o,none⟩) parts.length c)->T.get tm 9=some (.slice (some ⟨b,o,none⟩) parts.length c)->T.get tm 10=some (.int .i64 (parts.length:Nat))->T.get tm 11=some (.int .i64 (i:Nat))->T.get tm 3=some (.int .i64 (tot (parts.take i):Nat))->
  (∀n' tm' s1 td',n<=n'+7*k+2->skim 64 td'=LQ->Ext F Non s0 s1->s1.mem=s0.mem->s1.next=s0.next->T.get tm' 0=some (.slice (some ⟨b,o,none⟩) parts.length c)->T.get tm' 3=some (.int .i64 (tot parts:Nat))->W (runF envS n' ⟨43,GL,Br,tm',td', .run, .normal,none⟩) s1 Q)->
  W (runF envS n ⟨43,GL,Br,tm,td, .run, .normal,none⟩) s Q:=by
 intro k
 induction k with
 |zero=>
  intro i n tm s td hi hn hT hx hm hnx h0 h9 h10 h11 h3 q
  refine RV.u ?_ hT
  simp -implicitDefEqProofs only[Na,RR,SS,AC,h10,h11]
  refine aH QA ?_
  have e:tot (parts.take i)=tot parts:=by rw[show i=parts.length by omega,List.take_length]
  rw[e]at h3
  exact q _ _ _ _ (by omega) rfl hx hm hnx (by simp[T.get_set,h0]) (by simp[T.get_set,h3])
 |succ k ih=>
  intro i n tm s td hi hn hT hx hm hnx h0 h9 h10 h11 h3 q
  have hil:i<parts.length:=by omega
  obtain⟨g1,g2⟩:=hp.get hil
  have hlt:=OL hil
  have htl:=NC (l:=parts) (i+1)
  refine RV.u ?_ hT
  simp -implicitDefEqProofs only[Na,RR,SS,AC,h10,h11]
  refine aK QA ?_
  refine Ru_.u ?_
  simp -implicitDefEqProofs only[Zi,RR,SS,Nat.reduceEqDiff, ↓reduceIte,h9,h11,By E0 hil]
  refine aB D1 (g1.same hm hnx) ?_
  refine Ye_.u ?_
  have ew:wrap64 ((tot (parts.take i):Nat)+(parts[i].2.length:Nat):Int)=(tot (parts.take (i+1)):Nat):=by
   rw[Bc (by omega) (by omega),hlt];simp
  have ei:wrap64 ((i:Nat)+1:Int)=((i+1:Nat):Int):=by
   have:parts.length<=4611686018427387904:=hlen
   rw[Bc (by omega) (by omega)];simp
  have hx1:Ext F Non s0 (s.rdN (b+(o+i*1))):=hx.trans (Ext.rdN (F:=F) s _ λ_=>hF _ (.inl ⟨by omega,by omega⟩)) hb0 (λ_ _ h=>h) λ_ _ h=>h
  simp -implicitDefEqProofs only[Wc,RR,SS,Nat.reduceEqDiff, ↓reduceIte,AO,h3,Bs.len (s:=s.rdN (b+(o+i*1))) (g2.same hm hnx) Bk,ew]
  refine XD_.u ?_
  simp -implicitDefEqProofs only[Ur,RR,SS, ↓reduceIte,AC]
  refine aH SH_ ?_
  refine Zf_.u ?_
  simp -implicitDefEqProofs only[VM,RR,SS,Nat.reduceEqDiff, ↓reduceIte,AO,h11,ei]
  exact ih (i+1) _ _ _ _ (by omega) (by omega) Nx_ hx1 hm hnx (by simp[T.get_set,h0]) (by simp[T.get_set,h9]) (by simp[T.get_set,h10]) (by simp[T.get_set]) (by simp[T.get_set]) λn' tm' s1 td' e=>q n' tm' s1 td' (by omega)
end
section
variable {b o c:Nat}{parts:List (Value×List Nat)}
def fl (l:List (Value×List Nat)):List Nat:=(l.map (·.2)).flatten
theorem DX (l:List (Value×List Nat)):(fl l).length=tot l:=by
 unfold fl tot
 rw[List.length_flatten,List.map_map]
 rfl
theorem Xl_ {l:List (Value×List Nat)}{i:Nat}(h:i<l.length):fl (l.take (i+1))=fl (l.take i)++l[i].2:=by
 unfold fl
 rw[List.take_add_one,List.getElem?_eq_getElem h,List.map_append,List.flatten_append]
 simp
theorem ZM_ (ht:tot parts<=1000000)(hlen:parts.length<=4611686018427387904){F:Nat->Prop}(hF: ∀x,CL b o parts x->F x){Q:Value×FrameMode->St->Prop}{s0:St}(hb0:s0.lim<=s0.next)(hp:Parts s0 b o parts){nb cc:Nat}(hnb:s0.next<=nb)(hcc:cc%capU=tot parts){z:Nat}{ce:Cell}(hz:nb+tot parts<=z): ∀(k i n:Nat) (tm:T Value) (s:St) (td:List Item),i+k=parts.length->6*k+6<=n->skim 64 td=Iu->Ext F Non s0 s->Fj s nb 0 (tot parts)->An s nb 0 (u8l (fl (parts.take i)))->(T.get s.mem z=some ce/\z<s.next)->
  T.get tm 25=some (.slice (some ⟨b,o,none⟩) parts.length c)->T.get tm 26=some (.int .i64 (parts.length:Nat))->T.get tm 27=some (.int .i64 (i:Nat))->T.get tm 6=some (.slice (some ⟨nb,0,none⟩) (tot (parts.take i)) cc)->
  (∀n' tm' s1 td',n<=n'+6*k+2->skim 64 td'=J5->Ext F Non s0 s1->An s1 nb 0 (u8l (fl parts))->(T.get s1.mem z=some ce/\z<s1.next)->T.get tm' 6=some (.slice (some ⟨nb,0,none⟩) (tot parts) cc)->W (runF envS n' ⟨43,GL,Br,tm',td', .run, .normal,none⟩) s1 Q)->
  W (runF envS n ⟨43,GL,Br,tm,td, .run, .normal,none⟩) s Q:=by
 intro k
 induction k with
 |zero=>
  intro i n tm s td hi hn hT hx hown hrow hce h25 h26 h27 h6 q
  refine Jy.u ?_ hT
  simp -implicitDefEqProofs only[Hs,RR,SS,AC,h26,h27]
  refine aH Km ?_
  have e:parts.take i=parts:=by rw[show i=parts.length by omega,List.take_length]
  rw[e]at h6 hrow
  exact q _ _ _ _ (by omega) rfl hx hrow hce (by simp[T.get_set,h6])
 |succ k ih=>
  intro i n tm s td hi hn hT hx hown hrow hce h25 h26 h27 h6 q
  have hil:i<parts.length:=by omega
  obtain⟨g1,g2⟩:=(hp.ext0 hx).get hil
  have hlt:=OL hil
  have htl:=NC (l:=parts) (i+1)
  refine Jy.u ?_ hT
  simp -implicitDefEqProofs only[Hs,RR,SS,AC,h26,h27]
  refine aK Km ?_
  refine Xz.u ?_
  simp -implicitDefEqProofs only[NX,RR,SS,Nat.reduceEqDiff, ↓reduceIte,h25,h27,By E0 hil]
  refine aB D1 g1 ?_
  have hx1:Ext F Non s0 (s.rdN (b+(o+i*1))):=hx.trans (Ext.rdN (F:=F) s _ λ_=>hF _ (.inl ⟨by omega,by omega⟩)) hb0 (λ_ _ h=>h) λ_ _ h=>h
  refine Vb.u ?_
  simp -implicitDefEqProofs only[Oa,RR,SS,Nat.reduceEqDiff, ↓reduceIte,h6,H1]
  refine W.appIn (s:=s.rdN (b+(o+i*1))) IE (g2.same (s':=s.rdN (b+(o+i*1))) rfl rfl).src.g (by rw[hcc];omega) (by rw[BU,Nat.mul_one]) (FO _) (λj hj=> ?_) λs2 n2 x2 r2=> ?_
  ·obtain⟨u,hu⟩:=hown (tot (parts.take i)+j) (by omega)
   exact⟨u,by rw[show 0+tot (parts.take i)*1+j=0+(tot (parts.take i)+j) by omega];exact hu⟩
  have ei:=eiW (i:=i) (by omega)
  have hx2:Ext F Non s0 s2:=hx1.step x2 hb0 (λl hl h=>by
   rcases h with h|h
   ·exact hF _ (.inr ⟨_,List.getElem_mem hil,h⟩)
   ·exact absurd h.1 (by omega)) λl h=>by have:=h.1;omega
  have el:parts[i].2.length*1=(u8l parts[i].2).length:=by rw[BU,Nat.mul_one]
  rw[el]at x2
  have hown2:Fj s2 nb 0 (tot parts):=Fj.ext (s:=s.rdN (b+(o+i*1))) (λj hj=>let ⟨u,hu⟩:=hown j hj;⟨u,hu.same rfl rfl⟩) x2 r2
  have hrow2:An s2 nb 0 (u8l (fl (parts.take (i+1)))):=by
   rw[Xl_ hil]
   unfold u8l
   rw[List.map_append]
   refine An.append (An.ext (s:=s.rdN (b+(o+i*1))) (λj v e=>(hrow j v e).same rfl rfl) x2 λj hj=> ?_) ?_
   ·rw[BU,DX]at hj
    intro h
    have:=h.1
    omega
   ·rw[BU,DX]
    rw[Nat.mul_one]at r2
    exact r2
  refine FZ_.u ?_
  simp -implicitDefEqProofs only[NZ,RR,SS,Nat.reduceEqDiff, ↓reduceIte,AO,h27,ei]
  exact ih (i+1) _ _ _ _ (by omega) (by omega) BL_ hx2 hown2 hrow2 ⟨by rw[x2.mem z hce.2 λh=>by have h1:=h.2;rw[BU]at h1;omega];exact hce.1,Nat.lt_of_lt_of_le hce.2 x2.nxt⟩ (by simp[T.get_set,h25]) (by simp[T.get_set,h26]) (by simp[T.get_set]) (by simp[T.get_set,hlt]) λn' tm' s1 td' e=>q n' tm' s1 td' (by omega)
end
structure New (s s':St)(v:Value)(l:List Nat):Prop where
 bn:Bn s' v l
 new: ∀x,BsF v x->s.next<=x
theorem Bn.same {s s':St}{v:Value}{l:List Nat}(h:Bn s v l)(hm:s'.mem=s.mem)(hn:s'.next=s.next):Bn s' v l:=by
 obtain⟨b,o,c,h0,h1,h2,h3⟩:=h
 exact⟨b,o,c,h0,h1,h2,λi v e=>(h3 i v e).same hm hn⟩
structure MkG (s:St)(v:Value)(l:List Nat)(b:Nat):Prop where
 val:v= .slice (some ⟨b,0,none⟩) l.length (capU*((b+l.length)*1024+1)+l.length)
 own:An s b 0 (u8l l)
 tok:T.get s.mem (b+l.length)=some (.O (.tok false 1025))
 lt:b+l.length<s.next
theorem MkG.same {s s':St}{v:Value}{l:List Nat}{b:Nat}(h:MkG s v l b)(hm:s'.mem=s.mem)(hn:s'.next=s.next):MkG s' v l b:=
 ⟨h.val,λi u e=>(h.own i u e).same hm hn,by rw[hm];exact h.tok,by rw[hn];exact h.lt⟩
theorem MkG.ext {F G:Nat->Prop}{s s':St}{v:Value}{l:List Nat}{b:Nat}(h:MkG s v l b)(e:Ext F G s s')(hG: ∀x,In b 0 (l.length+1) x-> ¬G x):MkG s' v l b:=
 ⟨h.val,λi u q=>(h.own i u q).ext e (hG _ ⟨by omega,by have:=(List.getElem?_eq_some_iff.1 q).1;rw[BU]at this;omega⟩),by rw[e.mem _ h.lt (hG _ ⟨by omega,by omega⟩)];exact h.tok,Nat.lt_of_lt_of_le h.lt e.nxt⟩
theorem MkG.bn {s:St}{v:Value}{l:List Nat}{b:Nat}(h:MkG s v l b)(hl:l.length<=1073741824):Bn s v l:=
 ⟨b,0,_,h.val,by rw[HP (BW hl)];exact Nat.le_refl _,FX (BW hl) (by decide),h.own.row⟩
theorem MkG.new {s0 s:St}{v:Value}{l:List Nat}{b:Nat}(h:MkG s v l b)(hl:l.length<=1073741824)(hb:s0.next<=b):New s0 s v l:=
 ⟨h.bn hl,λx hx=>by rw[h.val]at hx;have:=hx.1;omega⟩
theorem FH_ {n:Nat}{s:St}{b o c:Nat}{parts:List (Value×List Nat)}{Q:Value->St->Prop}(hbd:s.lim<=s.next)(hp:Parts s b o parts)(h0:0<tot parts)(ht:tot parts<=1000000)(hlen:parts.length<=4611686018427387904)(hn:13*parts.length+60<=n)
  (q: ∀s1 v nb,Ext (CL b o parts) Non s s1->MkG s1 v (fl parts) nb->s.next<=nb->Q v s1):W (Ab envS (runF envS n) 43 [.slice (some ⟨b,o,none⟩) parts.length c]) s Q:=by
 refine ZY λtm hk0=> ?_
 have hpc:Parts (s.cxN cxN) b o parts:=hp.same rfl rfl
 refine Hs_.u ?_
 simp -implicitDefEqProofs only[PV,RR,SS]
 refine Fg_.u ?_
 simp -implicitDefEqProofs only[LT,RR,SS]
 refine Zd.u ?_
 simp -implicitDefEqProofs only[LH,RR,SS,reduceCtorEq, ↓reduceIte,hk0,B0 E0]
 refine Bu_ (c:=c) ht hlen (F:=CL b o parts) (λ_ h=>h) (s0:=s.cxN cxN) hbd hpc parts.length 0 _ _ _ _ (by omega) (by omega) rfl (Ext.refl _) rfl rfl (by simp[T.get_set,hk0]) (by simp[T.get_set]) (by simp[T.get_set]) (by simp[T.get_set]) (by simp[T.get_set,tot]) λn1 tm1 s1 td1 hn1 hT1 hx1 hm1 hnx1 g0 g3=> ?_
 refine AD_.u ?_ hT1
 simp -implicitDefEqProofs only[Me,RR,SS,g3]
 have hb1:s1.lim<=s1.next:=hx1.bnd hbd
 refine AcJ_ hb1 (by omega) h0 ht λs2 v nb hr x2=> ?_
 obtain⟨rfl,hnew,hown,htok,hlt⟩:=hr
 have hx2:Ext (CL b o parts) Non (s.cxN cxN) s2:=hx1.step x2 hbd (λ_ _ h=>h.elim) λ_ h=>h.elim
 have hnb:s.next<=nb:=by
  have:s1.next=s.next:=hnx1
  omega
 have hcc:=HP (q:=(nb+tot parts*1)*1024+1) (BW (n:=tot parts) (by omega))
 have hok:=FX (m:=nb+tot parts*1) (sz:=1) (BW (n:=tot parts) (by omega)) (by decide)
 generalize hC:capU*((nb+tot parts*1)*1024+1)+tot parts=C at *
 refine Zs.u ?_
 simp -implicitDefEqProofs only[Pj,RR,SS,reduceCtorEq, ↓reduceIte,g0,B0 E0]
 refine ZM_ (c:=c) ht hlen (F:=CL b o parts) (λ_ h=>h) (s0:=s.cxN cxN) hbd hpc (nb:=nb) (cc:=C) hnb hcc (z:=nb+tot parts) (Nat.le_refl _) parts.length 0 _ _ _ _ (by omega) (by omega) rfl hx2 (by have:=hown.owned;rwa [List.length_replicate]at this) (λi v e=>by simp[fl]at e) ⟨htok,hlt⟩ (by simp[T.get_set]) (by simp[T.get_set]) (by simp[T.get_set]) (by simp[T.get_set,tot]) λn3 tm3 s3 td3 hn3 hT3 hx3 hrow hz3 g6=> ?_
 refine UH.u ?_ hT3
 simp -implicitDefEqProofs only[OC,RR,SS,g6]
 refine aC (rs:=[2]) (vs:=[.slice (some ⟨nb,0,none⟩) (tot parts) C]) rfl (.inl Fz_) (by omega) M8 VL hx3.cx (by simp[T.get_set]) ?_
 have hC':C=capU*((nb+(fl parts).length)*1024+1)+(fl parts).length:=by rw[<-hC,DX,Nat.mul_one]
 refine q _ (.slice (some ⟨nb,0,none⟩) (tot parts) C) nb hx3.cx' ⟨by rw[<-hC',DX],λi u e=>(hrow i u e).same rfl rfl,by rw[DX];exact hz3.1,by rw[DX];exact hz3.2⟩ hnb
theorem ZE_ {n:Nat}{s:St}{b o c:Nat}{parts:List (Value×List Nat)}{Q:Value->St->Prop}(hbd:s.lim<=s.next)(hp:Parts s b o parts)(h0:0<tot parts)(ht:tot parts<=1000000)(hlen:parts.length<=4611686018427387904)(hn:13*parts.length+60<=n)
  (q: ∀s1 v,Ext (CL b o parts) Non s s1->New s s1 v (fl parts)->Q v s1):W (Ab envS (runF envS n) 43 [.slice (some ⟨b,o,none⟩) parts.length c]) s Q:=
 FH_ hbd hp h0 ht hlen hn λs1 v _ x h hn=>q s1 v x (h.new (by rw[DX];omega) hn)
theorem JU_ {n:Nat}{s:St}{Q:Value->St->Prop}(hbd:s.lim<=s.next)(hn:20<=n)(q: ∀s1,s1.mem=s.mem->s1.next=s.next->Ext Non Non s s1->Q (.slice none 0 0) s1):W (Ab envS (runF envS n) 65 [.slice none 0 0, .int .i64 ((0:Nat):Int)]) s Q:=by
 refine Z9 λtm h0 h1=> ?_
 refine S4.u ?_
 simp -implicitDefEqProofs only[Pc,RR,SS,Nat.reduceEqDiff,reduceCtorEq, ↓reduceIte]
 refine Xm.u ?_
 simp -implicitDefEqProofs only[LA,RR,SS,Nat.reduceEqDiff,reduceCtorEq, ↓reduceIte,AO,Bq,AC,Bp,BZ,BJ,A0,AL,h1]
 refine aH Xd ?_
 refine WI.u ?_
 simp -implicitDefEqProofs only[KO,RR,SS,Nat.reduceEqDiff,reduceCtorEq, ↓reduceIte,AO,Bq,AC,Bp,BZ,BJ,A0,AL,h0,h1,KS Bk,B0 Bk]
 refine Hh_.u ?_
 have e1:wrap64 (((0:Nat):Int)-wrap64 (((0:Nat):Int)-((0:Nat):Int)))=((0:Nat):Int):=by decide
 simp -implicitDefEqProofs only[Pu,RR,SS,Nat.reduceEqDiff,reduceCtorEq, ↓reduceIte,AO,Bq,AC,Bp,BZ,BJ,A0,AL,e1]
 refine aH VE ?_
 refine AY_.u ?_
 simp -implicitDefEqProofs only[PF,RR,SS,Nat.reduceEqDiff,reduceCtorEq, ↓reduceIte,h0]
 refine aC (rs:=[4]) (vs:=[.slice none 0 0]) rfl (.inl WY) (by omega) Mt Zp rfl (by simp[T.get_set]) ?_
 exact q _ rfl rfl (Ext.refl _)
section
variable {b o c:Nat}{parts:List (Value×List Nat)}
theorem St_ (ht:tot parts=0)(hlen:parts.length<=4611686018427387904){F:Nat->Prop}(hF: ∀x,CL b o parts x->F x){Q:Value×FrameMode->St->Prop}{s0:St}(hb0:s0.lim<=s0.next)(hp:Parts s0 b o parts): ∀(k i n:Nat) (tm:T Value) (s:St) (td:List Item),i+k=parts.length->6*k+6<=n->skim 64 td=Iu->Ext F Non s0 s->
  T.get tm 25=some (.slice (some ⟨b,o,none⟩) parts.length c)->T.get tm 26=some (.int .i64 (parts.length:Nat))->T.get tm 27=some (.int .i64 (i:Nat))->T.get tm 6=some (.slice none 0 0)->
  (∀n' tm' s1 td',n<=n'+6*k+2->skim 64 td'=J5->Ext F Non s0 s1->T.get tm' 6=some (.slice none 0 0)->W (runF envS n' ⟨43,GL,Br,tm',td', .run, .normal,none⟩) s1 Q)->
  W (runF envS n ⟨43,GL,Br,tm,td, .run, .normal,none⟩) s Q:=by
 intro k
 induction k with
 |zero=>
  intro i n tm s td hi hn hT hx h25 h26 h27 h6 q
  refine Jy.u ?_ hT
  simp -implicitDefEqProofs only[Hs,RR,SS,Nat.reduceEqDiff,reduceCtorEq, ↓reduceIte,AO,Bq,AC,Bp,BZ,BJ,A0,AL,h26,h27]
  refine aH Km ?_
  exact q _ _ _ _ (by omega) rfl hx (by simp[T.get_set,h6])
 |succ k ih=>
  intro i n tm s td hi hn hT hx h25 h26 h27 h6 q
  have hil:i<parts.length:=by omega
  obtain⟨g1,g2⟩:=(hp.ext0 hx).get hil
  have hlt:=OL hil
  have htl:=NC (l:=parts) (i+1)
  have hl0:parts[i].2.length=0:=by omega
  refine Jy.u ?_ hT
  simp -implicitDefEqProofs only[Hs,RR,SS,Nat.reduceEqDiff,reduceCtorEq, ↓reduceIte,AO,Bq,AC,Bp,BZ,BJ,A0,AL,h26,h27]
  refine aK Km ?_
  refine Xz.u ?_
  simp -implicitDefEqProofs only[NX,RR,SS,Nat.reduceEqDiff,reduceCtorEq, ↓reduceIte,h25,h27,By E0 hil]
  refine aB D1 g1 ?_
  have hx1:Ext F Non s0 (s.rdN (b+(o+i*1))):=hx.trans (Ext.rdN (F:=F) s _ λ_=>hF _ (.inl ⟨by omega,by omega⟩)) hb0 (λ_ _ h=>h) λ_ _ h=>h
  refine Vb.u ?_
  simp -implicitDefEqProofs only[Oa,RR,SS,Nat.reduceEqDiff,reduceCtorEq, ↓reduceIte,h6,H1]
  refine W.appV (s:=s.rdN (b+(o+i*1))) (hx1.bnd hb0) IE (len:=0) (b:=0) (old:=[]) (.inl ⟨rfl,rfl,rfl⟩) (g2.same (s':=s.rdN (b+(o+i*1))) rfl rfl).src.g (by decide) (by decide) (by omega) (by rw[BU,Nat.mul_one]) (FO _) λs2 v2 b2 hb2 mk2 x2=> ?_
  have hv2:v2= .slice none 0 0:=by
   rcases mk2 with h|h
   ·exact h.1
   ·have:=h.2
    omega
  subst hv2
  have ei:=eiW (i:=i) (by omega)
  have hx2:Ext F Non s0 s2:=hx1.step x2 hb0 (λl hl h=>by
   rcases h with h|h
   ·exact hF _ (.inr ⟨_,List.getElem_mem hil,h⟩)
   ·exact absurd h.1 (by omega)) λl h=>by have:=h.1;omega
  refine FZ_.u ?_
  simp -implicitDefEqProofs only[NZ,RR,SS,Nat.reduceEqDiff,reduceCtorEq, ↓reduceIte,AO,Bq,AC,Bp,BZ,BJ,A0,AL,h27,ei]
  exact ih (i+1) _ _ _ _ (by omega) (by omega) BL_ hx2 (by simp[T.get_set,h25]) (by simp[T.get_set,h26]) (by simp[T.get_set]) (by simp[T.get_set]) λn' tm' s1 td' e=>q n' tm' s1 td' (by omega)
end
theorem Bs.nil0 (s:St):Bs s (.slice none 0 0) []:= .inl ⟨rfl,rfl⟩
theorem Aac_ {n:Nat}{s:St}{b o c:Nat}{parts:List (Value×List Nat)}{Q:Value->St->Prop}(hbd:s.lim<=s.next)(hp:Parts s b o parts)(ht:tot parts<=1000000)(hlen:parts.length<=4611686018427387904)(hn:13*parts.length+60<=n)
  (q: ∀s1 v,Ext (CL b o parts) Non s s1->Bs s1 v (fl parts)->(∀x,BsF v x->s.next<=x)->Q v s1):W (Ab envS (runF envS n) 43 [.slice (some ⟨b,o,none⟩) parts.length c]) s Q:=by
 by_cases h0:tot parts=0
 ·refine ZY λtm hk0=> ?_
  have hpc:Parts (s.cxN cxN) b o parts:=hp.same rfl rfl
  refine Hs_.u ?_
  simp -implicitDefEqProofs only[PV,RR,SS,Nat.reduceEqDiff,reduceCtorEq, ↓reduceIte]
  refine Fg_.u ?_
  simp -implicitDefEqProofs only[LT,RR,SS,Nat.reduceEqDiff,reduceCtorEq, ↓reduceIte]
  refine Zd.u ?_
  simp -implicitDefEqProofs only[LH,RR,SS,Nat.reduceEqDiff,reduceCtorEq, ↓reduceIte,hk0,B0 E0]
  refine Bu_ (c:=c) ht hlen (F:=CL b o parts) (λ_ h=>h) (s0:=s.cxN cxN) hbd hpc parts.length 0 _ _ _ _ (by omega) (by omega) rfl (Ext.refl _) rfl rfl (by simp[T.get_set,hk0]) (by simp[T.get_set]) (by simp[T.get_set]) (by simp[T.get_set]) (by simp[T.get_set,tot]) λn1 tm1 s1 td1 hn1 hT1 hx1 hm1 hnx1 g0 g3=> ?_
  refine AD_.u ?_ hT1
  rw[h0]at g3
  simp -implicitDefEqProofs only[Me,RR,SS,Nat.reduceEqDiff,reduceCtorEq, ↓reduceIte,g3]
  have hb1:s1.lim<=s1.next:=hx1.bnd hbd
  refine JU_ hb1 (by omega) λs2 m2 nx2 x2=> ?_
  have hx2:Ext (CL b o parts) Non (s.cxN cxN) s2:=hx1.step x2 hbd (λ_ _ h=>h.elim) λ_ h=>h.elim
  refine Zs.u ?_
  simp -implicitDefEqProofs only[Pj,RR,SS,Nat.reduceEqDiff,reduceCtorEq, ↓reduceIte,g0,B0 E0]
  refine St_ (c:=c) h0 hlen (F:=CL b o parts) (λ_ h=>h) (s0:=s.cxN cxN) hbd hpc parts.length 0 _ _ _ _ (by omega) (by omega) rfl hx2 (by simp[T.get_set]) (by simp[T.get_set]) (by simp[T.get_set]) (by simp[T.get_set]) λn3 tm3 s3 td3 hn3 hT3 hx3 g6=> ?_
  refine UH.u ?_ hT3
  simp -implicitDefEqProofs only[OC,RR,SS,Nat.reduceEqDiff,reduceCtorEq, ↓reduceIte,g6]
  refine aC (rs:=[2]) (vs:=[.slice none 0 0]) rfl (.inl Fz_) (by omega) M8 VL hx3.cx (by simp[T.get_set]) ?_
  have e0:fl parts=[]:=List.eq_nil_of_length_eq_zero (by rw[DX];exact h0)
  refine q _ _ hx3.cx' ?_ λx hx=>hx.elim
  rw[e0]
  exact Bs.nil0 _
 ·exact ZE_ hbd hp (by omega) ht hlen hn λs1 v x1 h1=>q s1 v x1 h1.bn.bs h1.new
theorem Zu:elT envS 114=some (1,24,[.slice none 0 0]):=by kernel_rfl
theorem QE {va vb:Value}(ha: ∃p n c,va= .slice p n c)(hb: ∃p n c,vb= .slice p n c):CK (λk=>some (k*1,1)) [(0,va),(1,vb)] (rep 2 [.slice none 0 0])=some [va,vb]:=by
 obtain⟨p,n,c,rfl⟩:=ha
 obtain⟨p',n',c',rfl⟩:=hb
 rfl
theorem Su {n b c:Nat}{s:St}{va vb:Value}{la lb:List Nat}{Q:Value->St->Prop}(hbd:s.lim<=s.next)(ra:Row s b 0 [va,vb])(ba:Bs s va la)(bb:Bs s vb lb)(ht:la.length+lb.length<=1000000)(hn:100<=n)(q: ∀s1 v,Ext Any Non s s1->Bs s1 v (la++lb)->(∀x,BsF v x->s.next<=x)->Q v s1):W (Ab envS (runF envS n) 43 [.slice (some ⟨b,0,none⟩) 2 c]) s Q:=by
 have hp:Parts s b 0 [(va,la),(vb,lb)]:=⟨ra,λp hp=>by
  simp only[List.mem_cons,List.not_mem_nil,or_false]at hp
  rcases hp with rfl|rfl
  ·exact ba
  ·exact bb⟩
 have ef:fl [(va,la),(vb,lb)]=la++lb:=by
  show la++(lb++[])=_
  rw[List.append_nil]
 have et:tot [(va,la),(vb,lb)]=la.length+lb.length:=by
  rw[<-DX,ef,List.length_append]
 have el:[(va,la),(vb,lb)].length=2:=rfl
 generalize [(va,la),(vb,lb)]=ps at *
 have:=Aac_ (n:=n) (s:=s) (b:=b) (o:=0) (c:=c) (parts:=ps) (Q:=Q) hbd hp (by omega) (by omega) (by omega) λs1 v x1 h1 h2=>q s1 v (x1.weak hbd (λ_ _ _=>trivial) λ_ _ h=>h) (by rw[<-ef];exact h1) h2
 rwa [el]at this
section
variable {n D M:Nat}{s:St}{k:DkS}{col:Nat->Nat}{a:ByteArray}{Q:Value->St->Prop}
theorem Wv (hb:s.lim<=s.next)(hI:DkI s col D M k)(hlen:k.fs.length<=300)(hz:k.used<=1000000)(hn:400<=n)
  (q1:k.out=true-> ∀s1,Ext Any Non s s1->Q (.tuple #[.slice none 0 0, .int .i64 10]) s1)
  (q2:k.out=false->Az k.fs a=none-> ∀s1,Ext Any Non s s1->Q (.tuple #[.slice none 0 0, .int .i64 6]) s1)
  (q3:k.out=false-> ∀j,Az k.fs a=some j-> ∀hj:j<k.fs.length,∀s1 v,Ext Any Non s s1->Bs s1 v k.fs[j].all->(∀x,BsF v x->s.next<=x)->Q (.tuple #[v, .int .i64 0]) s1):
  W (Ab envS (runF envS n) 21 [.pointer (some ⟨D,0,none⟩), .string a]) s Q:=by
 have hb0:(s.cxN cxN).lim<=(s.cxN cxN).next:=hb
 have hI0:DkI (s.cxN cxN) col D M k:=hI.same rfl rfl
 refine XM_ λtm t0 t1=> ?_
 refine Adc_.u ?_
 simp only[YT,RR,SS,Nat.reduceEqDiff,reduceCtorEq, ↓reduceIte]
 refine Jt_.u ?_
 simp only[S2,RR,SS,Nat.reduceEqDiff,reduceCtorEq, ↓reduceIte,t0]
 refine Ku (o:=k.out) hb0 (hI0.d0.same rfl rfl) (hI0.d6.same rfl rfl) (by omega) λs1 m1 n1 x1=> ?_
 have y1:=x1
 have n1':s1.next=s.next:=n1
 have hI1:DkI s1 col D M k:=hI0.same m1 n1
 refine UU_.u ?_
 cases ho:k.out with
 |true=>
  simp only[OP,RR,SS,Nat.reduceEqDiff,reduceCtorEq, ↓reduceIte,AO,Bq,AC,Bp,BZ,BJ,A0,AL]
  refine aK QI ?_
  refine Kh_.u ?_
  simp only[Ci_,RR,SS,Nat.reduceEqDiff,reduceCtorEq, ↓reduceIte]
  refine aC (rs:=[4,5]) (vs:=[.slice none 0 0, .int .i64 10]) rfl (.inl Oy_) (by omega) IG O8 y1.cx (by simp[T.get_set]) ?_
  exact q1 ho _ y1.cx'
 |false=>
  simp only[OP,RR,SS,Nat.reduceEqDiff,reduceCtorEq, ↓reduceIte,AO,Bq,AC,Bp,BZ,BJ,A0,AL]
  refine aH QI ?_
  refine Vc_.u ?_
  simp only[Zb,RR,SS,Nat.reduceEqDiff,reduceCtorEq, ↓reduceIte,t0,t1,Ai DD (by decide)]
  refine aB DM hI1.d1.at' ?_
  refine HF (fs:=k.fs) (mx:=k.mx) (hI1.om.same rfl rfl) ?_
  have y2:=(y1.thenRd hb0 (D+(0+1))).thenRd hb0 M
  have hI2:DkI ((s1.rdN (D+(0+1))).rdN M) col D M k:=hI1.same rfl rfl
  have n2:((s1.rdN (D+(0+1))).rdN M).next=s.next:=n1'
  generalize (s1.rdN (D+(0+1))).rdN M=s2 at *
  refine WJ_.u ?_
  cases hj:Az k.fs a with
  |none=>
   have hv:A7 k.fs a= .pointer none:=by unfold A7;rw[hj]
   rw[hv]
   simp only[NY,RR,SS,Nat.reduceEqDiff,reduceCtorEq, ↓reduceIte,J7]
   refine aK X7 ?_
   refine RS_.u ?_
   simp only[Ht_,RR,SS,Nat.reduceEqDiff,reduceCtorEq, ↓reduceIte]
   refine aC (rs:=[4,5]) (vs:=[.slice none 0 0, .int .i64 6]) rfl (.inl IF_) (by omega) IG O8 y2.cx (by simp[T.get_set]) ?_
   exact q2 ho hj _ y2.cx'
  |some j=>
   have hlt:=Fo hj
   have hv:A7 k.fs a= .pointer (some ⟨k.fs[j].blk,0,none⟩):=by
    unfold A7
    rw[hj]
    simp only[List.getElem?_eq_getElem hlt]
   rw[hv]
   simp only[NY,RR,SS,Nat.reduceEqDiff,reduceCtorEq, ↓reduceIte,Dj G7]
   refine aH X7 ?_
   have g:=hI2.fl j hlt
   have hused:=aW hlt
   refine MN_.u ?_
   simp only[Yd,RR,T.get_set,Nat.reduceEqDiff,reduceIte,Af,C6,B2,Cb,FF,FW,BQ,Eg,A6]
   rw[W_dq λs Q=>Bu (s:=s) _ Q]
   dsimp only
   try simp only[Af]
   rw[W_dq λs Q=>Ai (s:=s) HZ (by decide) Q]
   dsimp only
   try simp only[Af]
   refine aE B9 ((g.o0.same (s':=dSt s2.mem s2.next) rfl rfl).at') λrd3 hr3=> ?_
   try simp only[Af,A6]
   rw[W_dq λs Q=>Bu (s:=s) _ Q]
   dsimp only
   try simp only[Af]
   rw[W_dq λs Q=>Ai (s:=s) D2 (by decide) Q]
   dsimp only
   try simp only[Af]
   refine aE B9 ((g.o1.same (s':=dSt s2.mem s2.next) rfl rfl).at') λrd7 hr7=> ?_
   try simp only[Af,B2,Cb,FF,FW,BQ,C6]
   refine aV (aQ (s:=oSt s2.mem s2.next) (Nat.le_refl _) (r:=[k.fs[j].sv,k.fs[j].lv]) Zu (by decide) (QE (g.ms.sl.imp λp h=>⟨_,h⟩) (g.ml.sl.imp λp h=>⟨_,h⟩)) (BW (by decide)) λsa na xa ra=>⟨Non,xa,λrd8 hr8=> ?_⟩)
   obtain rfl:=T5 λx hx=>(hr8 x hx).2
   try simp only[Af,B2,Cb,BQ,C6,Eg]
   have bs:Bs s2 k.fs[j].sv k.fs[j].sb:=g.ms.bs (Nat.lt_of_le_of_lt (show _<=1000000 by omega) (by decide))
   have bl:Bs s2 k.fs[j].lv k.fs[j].lb:=g.ml.bs (Nat.lt_of_le_of_lt (show _<=1000000 by omega) (by decide))
   refine aV (Su (s:=oSt sa.mem sa.next) (Nat.le_refl _) (λi v e=>((ra i v e).same rfl rfl).at') (((bs.same (s':=oSt s2.mem s2.next) rfl rfl).ext0 xa).same rfl rfl) (((bl.same (s':=oSt s2.mem s2.next) rfl rfl).ext0 xa).same rfl rfl) (by omega) (by omega) λsb v xb hbs hnw=>⟨_,xb,λrd9 hr9=> ?_⟩)
   refine Eq.mpr (A6 v _ _ _ _) ?_
   dsimp only
   try simp only[Gv]
   have na':sa.next=s2.next+3:=na
   have nb':sa.next<=sb.next:=xb.nxt
   rw[AY]
   refine⟨C7 ?_, ?_⟩
   ·simp only[List.reverse_cons,List.reverse_nil,List.nil_append,List.cons_append,allP,B6,List.take,Cz]
    have lts: ∀x,s2.next<=x-> ¬x<s2.next:=λx h=>by omega
    simp+contextual [lts]
    exact .inl rfl
   ·refine W.cast (IG_ _ _ _ _ _ _ _ _ _ _ _ _ _ _ _ _) ?_
    simp only[SS,Nat.reduceEqDiff,reduceCtorEq, ↓reduceIte]
    generalize hs':(⟨(dSt sb.mem sb.next).mem,(dSt sb.mem sb.next).next,s2.lim,_,_,s2.cx⟩:St)=s7
    have x7:Ext Any Non s2 s7:=by
     rw[<-hs']
     exact Ext.draw (F:=Any) (by show s2.next<=sb.next;omega) (λx hx=>(xb.mem x (by show x<sa.next;omega) id).trans (xa.mem x hx id)) (by simp) λ_ _ _ _ _=>trivial
    have m7:s7.mem=sb.mem:=by rw[<-hs'];rfl
    have n7:s7.next=sb.next:=by rw[<-hs'];rfl
    have y7:=y2.on x7 hb0 λ_ _ h=>h
    refine aC (rs:=[4,5]) (vs:=[v, .int .i64 0]) rfl (.inl Re_) (by omega) IG O8 y7.cx (by simp[T.get_set]) ?_
    refine q3 ho j hj hlt _ v y7.cx' (hbs.same m7 n7) λx hx=> ?_
    have h1:=hnw x hx
    have h2:sa.next<=x:=h1
    omega
end
theorem Vn_ (m:Nat):E2 envS 78 [(0, .bool true),(1, .map (some m))]=some [.bool true, .map (some m), .int .i64 0, .int .i64 0, .bool false, .int .i64 0, .bool false]:=by kernel_rfl
def newC (N:Nat):Nat->Nat:=λx=>if x<N then 1000 else if x=N then 1 else 0
section
variable {D n:Nat}{s:St}{Q:Value->St->Prop}
theorem Vz_ {r0:Int}{room:Nat}(hb:s.lim<=s.next)(h0:Own s D 0 (.bool true))(h2:Own s D 2 (.int .i64 r0))(hr:room<=16777216)(hn:60<=n)(q: ∀s1,s1.next=s.next->Ext Any (λy=>y=D+2) s s1->Own s1 D 2 (.int .i64 (room:Nat))->Q (.int .i64 0) s1):W (Ab envS (runF envS n) 55 [.pointer (some ⟨D,0,none⟩), .int .i64 (room:Nat)]) s Q:=by
 have hb0:(s.cxN cxN).lim<=(s.cxN cxN).next:=hb
 refine AbZ_ λtm t0 t1=> ?_
 refine RA_.u ?_
 simp only[U6,RR,SS,Nat.reduceEqDiff,reduceCtorEq, ↓reduceIte]
 refine Abn_.u ?_
 simp only[Sq,RR,SS,Nat.reduceEqDiff,reduceCtorEq, ↓reduceIte,t0]
 refine GM hb0 (h0.same rfl rfl) (by omega) λs1 m1 n1 x1=> ?_
 refine aH Vb_ ?_
 refine XG_.u ?_
 have e1:decide (((room:Nat):Int)<0)=false:=decide_eq_false (by omega)
 have e2:decide ((16777216:Int)<((room:Nat):Int))=false:=decide_eq_false (by omega)
 simp only[ZJ,RR,SS,Nat.reduceEqDiff,reduceCtorEq, ↓reduceIte,AO,Bq,AC,Bp,BZ,BJ,A0,AL,t1,e1,e2]
 refine aH YB_ ?_
 refine WT_.u ?_
 simp only[Yg,RR,SS,Nat.reduceEqDiff,reduceCtorEq, ↓reduceIte,t0,t1,Ai Sm (by decide)]
 have g2:Own s1 D 2 (.int .i64 r0):=(h2.same (s':=s.cxN cxN) rfl rfl).same m1 n1
 refine aG Au rfl g2 λs2 n2 x2 o2=> ?_
 have y2:Ext Any (λy=>y=D+2) (s.cxN cxN) s2:=(x1.gw hb0 λ_ _ h=>h.elim).on x2 hb0 λy _ hq=>by have h1:=hq.1;have h2:=hq.2;omega
 refine Abp_.u ?_
 simp only[Qk,RR,SS,Nat.reduceEqDiff,reduceCtorEq, ↓reduceIte]
 refine aC (rs:=[4]) (vs:=[.int .i64 0]) rfl (.inl Wp_) (by omega) Qn MR_ y2.cx (by simp[T.get_set]) ?_
 exact q _ (n2.trans n1) y2.cx' (o2.same rfl rfl)
theorem AcE_ {room:Nat}(hb:s.lim<=s.next)(hr:room<=16777216)(hn:100<=n)(q: ∀s1,Ext Any Non s s1->DkI s1 (newC s.next) (s.next+1) s.next ⟨[],0,room,0,false,0,false⟩->Q (.tuple #[.pointer (some ⟨s.next+1,0,none⟩), .int .i64 0]) s1):W (Ab envS (runF envS n) 23 [.int .i64 (room:Nat)]) s Q:=by
 have hb0:(s.cxN cxN).lim<=(s.cxN cxN).next:=hb
 refine Aam_ λtm t0=> ?_
 refine LP_.u ?_
 simp only[QP,RR,SS,Nat.reduceEqDiff,reduceCtorEq, ↓reduceIte]
 refine SL_.u ?_
 simp only[Ap_,RR,SS,Nat.reduceEqDiff,reduceCtorEq, ↓reduceIte]
 unfold De
 refine W.bind (W.newO λs1 n1 x1 o1=> ?_)
 have ea:(s.cxN cxN).next=s.next:=rfl
 rw[ea]at o1 n1 ⊢
 have y1:Ext Any Non (s.cxN cxN) s1:=x1.weak hb0 (λ_ _ _=>trivial) λ_ _ h=>h
 simp only[SS,Nat.reduceEqDiff,reduceCtorEq, ↓reduceIte,Ek (Vn_ s.next)]
 refine W.box λs2 n2 x2 r2=> ?_
 rw[E9]at n2 r2
 have n2':s2.next=s1.next+8:=n2
 rw[n1]at r2 n2' ⊢
 have y2:=y1.on x2 hb0 λ_ _ h=>h
 refine Pn_.u ?_
 simp only[YG,RR,SS,Nat.reduceEqDiff,reduceCtorEq, ↓reduceIte,t0]
 refine Vz_ (y2.bnd hb0) (r2 0 _ rfl) (r2 2 _ rfl) hr (by omega) λs3 n3 x3 o3=> ?_
 have y3:Ext Any Non (s.cxN cxN) s3:=y2.on x3 hb0 λy hy h=>by have:y<s.next:=hy;omega
 refine ZI_.u ?_
 simp only[U5,RR,SS,Nat.reduceEqDiff,reduceCtorEq, ↓reduceIte,AO,Bq,AC,Bp,BZ,BJ,A0,AL,decide_true,Bool.not_true]
 refine aH OF_ ?_
 refine Qv_.u ?_
 simp only[Ft_,RR,SS,Nat.reduceEqDiff,reduceCtorEq, ↓reduceIte]
 refine aC (rs:=[2,3]) (vs:=[.pointer (some ⟨s.next+1,0,none⟩), .int .i64 0]) rfl (.inl Aah_) (by omega) S7 OO_ y3.cx (by simp[T.get_set]) ?_
 refine q _ y3.cx' ?_
 have k: ∀i u,i≠2->Own s2 (s.next+1) i u->Own (s3.cxN s.cx) (s.next+1) i u:=λi u hi h=>(h.ext x3 λhq=>by omega).same rfl rfl
 have oM:Obj (s3.cxN s.cx) s.next (.map [] 0):=((Obj.ext (Obj.ext o1 x2 id) x3 λhq=>by omega)).same rfl rfl
 exact⟨k 0 _ (by decide) (r2 0 _ rfl),k 1 _ (by decide) (r2 1 _ rfl),o3.same rfl rfl,k 3 _ (by decide) (r2 3 _ rfl),k 4 _ (by decide) (r2 4 _ rfl),k 5 _ (by decide) (r2 5 _ rfl),k 6 _ (by decide) (r2 6 _ rfl),λx h1 h2=>by unfold newC;rw[if_neg (by omega),if_neg (by omega)],oM,by unfold newC;rw[if_neg (by omega),if_pos rfl],rfl,λi hi=>absurd hi (Nat.not_lt_zero i)⟩
end
theorem MkS.lenq {E:Env}{s s':St}{t z sz n:Nat}{l:List Value}{v:Value}{b:Nat}(h:MkS s sz n l v b)(ht:slN E t=some z)(Q:Value->St->Prop):W (A8 E .len [t] [v]) s' Q=Q (.int .i64 (n:Nat)) s':=h.len ht Q
section
variable {D M n:Nat}{k:DkS}{ks:List Int}{kv:Value}{col:Nat->Nat}{s:St}{a:ByteArray}{Q:Value->St->Prop}
theorem DR_ (hb:s.lim<=s.next)(hI:DkI s col D M k)(hn:100<=n)(q: ∀s1,Ext Any Non s s1->Q (.bool (!k.out)) s1):W (Ab envS (runF envS n) 28 [.pointer (some ⟨D,0,none⟩)]) s Q:=by
 have hb0:(s.cxN cxN).lim<=(s.cxN cxN).next:=hb
 have hI0:DkI (s.cxN cxN) col D M k:=hI.same rfl rfl
 refine Yr_ λtm t0=> ?_
 refine SA_.u ?_
 simp only[Av_,RR,SS,Nat.reduceEqDiff,reduceCtorEq, ↓reduceIte]
 refine VG_.u ?_
 simp only[VJ,RR,SS,Nat.reduceEqDiff,reduceCtorEq, ↓reduceIte,t0]
 refine GM hb0 hI0.d0 (by omega) λs1 m1 n1 x1=> ?_
 have hI1:=hI0.same m1 n1
 simp only[SS,Nat.reduceEqDiff,reduceCtorEq, ↓reduceIte,BN,Bool.not_false,Ai Kx (by decide)]
 refine aB Bx hI1.d6.at' ?_
 have y1:=x1.thenRd hb0 (D+(0+6))
 simp only[SS,Nat.reduceEqDiff,reduceCtorEq, ↓reduceIte,AO,Bq,AC,Bp,BZ,BJ,A0,AL,BN]
 refine aC (rs:=[2]) (vs:=[.bool (!k.out)]) rfl (.inl Sz_) (by omega) Ca_ Ui_ y1.cx (by simp[T.get_set]) ?_
 exact q _ y1.cx'
theorem Wz_ {m:Nat}(hb:s.lim<=s.next)(hI:DkI s col D M k)(hn:100<=n)(q: ∀s1,DkI s1 col D M {k with fused:=true,left:=(m:Nat)}->Ext Any (λx=>col x<1000) s s1->s1.next=s.next->Q (.int .i64 0) s1):W (Ab envS (runF envS n) 24 [.pointer (some ⟨D,0,none⟩), .int .i64 (m:Nat)]) s Q:=by
 have hb0:(s.cxN cxN).lim<=(s.cxN cxN).next:=hb
 have hI0:DkI (s.cxN cxN) col D M k:=hI.same rfl rfl
 refine Aab_ λtm t0 t1=> ?_
 refine Pq_.u ?_
 simp only[Zx,RR,SS,Nat.reduceEqDiff,reduceCtorEq, ↓reduceIte]
 refine Aba_.u ?_
 simp only[YS,RR,SS,Nat.reduceEqDiff,reduceCtorEq, ↓reduceIte,t0]
 refine GM hb0 hI0.d0 (by omega) λs1 m1 n1 x1=> ?_
 have hI1:=hI0.same m1 n1
 have n1':s1.next=s.next:=n1
 refine aH ZO_ ?_
 refine PW_.u ?_
 have e1:decide (((m:Nat):Int)<0)=false:=decide_eq_false (by omega)
 simp only[DC_,RR,SS,Nat.reduceEqDiff,reduceCtorEq, ↓reduceIte,AO,Bq,AC,Bp,BZ,BJ,A0,AL,t1,e1]
 refine aH WF_ ?_
 have hk0: ∀x,D<=x->x<D+7->col x<1000:=λx h1 h2=>by rw[hI.kd x h1 h2];decide
 refine XE_.u ?_
 simp only[FR_,RR,SS,Nat.reduceEqDiff,reduceCtorEq, ↓reduceIte,t0,t1,Ai Ii (by decide)]
 refine aG Bx rfl hI1.d4 λs5 n5 x5 o5=> ?_
 have z5:Ext Any (λy=>y=D+4) s1 s5:=x5.weak (x1.bnd hb0) (λ_ _ _=>trivial) λy _ hq=>by have h1:=hq.1;have h2:=hq.2;omega
 have hI5:=hI1.own (st:=k.steps) (fu:=true) (le:=k.left) (ou:=k.out) z5 (λy _ h=>by omega) (hI1.d3.ext z5 λh=>by omega) o5 (hI1.d5.ext z5 λh=>by omega) (hI1.d6.ext z5 λh=>by omega)
 simp only[SS,Nat.reduceEqDiff,reduceCtorEq, ↓reduceIte,Ai Jm (by decide)]
 have y5:=(x1.gw (G':=λx=>col x<1000) hb0 λ_ _ h=>h.elim).on z5 hb0 λy hy h=>hk0 y (by omega) (by omega)
 refine aG Au rfl hI5.d5 λs6 n6 x6 o6=> ?_
 have z6:Ext Any (λy=>y=D+5) s5 s6:=x6.weak (y5.bnd hb0) (λ_ _ _=>trivial) λy _ hq=>by have h1:=hq.1;have h2:=hq.2;omega
 have hI6:=hI5.own (st:=k.steps) (fu:=true) (le:=(m:Nat)) (ou:=k.out) z6 (λy _ h=>by omega) (hI5.d3.ext z6 λh=>by omega) (hI5.d4.ext z6 λh=>by omega) o6 (hI5.d6.ext z6 λh=>by omega)
 have y6:=y5.on z6 hb0 λy hy h=>hk0 y (by omega) (by omega)
 refine Mn_.u ?_
 simp only[RL,RR,SS,Nat.reduceEqDiff,reduceCtorEq, ↓reduceIte]
 refine aC (rs:=[4]) (vs:=[.int .i64 0]) rfl (.inl AaR_) (by omega) UM RH_ y6.cx (by simp[T.get_set]) ?_
 exact q _ (hI6.same rfl rfl) y6.cx' (by show s6.next=s.next;omega)
