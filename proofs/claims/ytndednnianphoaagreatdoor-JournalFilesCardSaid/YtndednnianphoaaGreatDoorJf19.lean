import Derived.Test.YtndednnianphoaaGreatDoorJf18
import Derived.Test.YtndednnianphoaaGreatDoorJf16
import Derived.Test.YtndednnianphoaaGreatDoorJf09
import Derived.KernelRfl
import Derived.Test.YtndednnianphoaaGreatDoorJf08
noncomputable section
namespace Go.Proofs.YtndednnianphoaaGreatDoor.Am
open Go.RowKit
def FileS.kept (f:FileS)(v:Value)(b:Nat)(m:List Nat):FileS:={f with sv:=v,sbk:=b,sb:=m,lv:= .slice none 0 0,lbk:=0,lb:=[]}
theorem FileI.kept {F:Nat→Prop}{s s':St}{col:Nat→Nat}{c b:Nat}{v:Value}{m:List Nat}{f:FileS}(h:FileI s col c f)(x:Ext F (fun y=>y=f.blk∨y=f.blk+1∨MkF 1 f.sb.length f.sbk y) s s')(h0:Own s' f.blk 0 v)(h1:Own s' f.blk 1 (.slice none 0 0))(hm:MkS s' 1 m.length (u8l m) v b)(hb:b=f.sbk∧m.length=f.sb.length∨s.next≤b):FileI s' (Bq col s.next (c+1)) c (f.kept v b m):=by
 have b1:=h.o1.1
 refine⟨h0,h1,fun y q1 q2=>(BH (by have h3:y<f.blk+2:=q2;omega)).trans (h.k y q1 q2),hm,fun y hy=> ?_, .inl ⟨rfl,rfl,rfl⟩,fun y hy=>absurd hy.1 (Nat.lt_irrefl 0)⟩
 have hy':MkF 1 m.length b y:=hy
 rcases hb with⟨q1,q2⟩|q1
 ·rw[q1,q2]at hy'
  exact(BH (h.ms.lt y hy')).trans (h.ks y hy')
 ·exact DQ (by have:=hy'.2.1;omega)
theorem FileS.kept_ent (f:FileS)(v:Value)(b:Nat)(m:List Nat):(f.kept v b m).ent=f.ent:=rfl
theorem Ow_:Ch_=[]:=by kernel_rfl
section
variable {n D M K j:Nat}{s:St}{k:DkS}{col:Nat→Nat}{a:ByteArray}{Q:Value→St→Prop}
theorem NE_ (hb:s.lim≤s.next)(hI:DkI s col D M k)(hj:j<k.fs.length)(hK:Own s K 0 (.pointer (some ⟨k.fs[j].blk,0,none⟩)))(kK:1000≤col K)(hlen:k.fs.length≤300)(hz:k.used≤4000000)(hn:20≤n)
  (q: ∀s1 col' v b,DkI s1 col' D M {k with fs:=k.fs.set j (k.fs[j].kept v b (k.fs[j].sb++k.fs[j].lb))}→(∀x,x<s.next→col' x=col x)→Ext Any (fun x=>col x<1000) s s1→Q (.tuple #[]) s1):
  W (Ay envS (runF envS n) 37 [.pointer (some ⟨K,0,none⟩)]) s Q:=by
 have hb0:(s.cxN cxN).lim≤(s.cxN cxN).next:=hb
 have hused:=DkS.used_at hj
 refine PC_ fun tm t0=> ?_
 have g:FileI (s.cxN cxN) col (2+3*j) k.fs[j]:=(hI.fl j hj).same rfl rfl
 have hI0:DkI (s.cxN cxN) col D M k:=hI.same rfl rfl
 have hK0:Own (s.cxN cxN) K 0 (.pointer (some ⟨k.fs[j].blk,0,none⟩)):=hK.same rfl rfl
 have hn0:(s.cxN cxN).next=s.next:=rfl
 have hcx:(s.cxN cxN).cx=cxN:=rfl
 generalize hs0:s.cxN cxN=s0 at *
 have kKs: ∀x,MkF 1 k.fs[j].sb.length k.fs[j].sbk x→x≠K:=fun x hx h=>by have:=g.ks x hx;rw[h]at this;omega
 have k0:=g.k k.fs[j].blk (Nat.le_refl _) (by omega)
 have k1:=g.k (k.fs[j].blk+1) (by omega) (by omega)
 refine Qx_.w rfl (by omega) ?_
 simp only[Xq,t0,AY]
 refine W.dload CQ ((hK0.same (s':=dSt s0.mem s0.next) rfl rfl).at') fun rd0 hr0=> ?_
 refine W.dload CQ ((hK0.same (s':=dSt s0.mem s0.next) rfl rfl).at') fun rd1 hr1=> ?_
 refine W.dload CQ ((hK0.same (s':=dSt s0.mem s0.next) rfl rfl).at') fun rd2 hr2=> ?_
 try simp only[AY]
 rw[W_dq fun s Q=>Ai (s:=s) _ Q]
 dsimp only
 try simp only[AY]
 rw[W_dq fun s Q=>Bg (s:=s) SD (by decide) Q]
 dsimp only
 try simp only[AY]
 refine W.dload Dl ((g.o0.same (s':=dSt s0.mem s0.next) rfl rfl).at') fun rd5 hr5=> ?_
 refine W.dload CQ ((hK0.same (s':=dSt s0.mem s0.next) rfl rfl).at') fun rd6 hr6=> ?_
 try simp only[AY]
 rw[W_dq fun s Q=>Ai (s:=s) _ Q]
 dsimp only
 try simp only[AY]
 rw[W_dq fun s Q=>Bg (s:=s) FQ (by decide) Q]
 dsimp only
 try simp only[AY]
 refine W.dload Dl ((g.o1.same (s':=dSt s0.mem s0.next) rfl rfl).at') fun rd9 hr9=> ?_
 try simp only[AY,Ag,Af,Ae]
 refine W.dopG ?_
 rw[Cn_]
 refine W.appV (s:=oSt s0.mem s0.next) (Nat.le_refl _) Gg_ (g.ms.same rfl rfl) ((g.ml.bs (Nat.lt_of_le_of_lt (show _≤5000000 by omega) (by decide))).same (s':=oSt s0.mem s0.next) rfl rfl).src.g (by decide) (by decide) (by omega) (by rw[Cn,Nat.mul_one]) (H2 _) fun s2 v2 b2 hb2 mk2 x2=>⟨_,_,x2,fun rd10 wr10 hr10 hw10=> ?_⟩
 have n2:s0.next≤s2.next:=x2.nxt
 try simp only[AY]
 rw[W_dq fun s Q=>Ai (s:=s) _ Q]
 dsimp only
 try simp only[AY]
 rw[W_dq fun s Q=>Bg (s:=s) SD (by decide) Q]
 dsimp only
 try simp only[AY]
 refine W.dopG ?_
 have o0:Own (oSt s2.mem s2.next) k.fs[j].blk 0 k.fs[j].sv:=((g.o0.same (s':=oSt s0.mem s0.next) rfl rfl).ext x2 fun h=>by have h1:=g.ks _ h;rw[Nat.add_zero,k0]at h1;omega).same rfl rfl
 have o1:Own (oSt s2.mem s2.next) k.fs[j].blk 1 k.fs[j].lv:=((g.o1.same (s':=oSt s0.mem s0.next) rfl rfl).ext x2 fun h=>by have h1:=g.ks _ h;rw[k1]at h1;omega).same rfl rfl
 refine W.store1 Dl mk2.one o0 fun s3 n3 x3 o3=>⟨_,_,x3,fun rd13 wr13 hr13 hw13=> ?_⟩
 have n3':s3.next=s2.next:=n3
 try simp only[AY]
 rw[W_dq fun s Q=>Ai (s:=s) _ Q]
 dsimp only
 try simp only[AY]
 rw[W_dq fun s Q=>Bg (s:=s) FQ (by decide) Q,Aa]
 refine⟨D9 ?_, ?_⟩
 ·simp only[List.reverse_cons,List.reverse_nil,List.nil_append,List.cons_append,allP,CJ,List.take,DA]
  have lts: ∀x,s0.next≤x→ ¬x<s0.next:=fun x h=>by omega
  have g10: ∀x,x∈wr10→ ¬x∈rd0:=fun x h1 h2=>kKs x (hw10 x h1).2 (by have:=hr0 x h2;omega)
  have g11: ∀x,x∈wr10→ ¬x∈rd1:=fun x h1 h2=>kKs x (hw10 x h1).2 (by have:=hr1 x h2;omega)
  have g13: ∀x,x∈wr13→ ¬x∈rd1:=fun x h1 h2=>by
   have h4:=hr1 x h2
   have h3:K=k.fs[j].blk:=by have h5:=(hw13 x h1).2;have h6:=h5.1;have h7:=h5.2;omega
   rw[←h3]at k0
   omega
  have a10: ∀x,x∈rd10→s0.next≤x→False:=fun x h1 h2=>by have h3:x<s0.next:=(hr10 x h1).1;omega
  have b10: ∀x,x∈wr10→s0.next≤x→False:=fun x h1 h2=>by have h3:x<s0.next:=(hw10 x h1).1;omega
  simp+contextual [lts,g10,g11,g13]
  exact⟨⟨.inl rfl, .inl rfl, .inl rfl, .inl rfl⟩, .inl rfl, .inl rfl, .inl rfl, .inl rfl, .inl rfl⟩
 ·refine W.cast (AcR_ _ _ _ _ _ _ _ _ _ _ _ _ _ _ _ _ _ _ _ _) ?_
  simp only[Ac,W_oS,Aa]
  generalize hs':(⟨(dSt s3.mem s3.next).mem,(dSt s3.mem s3.next).next,s0.lim,_,_,s0.cx⟩:St)=s7
  have m7:s7.mem=s3.mem:=by rw[←hs'];rfl
  have n7:s7.next=s3.next:=by rw[←hs'];rfl
  have x7:Ext Any (fun x=>x=k.fs[j].blk∨x=k.fs[j].blk+1∨MkF 1 k.fs[j].sb.length k.fs[j].sbk x) s0 s7:=by
   rw[←hs']
   refine Ext.drawG (by show s0.next≤s3.next;omega) (fun x hx hg=> ?_) ?_ fun _ _ _ _ _=>trivial
   ·have e1:T.get s3.mem x=T.get s2.mem x:=x3.mem x (by show x<s2.next;omega) fun h=>hg (.inl (by have h1:=h.1;have h2:=h.2;omega))
    exact e1.trans (x2.mem x hx fun h=>hg (.inr (.inr h)))
   ·simp only[List.mem_cons,List.not_mem_nil,or_false]
    rintro m (rfl|rfl|rfl|rfl|rfl|rfl|rfl|rfl|rfl|rfl|rfl|rfl|rfl|rfl|rfl|rfl) x hx hxl<;>first|(cases hx;done)|exact .inr (.inr (hw10 x hx).2)|exact .inl (by have h4:=(hw13 x hx).2;have h1:=h4.1;have h2:=h4.2;omega)
  have o17:Own s7 k.fs[j].blk 1 k.fs[j].lv:=(o1.ext x3 fun h=>by have h1:=h.1;have h2:=h.2;omega).same m7 n7
  refine W.store1 Dl rfl o17 fun s8 n8 x8 o8=> ?_
  try simp only[Ac,W_oS,W_on,Aa,W_mv,Ab,Ap,T.get_set,Ag,Af,Ar,Aq,Ae,Ah,reduceIte,Ak,As,Av,Aw,Ao,Aj,An,Au,Al,Ai,Nat.reduceEqDiff,reduceCtorEq, ↓reduceIte]
  have y8:Ext Any (fun x=>x=k.fs[j].blk∨x=k.fs[j].blk+1∨MkF 1 k.fs[j].sb.length k.fs[j].sbk x) s0 s8:=x7.on x8 hb0 fun y _ hq=> .inr (.inl (by have h1:=hq.1;have h2:=hq.2;omega))
  have hnb: ∀x,MkF 1 (k.fs[j].sb.length+k.fs[j].lb.length) b2 x→x≠k.fs[j].blk∧x≠k.fs[j].blk+1:=fun x hx=>by
   rcases hb2 with h|h
   ·rw[h.1,h.2,Nat.add_zero]at hx
    have h1:=g.ks x hx
    exact⟨fun h2=>by rw[h2]at h1;omega,fun h2=>by rw[h2]at h1;omega⟩
   ·have h3:=hx.2.1
    have h4:=g.o1.1
    have h6:s0.next≤b2:=h
    exact⟨by omega,by omega⟩
  have mk8:MkS s8 1 (k.fs[j].sb++k.fs[j].lb).length (u8l (k.fs[j].sb++k.fs[j].lb)) v2 b2:=by
   rw[Fk_,List.length_append]
   have mk3:=(mk2.same (s':=oSt s2.mem s2.next) rfl rfl).ext x3 fun x hx h=>(hnb x hx).1 (by have h1:=h.1;have h2:=h.2;omega)
   exact(mk3.same m7 n7).ext x8 fun x hx h=>(hnb x hx).2 (by have h1:=h.1;have h2:=h.2;omega)
  have o08:Own s8 k.fs[j].blk 0 v2:=(Own.same o3 m7 n7).ext x8 fun h=>by have h1:=h.1;have h2:=h.2;omega
  have hf:=g.kept y8 o08 o8 mk8 (hb2.imp (fun h=>⟨h.1,by rw[List.length_append,h.2,Nat.add_zero]⟩) fun h=>h)
  have hD:=hI0.file (col':=Bq col s0.next (2+3*j+1)) hj y8 (fun y hy h=>by
   rcases h with rfl|rfl|h
   ·omega
   ·omega
   ·have:=g.ks y h
    omega) (fun y hy=>BH hy) hf (FileS.kept_ent ..)
  refine W.end' (rs:=[]) (vs:=[]) SA_ (.inr Ow_) (by omega) Ep_ Ru_ (y8.cx.trans hcx) rfl ?_
  refine q _ (Bq col s0.next (2+3*j+1)) v2 b2 (hD.same rfl rfl) (fun x hx=>BH (by omega)) ?_
  have y9:=y8.gw (G':=fun x=>col x<1000) hb0 fun y hy h=>by
   rcases h with rfl|rfl|h
   ·omega
   ·omega
   ·have:=g.ks y h
    omega
  rw[←hs0]at y9
  exact y9.cx'
theorem WK_ (hb:s.lim≤s.next)(hI:DkI s col D M k)(hlen:k.fs.length≤300)(hz:k.used≤4000000)(hn:200≤n)
  (q1:k.out=true→ ∀s1 col',After s s1 col col' D M k→Q (.int .i64 10) s1)
  (q2:k.out=false→Bh k.fs a=none→ ∀s1 col',After s s1 col col' D M k→Q (.int .i64 6) s1)
  (q3:k.out=false→ ∀j,Bh k.fs a=some j→(k.fused=true∧k.left=0)→ ∀s1 col',After s s1 col col' D M {k with out:=true}→Q (.int .i64 10) s1)
  (q4:k.out=false→ ∀j,Bh k.fs a=some j→ ∀hj:j<k.fs.length,¬(k.fused=true∧k.left=0)→ ∀s1 col' v b,After s s1 col col' D M {k with fs:=k.fs.set j (k.fs[j].kept v b (k.fs[j].sb++k.fs[j].lb)),steps:=wrap64 (k.steps+1),left:=if k.fused then wrap64 (k.left-1)else k.left}→Q (.int .i64 0) s1):
  W (Ay envS (runF envS n) 12 [.pointer (some ⟨D,0,none⟩), .string a]) s Q:=by
 have hb0:(s.cxN cxN).lim≤(s.cxN cxN).next:=hb
 have hI0:DkI (s.cxN cxN) (Bq col s.next 1000) D M k:=(hI.col fun x hx=>BH hx).same rfl rfl
 have hag: ∀x,x<s.next→Bq col s.next 1000 x=col x:=fun x hx=>BH hx
 have hnew: ∀x,s.next≤x→Bq col s.next 1000 x=1000:=fun x hx=>DQ hx
 have hDlt:D+6<s.next:=hI.d6.1
 generalize hcol1:Bq col s.next 1000=col1 at *
 refine Yt_ fun tm t0 t1=> ?_
 refine KE_.w rfl (by omega) ?_
 simp only[BD_,Aa,W_mv,Ab]
 refine Qf_.w Tc_ (by omega) ?_
 simp only[Cj_,Ac,W_on,Aa,W_mv,Ab,T.get_set,Ag,Af,Ae,Ah,reduceIte,reduceCtorEq, ↓reduceIte,t0]
 refine N5 (o:=k.out) hb0 (hI0.d0.same rfl rfl) (hI0.d6.same rfl rfl) (by omega) fun s1 m1 n1 x1=> ?_
 have y1:=x1
 have n1':s1.next=s.next:=n1
 have hI1:DkI s1 col1 D M k:=hI0.same m1 n1
 try simp only[Ac,W_oS,W_on,Aa,W_mv,Ab,Ap,T.get_set,Ag,Af,Ar,Aq,Ae,Ah,reduceIte,Ak,As,Av,Aw,Ao,Aj,An,Au,Al,Ai,Nat.reduceEqDiff,reduceCtorEq, ↓reduceIte]
 refine ZD_.w Xw_ (by omega) ?_
 cases ho:k.out with
 |true=>
  simp only[TF,Ac,W_oS,Aa,W_mv,Ab,T.get_set,reduceIte, ↓reduceIte,Bt]
  refine W.cond (v:=true) Ux Zd (by simp[T.get_set]) (by omega) (fun _=> ?_) fun h=>by cases h
  refine UX_.w AeM_ (by omega) ?_
  simp only[EL_,Aa,W_mv,Ab,T.get_set,reduceIte,Nat.reduceEqDiff, ↓reduceIte]
  refine W.end' (rs:=[4]) (vs:=[.int .i64 10]) NB_ (.inl IB_) (by omega) IZ KQ y1.cx (by simp[T.get_set]) ?_
  exact q1 ho _ col1 ⟨hI1.same rfl rfl,hag,(y1.gw hb0 fun _ _ h=>h.elim).cx'⟩
 |false=>
  simp only[TF,Ac,W_oS,Aa,W_mv,Ab,T.get_set,reduceIte,reduceCtorEq, ↓reduceIte,Bt]
  refine W.cond (v:=false) Ux Zd (by simp[T.get_set]) (by omega) (fun h=>by cases h) fun _=> ?_
  refine Pg_.w Acq_ (by omega) ?_
  simp only[VP,Ac,W_oS,Aa,W_mv,Ab,T.get_set,reduceIte,Ai,Nat.reduceEqDiff,reduceCtorEq, ↓reduceIte,t0,t1,Bg DE (by decide)]
  refine W.load1 DI hI1.d1.at' ?_
  try simp only[Ac,W_oS,W_on,Aa,W_mv,Ab,Ap,T.get_set,Ag,Af,Ar,Aq,Ae,Ah,reduceIte,Ak,As,Av,Aw,Ao,Aj,An,Au,Al,Ai,Nat.reduceEqDiff,reduceCtorEq, ↓reduceIte]
  refine Gu (fs:=k.fs) (mx:=k.mx) (hI1.om.same rfl rfl) ?_
  try simp only[Ac,W_oS,W_on,Aa,W_mv,Ab,Ap,T.get_set,Ag,Af,Ar,Aq,Ae,Ah,reduceIte,Ak,As,Av,Aw,Ao,Aj,An,Au,Al,Ai,Nat.reduceEqDiff,reduceCtorEq, ↓reduceIte]
  refine W.alloc Gm_ fun s2 n2 x2 o2=> ?_
  have y1':=(y1.thenRd hb0 (D+(0+1))).thenRd hb0 M
  have y2:=y1'.on x2 hb0 fun _ _ h=>h
  have x12:Ext Any Non s1 s2:=(((Ext.refl (F:=Any) (G:=Non) s1).thenRd (y1.bnd hb0) (D+(0+1))).thenRd (y1.bnd hb0) M).on x2 (y1.bnd hb0) fun _ _ h=>h
  have hI2:=hI1.ext0 x12 hlen
  have en:((s1.rdN (D+(0+1))).rdN M).next=s.next:=n1'
  rw[en]at o2 n2 ⊢
  have n2':s2.next=s.next+2:=n2
  have hlv:oneCell (BG k.fs a)=true:=by
   unfold BG
   cases Bh k.fs a with
   |none=>rfl
   |some j=>simp only;cases k.fs[j]?<;>rfl
  try simp only[Ac,W_oS,W_on,Aa,W_mv,Ab,Ap,T.get_set,Ag,Af,Ar,Aq,Ae,Ah,reduceIte,Ak,As,Av,Aw,Ao,Aj,An,Au,Al,Ai,Nat.reduceEqDiff,reduceCtorEq, ↓reduceIte]
  refine W.store1 CQ hlv (o2 0 _ rfl) fun s3 n3 x3 o3=> ?_
  try simp only[Ac,W_oS,W_on,Aa,W_mv,Ab,Ap,T.get_set,Ag,Af,Ar,Aq,Ae,Ah,reduceIte,Ak,As,Av,Aw,Ao,Aj,An,Au,Al,Ai,Nat.reduceEqDiff,reduceCtorEq, ↓reduceIte]
  have x3':Ext Any (fun y=>y=s.next) s2 s3:=x3.weak (y2.bnd hb0) (fun _ _ _=>trivial) fun y _ hq=>by have h1:=hq.1;have h2:=hq.2;omega
  have y3:Ext Any Non (s.cxN cxN) s3:=y2.on x3' hb0 fun y hy h=>by have:y<s.next:=hy;omega
  have hI3:DkI s3 col1 D M k:=hI2.ext x3' hlen fun y _ h=>by rw[hnew y (by omega)];exact Nat.le_refl _
  have n3':s3.next=s.next+2:=by omega
  refine Qg_.w TI_ (by omega) ?_
  simp only[Ec_,Ac,W_oS,Aa,Ab,T.get_set,reduceIte, ↓reduceIte]
  refine W.load1 CQ o3.at' ?_
  have y4:=y3.thenRd hb0 (s.next+0)
  have hI4:DkI (s3.rdN (s.next+0)) col1 D M k:=hI3.same rfl rfl
  have oK:Own (s3.rdN (s.next+0)) s.next 0 (BG k.fs a):=o3.same rfl rfl
  have n4:(s3.rdN (s.next+0)).next=s.next+2:=n3'
  generalize s3.rdN (s.next+0)=s4 at *
  cases hj:Bh k.fs a with
  |none=>
   have hv:BG k.fs a= .pointer none:=by unfold BG;rw[hj]
   rw[hv]
   simp only[M8]
   refine W.cond (v:=true) BA_ Bt_ (by simp[T.get_set]) (by omega) (fun _=> ?_) fun h=>by cases h
   refine AfG_.w Pn_ (by omega) ?_
   simp only[Cr_,Aa,W_mv,Ab]
   refine W.end' (rs:=[4]) (vs:=[.int .i64 6]) SN_ (.inl MA_) (by omega) IZ KQ y4.cx (by simp[T.get_set]) ?_
   exact q2 ho hj _ col1 ⟨hI4.same rfl rfl,hag,(y4.gw hb0 fun _ _ h=>h.elim).cx'⟩
  |some j=>
   have hlt:=Fp hj
   have hv:BG k.fs a= .pointer (some ⟨k.fs[j].blk,0,none⟩):=by
    unfold BG
    rw[hj]
    simp only[List.getElem?_eq_getElem hlt]
   rw[hv]at oK ⊢
   simp only[C8 FK]
   refine W.cond (v:=false) BA_ Bt_ (by simp[T.get_set]) (by omega) (fun h=>by cases h) fun _=> ?_
   refine ZB_.w IO_ (by omega) ?_
   simp only[Fh_,Ac,W_oS,W_on,Aa,W_mv,Ab,T.get_set,Ag,Af,Ae,Ah,reduceIte,Nat.reduceEqDiff,reduceCtorEq, ↓reduceIte,t0]
   have hD0:=hI4.kd
   refine SO (f2:=37) (y4.bnd hb0) hI4.d3 hI4.d4 hI4.d5 hI4.d6 (by omega) (fun hf s9 n9 x9 o9=> ?_) fun hf n9 s9 hn9 hcx9 hnx9 x9 o93 o95=> ?_
   ·have y9:Ext Any (fun x=>col1 x<1000) (s.cxN cxN) s9:=(y4.gw hb0 fun _ _ h=>h.elim).on x9 hb0 fun y _ h=>by rw[h,hD0 (D+6) (by omega) (by omega)];decide
    try simp only[Ac,W_oS,W_on,Aa,W_mv,Ab,Ap,T.get_set,Ag,Af,Ar,Aq,Ae,Ah,reduceIte,Ak,As,Av,Aw,Ao,Aj,An,Au,Al,Ai,Nat.reduceEqDiff,reduceCtorEq, ↓reduceIte]
    refine W.end' (rs:=[4]) (vs:=[.int .i64 10]) DP_ (.inl X5) (by omega) IZ KQ y9.cx (by simp[T.get_set]) ?_
    have hd:Ext Any (fun y=>y=D+6) s4 s9:=x9
    have hI9:=hI4.own (st:=k.steps) (fu:=k.fused) (le:=k.left) (ou:=true) hd (fun y _ h=>by omega) (hI4.d3.ext hd fun h=>by omega) (hI4.d4.ext hd fun h=>by omega) (hI4.d5.ext hd fun h=>by omega) o9
    exact q3 ho j hj hf _ col1 ⟨hI9.same rfl rfl,hag,(y9.gw hb0 fun y hy h=>by rw[←hag y hy];exact h).cx'⟩
   ·have hd:Ext Any (fun y=>y=D+3∨y=D+5) s4 (s9.cxN s4.cx):=x9
    have hI9':=hI4.own (st:=wrap64 (k.steps+1)) (fu:=k.fused) (le:=if k.fused then wrap64 (k.left-1)else k.left) (ou:=k.out) hd (fun y _ h=>by omega) (o93.same rfl rfl) (hI4.d4.ext hd fun h=>by omega) (o95.same rfl rfl) (hI4.d6.ext hd fun h=>by omega)
    have hI9:=hI9'.same (s':=s9) rfl rfl
    have vK:=(oK.ext hd fun h=>by omega).same (s':=s9) rfl rfl
    have y9:Ext Any (fun x=>col1 x<1000) (s.cxN cxN) (s9.cxN s4.cx):=(y4.gw hb0 fun _ _ h=>h.elim).on hd hb0 fun y _ h=>by rw[hD0 y (by omega) (by omega)];decide
    have y9':Ext Any (fun x=>col1 x<1000) (s.cxN cxN) s9:=⟨y9.nxt,y9.lim,hcx9,y9.mem,y9.rd,y9.wr⟩
    have hn9':s9.next=s4.next:=hnx9
    show W (Ay envS (runF envS n9) 37 [.pointer (some ⟨s.next,0,none⟩)]) s9 _
    refine NE_ (K:=s.next) (y9'.bnd hb0) hI9 hlt vK (by rw[hnew _ (by omega)];exact Nat.le_refl _) hlen (by show DkS.used _≤_;exact hz) (by omega) fun s10 col' v b hI10 hag10 x10=> ?_
    refine⟨x10.cx.trans hcx9, ?_⟩
    have y10:=y9'.on x10 hb0 fun y hy h=>h
    have e8:s4.cx=cxN:=y4.cx
    rw[e8]
    try simp only[Ac,W_oS,W_on,Aa,W_mv,Ab,Ap,T.get_set,Ag,Af,Ar,Aq,Ae,Ah,reduceIte,Ak,As,Av,Aw,Ao,Aj,An,Au,Al,Ai,Nat.reduceEqDiff,reduceCtorEq, ↓reduceIte]
    refine W.end' (rs:=[4]) (vs:=[.int .i64 0]) DP_ (.inl X5) (by omega) IZ KQ rfl (by simp[T.get_set]) ?_
    exact q4 ho j hj hlt hf _ col' v b ⟨hI10.same rfl rfl,fun x hx=>(hag10 x (by omega)).trans (hag x hx),(y10.gw hb0 fun y hy h=>by rw[←hag y hy];exact h).cx'⟩
end
def Ps:Nat:=A8 Tryz.f72
def FY_:Code:=Tryz.f72.body.getD .skip
theorem Xv:envS.fn.get 72=some Tryz.f72:=by kernel_rfl
theorem Ach_ {a0:Value}{n:Nat}{s:St}{Q:Value→St→Prop}(h: ∀tm,T.get tm 0=some a0→W (runF envS n ⟨72,5,Ps,tm,[.code FY_], .run, .normal,none⟩) (s.cxN cxN) fun p s1=>Q p.1 (s1.cxN s.cx)):W (Ay envS (runF envS n) 72 [a0]) s Q:=
 W.call (by kernel_rfl) (by kernel_rfl) Xv (by kernel_rfl) rfl rfl (by simp) (h _ (by kernel_rfl))
theorem Yg_:Tryz.f72.results.toList=[.tmp 2]:=by kernel_rfl
def Qi:List Item:=skim 64 [.code FY_]
def Nk:List Item:=skim 64 Qi.tail
theorem Aer_:skim 64 Qi.tail=Nk:=by kernel_rfl
def Tw:List Item:=skim 64 Nk.tail
theorem AeY_:skim 64 Nk.tail=Tw:=by kernel_rfl
def CE_ (E:Env)(call round:Ad)(tm:T Value):M (T Value):=
 mv (some (.int .u32 0)) fun v2=>
 setF 2 v2 tm fun tm1=>
 M.pure tm1
theorem Rg_:RegEq 72 5 Ps Qi CE_:=⟨by kernel_rfl,fun _ _ _ _ _ _ _ _ _=>by kernel_rfl⟩
def Ay_ (E:Env)(call round:Ad)(tm:T Value):M (T Value):=
 mv (T.get tm 0) fun v3=>
 M.bind (M.on (some (.func (.func 83) #[] #[])) fun f=>M.on (seqO [(some (.int .u32 0)),(some v3)]) fun l=>AL call round f l) fun v4=>
 mv (some v4) fun v2=>
 setF 2 v2 tm fun tm1=>
 M.pure tm1
theorem Lt_:RegEq 72 5 Ps Nk Ay_:=⟨by kernel_rfl,fun _ _ _ _ _ _ _ _ _=>by kernel_rfl⟩
theorem Afc_: ∃k,Tw= .code .ret::k:=⟨Tw.tail,by kernel_rfl⟩
def Kp:Nat:=A8 Tryz.f53
def DB_:Code:=Tryz.f53.body.getD .skip
theorem VT:envS.fn.get 53=some Tryz.f53:=by kernel_rfl
theorem Pc_ {a0:Value}{n:Nat}{s:St}{Q:Value→St→Prop}(h: ∀tm,T.get tm 0=some a0→W (runF envS n ⟨53,21,Kp,tm,[.code DB_], .run, .normal,none⟩) (s.cxN cxN) fun p s1=>Q p.1 (s1.cxN s.cx)):W (Ay envS (runF envS n) 53 [a0]) s Q:=
 W.call (by kernel_rfl) (by kernel_rfl) VT (by kernel_rfl) rfl rfl (by simp) (h _ (by kernel_rfl))
theorem AgC_:Tryz.f53.results.toList=[.tmp 2]:=by kernel_rfl
def RY:List Item:=skim 64 [.code DB_]
def JA:List Item:=skim 64 RY.tail
theorem ZG_:skim 64 RY.tail=JA:=by kernel_rfl
def Ox:List Item:=skim 64 JA.tail
theorem Acy_:skim 64 JA.tail=Ox:=by kernel_rfl
def To:List Item:=skim 64 Ox.tail
theorem OZ_:skim 64 Ox.tail=To:=by kernel_rfl
def WD (E:Env)(call round:Ad)(tm:T Value):M (T Value):=
 mv (some (.slice none 0 0)) fun v2=>
 setF 2 v2 tm fun tm1=>
 M.pure tm1
theorem Afy_:RegEq 53 21 Kp RY WD:=⟨by kernel_rfl,fun _ _ _ _ _ _ _ _ _=>by kernel_rfl⟩
def As_ (E:Env)(call round:Ad)(tm:T Value):M (T Value):=
 mv (T.get tm 0) fun v4=>
 M.bind (M.on (some (.func (.func 72) #[] #[])) fun f=>M.on (seqO [(some v4)]) fun l=>AL call round f l) fun v5=>
 mv (some v5) fun v3=>
 setF 3 v3 tm fun tm1=>
 M.pure tm1
theorem Ig_:RegEq 53 21 Kp JA As_:=⟨by kernel_rfl,fun _ _ _ _ _ _ _ _ _=>by kernel_rfl⟩
def AA_ (E:Env)(call round:Ad)(tm:T Value):M (T Value):=
 mv (T.get tm 0) fun v6=>
 mv (T.get tm 3) fun v7=>
 M.bind (oS (some v7) fun a=>BP E 118 5 a) fun v8=>
 mv (T.get tm 3) fun v9=>
 M.bind (oS (some v9) fun a=>oS (some (.int .u64 8)) fun b=>Cl.get (aBin E .shr 118 (.tmp 9) (.const (.int .u64 8))) a b) fun v10=>
 M.bind (oS (some v10) fun a=>BP E 118 5 a) fun v11=>
 mv (T.get tm 3) fun v12=>
 M.bind (oS (some v12) fun a=>oS (some (.int .u64 16)) fun b=>Cl.get (aBin E .shr 118 (.tmp 12) (.const (.int .u64 16))) a b) fun v13=>
 M.bind (oS (some v13) fun a=>BP E 118 5 a) fun v14=>
 mv (T.get tm 3) fun v15=>
 M.bind (oS (some v15) fun a=>oS (some (.int .u64 24)) fun b=>Cl.get (aBin E .shr 118 (.tmp 15) (.const (.int .u64 24))) a b) fun v16=>
 M.bind (oS (some v16) fun a=>BP E 118 5 a) fun v17=>
 M.bind (oS (seqP [(0,(some v8)),(1,(some v11)),(2,(some v14)),(3,(some v17))]) fun ps=>Cu E 23 4 ps) fun v18=>
 M.bind (oS (seqP [(0,(some v6)),(1,(some v18))]) fun ps=>Cu E 114 2 ps) fun v19=>
 M.bind (M.on (some (.func (.func 43) #[] #[])) fun f=>M.on (seqO [(some v19)]) fun l=>AL call round f l) fun v20=>
 mv (some v20) fun v2=>
 setF 2 v2 tm fun tm1=>
 M.pure tm1
theorem Ack_:RegEq 53 21 Kp Ox AA_:=⟨by kernel_rfl,fun _ _ _ _ _ _ _ _ _=>by kernel_rfl⟩
theorem QY_: ∃k,To= .code .ret::k:=⟨To.tail,by kernel_rfl⟩
def F3:Nat:=A8 Tryz.f22
def AW_:Code:=Tryz.f22.body.getD .skip
theorem KK:envS.fn.get 22=some Tryz.f22:=by kernel_rfl
theorem RK_ {a0:Value}{n:Nat}{s:St}{Q:Value→St→Prop}(h: ∀tm,T.get tm 0=some a0→W (runF envS n ⟨22,23,F3,tm,[.code AW_], .run, .normal,none⟩) (s.cxN cxN) fun p s1=>Q p.1 (s1.cxN s.cx)):W (Ay envS (runF envS n) 22 [a0]) s Q:=
 W.call (by kernel_rfl) (by kernel_rfl) KK (by kernel_rfl) rfl rfl (by simp) (h _ (by kernel_rfl))
theorem Um:Tryz.f22.results.toList=[.tmp 2, .tmp 3]:=by kernel_rfl
def SF:List Item:=skim 64 [.code AW_]
def OK:List Item:=skim 64 SF.tail
theorem Td_:skim 64 SF.tail=OK:=by kernel_rfl
def NW:List Item:=skim 64 OK.tail
theorem Lq_:skim 64 OK.tail=NW:=by kernel_rfl
def Ha:List Item:=skim 64 NW.tail
theorem PE:skim 64 NW.tail=Ha:=by kernel_rfl
def OM:List Item:=skim 64 (brT Ha)
theorem Bs_:skim 64 (brT Ha)=OM:=by kernel_rfl
def NY:List Item:=skim 64 (brF Ha)
theorem SG_:skim 64 (brF Ha)=NY:=by kernel_rfl
def TX:List Item:=skim 64 OM.tail
theorem Bz_:skim 64 OM.tail=TX:=by kernel_rfl
def SQ:List Item:=skim 64 NY.tail
theorem WO_:skim 64 NY.tail=SQ:=by kernel_rfl
def Es_ (E:Env)(call round:Ad)(tm:T Value):M (T Value):=
 mv (some (.slice none 0 0)) fun v2=>
 setF 2 v2 tm fun tm1=>
 mv (some (.int .i64 0)) fun v3=>
 setF 3 v3 tm1 fun tm2=>
 M.pure tm2
theorem AeV_:RegEq 22 23 F3 SF Es_:=⟨by kernel_rfl,fun _ _ _ _ _ _ _ _ _=>by kernel_rfl⟩
def Z6 (E:Env)(call round:Ad)(tm:T Value):M (T Value):=
 mv (T.get tm 0) fun v5=>
 M.bind (oS (seqO [(some v5)]) fun l=>Ba E .len [23] l) fun v6=>
 M.bind (oS (some v6) fun a=>oS (some (.int .i64 4)) fun b=>Cl.get (aBin E .sub 3 (.tmp 6) (.const (.int .i64 4))) a b) fun v7=>
 mv (some v7) fun v4=>
 setF 4 v4 tm fun tm1=>
 M.pure tm1
theorem Vk_:RegEq 22 23 F3 OK Z6:=⟨by kernel_rfl,fun _ _ _ _ _ _ _ _ _=>by kernel_rfl⟩
def SI (E:Env)(call round:Ad)(tm:T Value):M (T Value):=
 mv (T.get tm 4) fun v8=>
 M.bind (oS (some v8) fun a=>oS (some (.int .i64 0)) fun b=>Cl.get (aBin E .lss 3 (.tmp 8) (.const (.int .i64 0))) a b) fun v9=>
 mv (some v9) fun v10=>
 M.bind (M.chk (isK v10) (M.if (isB v10 false) (oS (T.get tm 0) fun a=>M.pure a) (M.pure undef))) fun v11=>
 M.bind (M.chk (isK v10) (M.if (isB v10 false) (oS (T.get tm 4) fun a=>M.pure a) (M.pure undef))) fun v12=>
 M.bind (M.chk (isK v10) (M.if (isB v10 false) (M.on (some v11) fun a=>M.on (some none) fun b=>M.on (onO (some v12) fun v=>some (some v)) fun c=>B5 E 23 a b c) (M.pure undef))) fun v13=>
 M.bind (M.chk (isK v10) (M.if (isB v10 false) (M.on (some (.func (.func 53) #[] #[])) fun f=>M.on (seqO [(some v13)]) fun l=>AL call round f l) (M.pure undef))) fun v14=>
 M.bind (M.chk (isK v10) (M.if (isB v10 false) (oS (T.get tm 0) fun a=>M.pure a) (M.pure undef))) fun v15=>
 M.bind (M.chk (isK v10) (M.if (isB v10 false) (M.on (some (.func (.func 52) #[] #[])) fun f=>M.on (seqO [(some v14),(some v15)]) fun l=>AL call round f l) (M.pure undef))) fun v16=>
 M.bind (M.chk (isK v10) (M.if (isB v10 false) (oS (some v16) fun a=>kUn E.P .not a) (M.pure undef))) fun v17=>
 M.bind (M.on (some v10) fun a=>M.on (some (.bool true)) fun b=>M.on (some v17) fun c=>Bj a b c) fun v18=>
 setF 18 v18 tm fun tm1=>
 M.pure tm1
theorem AfD_:RegEq 22 23 F3 NW SI:=⟨by kernel_rfl,fun _ _ _ _ _ _ _ _ _=>by kernel_rfl⟩
theorem Te:A4 Ha=some 18:=by kernel_rfl
def T2 (E:Env)(call round:Ad)(tm:T Value):M (T Value):=
 mv (some (.slice none 0 0)) fun v2=>
 setF 2 v2 tm fun tm1=>
 mv (some (.int .i64 4)) fun v3=>
 setF 3 v3 tm1 fun tm2=>
 M.pure tm2
theorem Ge_:RegEq 22 23 F3 OM T2:=⟨by kernel_rfl,fun _ _ _ _ _ _ _ _ _=>by kernel_rfl⟩
def EN_ (E:Env)(call round:Ad)(tm:T Value):M (T Value):=
 mv (T.get tm 0) fun v19=>
 mv (T.get tm 4) fun v20=>
 M.bind (M.on (some v19) fun a=>M.on (some none) fun b=>M.on (onO (some v20) fun v=>some (some v)) fun c=>B5 E 23 a b c) fun v21=>
 M.bind (M.on (some (.func (.func 54) #[] #[])) fun f=>M.on (seqO [(some v21)]) fun l=>AL call round f l) fun v22=>
 mv (some v22) fun v2=>
 setF 2 v2 tm fun tm1=>
 mv (some (.int .i64 0)) fun v3=>
 setF 3 v3 tm1 fun tm2=>
 M.pure tm2
theorem Aar_:RegEq 22 23 F3 NY EN_:=⟨by kernel_rfl,fun _ _ _ _ _ _ _ _ _=>by kernel_rfl⟩
theorem Ga_: ∃k,TX= .code .ret::k:=⟨TX.tail,by kernel_rfl⟩
theorem PI_: ∃k,SQ= .code .ret::k:=⟨SQ.tail,by kernel_rfl⟩
def B0:Nat:=A8 Tryz.f43
abbrev Hk:Nat:=36
def U2:Code:=Tryz.f43.body.getD .skip
theorem Q5:envS.fn.get 43=some Tryz.f43:=by kernel_rfl
theorem Bm_ {a0:Value}{n:Nat}{s:St}{Q:Value→St→Prop}(h: ∀tm,T.get tm 0=some a0→W (runF envS n ⟨43,36,B0,tm,[.code U2], .run, .normal,none⟩) (s.cxN cxN) fun p s1=>Q p.1 (s1.cxN s.cx)):W (Ay envS (runF envS n) 43 [a0]) s Q:=
 W.call (by kernel_rfl) (by kernel_rfl) Q5 (by kernel_rfl) rfl rfl (by simp) (h _ (by kernel_rfl))
theorem Ym:Tryz.f43.results.toList=[.tmp 2]:=by kernel_rfl
def TH:List Item:=skim 64 [.code U2]
def Ov:List Item:=skim 64 TH.tail
theorem Dn_:skim 64 TH.tail=Ov:=by kernel_rfl
def LW:List Item:=skim 64 Ov.tail
theorem GJ_:skim 64 Ov.tail=LW:=by kernel_rfl
def GT:List Item:=skim 64 LW.tail
theorem W0:skim 64 LW.tail=GT:=by kernel_rfl
def FZ:List Item:=skim 64 GT.tail
theorem De_:skim 64 GT.tail=FZ:=by kernel_rfl
def Oh:List Item:=skim 64 (brT FZ)
theorem Lu_:skim 64 (brT FZ)=Oh:=by kernel_rfl
def H3:List Item:=skim 64 (brF FZ)
theorem Abe_:skim 64 (brF FZ)=H3:=by kernel_rfl
def NP:List Item:=skim 64 Oh.tail
theorem AfH_:skim 64 Oh.tail=NP:=by kernel_rfl
def Kq:List Item:=skim 64 H3.tail
theorem UI:skim 64 H3.tail=Kq:=by kernel_rfl
def MO:List Item:=skim 64 NP.tail
theorem Ph_:skim 64 NP.tail=MO:=by kernel_rfl
def FI:List Item:=skim 64 Kq.tail
theorem Fm_:skim 64 Kq.tail=FI:=by kernel_rfl
def Nv:List Item:=skim 64 MO.tail
theorem Yu_:skim 64 MO.tail=Nv:=by kernel_rfl
def Hl:List Item:=skim 64 FI.tail
theorem Nr:skim 64 FI.tail=Hl:=by kernel_rfl
def TE:List Item:=skim 64 (brF Nv)
theorem PW_:skim 64 (brF Nv)=TE:=by kernel_rfl
def LX:List Item:=skim 64 (brT Hl)
theorem FP_:skim 64 (brT Hl)=LX:=by kernel_rfl
def GV:List Item:=skim 64 (brF Hl)
theorem Ah_:skim 64 (brF Hl)=GV:=by kernel_rfl
theorem NH_:skim 64 TE.tail=GT:=by kernel_rfl
def J4:List Item:=skim 64 LX.tail
theorem Ex_:skim 64 LX.tail=J4:=by kernel_rfl
def Pf:List Item:=skim 64 GV.tail
theorem Z4:skim 64 GV.tail=Pf:=by kernel_rfl
def QA:List Item:=skim 64 J4.tail
theorem AB_:skim 64 J4.tail=QA:=by kernel_rfl
theorem CF_:skim 64 QA.tail=FI:=by kernel_rfl
def T9 (E:Env)(call round:Ad)(tm:T Value):M (T Value):=
 mv (some (.slice none 0 0)) fun v2=>
 setF 2 v2 tm fun tm1=>
 M.pure tm1
theorem Gw_:RegEq 43 36 B0 TH T9:=⟨by kernel_rfl,fun _ _ _ _ _ _ _ _ _=>by kernel_rfl⟩
def PN (E:Env)(call round:Ad)(tm:T Value):M (T Value):=
 mv (some (.int .i64 0)) fun v3=>
 setF 3 v3 tm fun tm1=>
 M.pure tm1
theorem EW_:RegEq 43 36 B0 Ov PN:=⟨by kernel_rfl,fun _ _ _ _ _ _ _ _ _=>by kernel_rfl⟩
def PC (E:Env)(call round:Ad)(tm:T Value):M (T Value):=
 mv (T.get tm 0) fun v9=>
 setF 9 v9 tm fun tm1=>
 M.bind (oS (seqO [(some v9)]) fun l=>Ba E .len [114] l) fun v10=>
 setF 10 v10 tm1 fun tm2=>
 mv (some (.int .i64 0)) fun v11=>
 setF 11 v11 tm2 fun tm3=>
 M.pure tm3
theorem AE_:RegEq 43 36 B0 LW PC:=⟨by kernel_rfl,fun _ _ _ _ _ _ _ _ _=>by kernel_rfl⟩
def Q7 (E:Env)(call round:Ad)(tm:T Value):M (T Value):=
 M.bind (oS (T.get tm 11) fun a=>oS (T.get tm 10) fun b=>Cl.get (aBin E .lss 3 (.tmp 11) (.tmp 10)) a b) fun v12=>
 setF 12 v12 tm fun tm1=>
 M.pure tm1
theorem Vx:RegEq 43 36 B0 GT Q7:=⟨by kernel_rfl,fun _ _ _ _ _ _ _ _ _=>by kernel_rfl⟩
theorem UL:A4 FZ=some 12:=by kernel_rfl
def AI_ (E:Env)(call round:Ad)(tm:T Value):M (T Value):=
 M.bind (oS (T.get tm 9) fun a=>oS (T.get tm 11) fun b=>BD E 114 a b) fun v13=>
 M.bind (oS (some v13) fun a=>AC E 23 a) fun v14=>
 mv (some v14) fun v5=>
 setF 5 v5 tm fun tm1=>
 M.pure tm1
theorem Sm_:RegEq 43 36 B0 Oh AI_:=⟨by kernel_rfl,fun _ _ _ _ _ _ _ _ _=>by kernel_rfl⟩
def P4 (E:Env)(call round:Ad)(tm:T Value):M (T Value):=
 mv (T.get tm 3) fun v23=>
 M.bind (M.on (some (.func (.func 65) #[] #[])) fun f=>M.on (seqO [(some (.slice none 0 0)),(some v23)]) fun l=>AL call round f l) fun v24=>
 mv (some v24) fun v6=>
 setF 6 v6 tm fun tm1=>
 M.pure tm1
theorem BQ_:RegEq 43 36 B0 H3 P4:=⟨by kernel_rfl,fun _ _ _ _ _ _ _ _ _=>by kernel_rfl⟩
def YD (E:Env)(call round:Ad)(tm:T Value):M (T Value):=
 mv (T.get tm 3) fun v15=>
 mv (T.get tm 5) fun v16=>
 M.bind (oS (seqO [(some v16)]) fun l=>Ba E .len [23] l) fun v17=>
 M.bind (oS (some v15) fun a=>oS (some v17) fun b=>Cl.get (aBin E .add 3 (.tmp 15) (.tmp 17)) a b) fun v18=>
 mv (some v18) fun v3=>
 setF 3 v3 tm fun tm1=>
 M.pure tm1
theorem Aay_:RegEq 43 36 B0 NP YD:=⟨by kernel_rfl,fun _ _ _ _ _ _ _ _ _=>by kernel_rfl⟩
def Tp (E:Env)(call round:Ad)(tm:T Value):M (T Value):=
 mv (T.get tm 0) fun v25=>
 setF 25 v25 tm fun tm1=>
 M.bind (oS (seqO [(some v25)]) fun l=>Ba E .len [114] l) fun v26=>
 setF 26 v26 tm1 fun tm2=>
 mv (some (.int .i64 0)) fun v27=>
 setF 27 v27 tm2 fun tm3=>
 M.pure tm3
theorem AR_:RegEq 43 36 B0 Kq Tp:=⟨by kernel_rfl,fun _ _ _ _ _ _ _ _ _=>by kernel_rfl⟩
def Xf (E:Env)(call round:Ad)(tm:T Value):M (T Value):=
 mv (T.get tm 3) fun v19=>
 M.bind (oS (some v19) fun a=>oS (some (.int .i64 0)) fun b=>Cl.get (aBin E .lss 3 (.tmp 19) (.const (.int .i64 0))) a b) fun v20=>
 setF 20 v20 tm fun tm1=>
 M.pure tm1
theorem ZL_:RegEq 43 36 B0 MO Xf:=⟨by kernel_rfl,fun _ _ _ _ _ _ _ _ _=>by kernel_rfl⟩
def Ij (E:Env)(call round:Ad)(tm:T Value):M (T Value):=
 M.bind (oS (T.get tm 27) fun a=>oS (T.get tm 26) fun b=>Cl.get (aBin E .lss 3 (.tmp 27) (.tmp 26)) a b) fun v28=>
 setF 28 v28 tm fun tm1=>
 M.pure tm1
theorem LF:RegEq 43 36 B0 FI Ij:=⟨by kernel_rfl,fun _ _ _ _ _ _ _ _ _=>by kernel_rfl⟩
theorem TP_:A4 Nv=some 20:=by kernel_rfl
theorem NQ:A4 Hl=some 28:=by kernel_rfl
def Yn (E:Env)(call round:Ad)(tm:T Value):M (T Value):=
 M.bind (oS (T.get tm 11) fun a=>oS (some (.int .i64 1)) fun b=>Cl.get (aBin E .add 3 (.tmp 11) (.const (.int .i64 1))) a b) fun v22=>
 mv (some v22) fun v11=>
 setF 11 v11 tm fun tm1=>
 M.pure tm1
theorem AbM_:RegEq 43 36 B0 TE Yn:=⟨by kernel_rfl,fun _ _ _ _ _ _ _ _ _=>by kernel_rfl⟩
def RW (E:Env)(call round:Ad)(tm:T Value):M (T Value):=
 M.bind (oS (T.get tm 25) fun a=>oS (T.get tm 27) fun b=>BD E 114 a b) fun v29=>
 M.bind (oS (some v29) fun a=>AC E 23 a) fun v30=>
 mv (some v30) fun v8=>
 setF 8 v8 tm fun tm1=>
 M.pure tm1
theorem Zr:RegEq 43 36 B0 LX RW:=⟨by kernel_rfl,fun _ _ _ _ _ _ _ _ _=>by kernel_rfl⟩
def Sw (E:Env)(call round:Ad)(tm:T Value):M (T Value):=
 mv (T.get tm 6) fun v35=>
 mv (some v35) fun v2=>
 setF 2 v2 tm fun tm1=>
 M.pure tm1
theorem Xp:RegEq 43 36 B0 GV Sw:=⟨by kernel_rfl,fun _ _ _ _ _ _ _ _ _=>by kernel_rfl⟩
def R9 (E:Env)(call round:Ad)(tm:T Value):M (T Value):=
 mv (T.get tm 6) fun v31=>
 mv (T.get tm 8) fun v32=>
 M.bind (oS (seqO [(some v31),(some v32)]) fun l=>Ba E .append [23,23] l) fun v33=>
 mv (some v33) fun v6=>
 setF 6 v6 tm fun tm1=>
 M.pure tm1
theorem XK:RegEq 43 36 B0 J4 R9:=⟨by kernel_rfl,fun _ _ _ _ _ _ _ _ _=>by kernel_rfl⟩
theorem Fe_: ∃k,Pf= .code .ret::k:=⟨Pf.tail,by kernel_rfl⟩
def RZ (E:Env)(call round:Ad)(tm:T Value):M (T Value):=
 M.bind (oS (T.get tm 27) fun a=>oS (some (.int .i64 1)) fun b=>Cl.get (aBin E .add 3 (.tmp 27) (.const (.int .i64 1))) a b) fun v34=>
 mv (some v34) fun v27=>
 setF 27 v27 tm fun tm1=>
 M.pure tm1
theorem Fy_:RegEq 43 36 B0 QA RZ:=⟨by kernel_rfl,fun _ _ _ _ _ _ _ _ _=>by kernel_rfl⟩
def FF:Nat:=A8 Tryz.f65
def Db_:Code:=Tryz.f65.body.getD .skip
theorem Qm:envS.fn.get 65=some Tryz.f65:=by kernel_rfl
theorem Bv_ {a0 a1:Value}{n:Nat}{s:St}{Q:Value→St→Prop}(h: ∀tm,T.get tm 0=some a0→T.get tm 1=some a1→W (runF envS n ⟨65,27,FF,tm,[.code Db_], .run, .normal,none⟩) (s.cxN cxN) fun p s1=>Q p.1 (s1.cxN s.cx)):W (Ay envS (runF envS n) 65 [a0,a1]) s Q:=
 W.call (by kernel_rfl) (by kernel_rfl) Qm (by kernel_rfl) rfl rfl (by simp) (h _ (by kernel_rfl) (by kernel_rfl))
theorem AO_:Tryz.f65.results.toList=[.tmp 4]:=by kernel_rfl
def Q1:List Item:=skim 64 [.code Db_]
def Jn:List Item:=skim 64 Q1.tail
theorem VV:skim 64 Q1.tail=Jn:=by kernel_rfl
def OG:List Item:=skim 64 Jn.tail
theorem BU_:skim 64 Jn.tail=OG:=by kernel_rfl
def K7:List Item:=skim 64 (brF OG)
theorem Vv:skim 64 (brF OG)=K7:=by kernel_rfl
def Ms:List Item:=skim 64 K7.tail
theorem Yp:skim 64 K7.tail=Ms:=by kernel_rfl
def FP:List Item:=skim 64 Ms.tail
theorem ZX:skim 64 Ms.tail=FP:=by kernel_rfl
def O9:List Item:=skim 64 (brT FP)
theorem Yo_:skim 64 (brT FP)=O9:=by kernel_rfl
def Jj:List Item:=skim 64 (brF FP)
theorem Agy_:skim 64 (brF FP)=Jj:=by kernel_rfl
theorem Rq_:skim 64 O9.tail=Jj:=by kernel_rfl
def Tk:List Item:=skim 64 Jj.tail
theorem ZJ:skim 64 Jj.tail=Tk:=by kernel_rfl
def Tf (E:Env)(call round:Ad)(tm:T Value):M (T Value):=
 mv (some (.slice none 0 0)) fun v4=>
 setF 4 v4 tm fun tm1=>
 M.pure tm1
theorem Wh:RegEq 65 27 FF Q1 Tf:=⟨by kernel_rfl,fun _ _ _ _ _ _ _ _ _=>by kernel_rfl⟩
def Py (E:Env)(call round:Ad)(tm:T Value):M (T Value):=
 mv (T.get tm 1) fun v5=>
 M.bind (oS (some v5) fun a=>oS (some (.int .i64 0)) fun b=>Cl.get (aBin E .lss 3 (.tmp 5) (.const (.int .i64 0))) a b) fun v6=>
 setF 6 v6 tm fun tm1=>
 M.pure tm1
theorem Zi:RegEq 65 27 FF Jn Py:=⟨by kernel_rfl,fun _ _ _ _ _ _ _ _ _=>by kernel_rfl⟩
theorem Zc:A4 OG=some 6:=by kernel_rfl
def OO (E:Env)(call round:Ad)(tm:T Value):M (T Value):=
 mv (T.get tm 1) fun v8=>
 mv (T.get tm 0) fun v9=>
 M.bind (oS (seqO [(some v9)]) fun l=>Ba E .cap [23] l) fun v10=>
 mv (T.get tm 0) fun v11=>
 M.bind (oS (seqO [(some v11)]) fun l=>Ba E .len [23] l) fun v12=>
 M.bind (oS (some v10) fun a=>oS (some v12) fun b=>Cl.get (aBin E .sub 3 (.tmp 10) (.tmp 12)) a b) fun v13=>
 M.bind (oS (some v8) fun a=>oS (some v13) fun b=>Cl.get (aBin E .sub 3 (.tmp 8) (.tmp 13)) a b) fun v14=>
 mv (some v14) fun v1=>
 setF 1 v1 tm fun tm1=>
 M.pure tm1
theorem YU:RegEq 65 27 FF K7 OO:=⟨by kernel_rfl,fun _ _ _ _ _ _ _ _ _=>by kernel_rfl⟩
def TB (E:Env)(call round:Ad)(tm:T Value):M (T Value):=
 mv (T.get tm 1) fun v15=>
 M.bind (oS (some v15) fun a=>oS (some (.int .i64 0)) fun b=>Cl.get (aBin E .gtr 3 (.tmp 15) (.const (.int .i64 0))) a b) fun v16=>
 setF 16 v16 tm fun tm1=>
 M.pure tm1
theorem Gp_:RegEq 65 27 FF Ms TB:=⟨by kernel_rfl,fun _ _ _ _ _ _ _ _ _=>by kernel_rfl⟩
theorem Ya:A4 FP=some 16:=by kernel_rfl
def GP_ (E:Env)(call round:Ad)(tm:T Value):M (T Value):=
 mv (T.get tm 0) fun v17=>
 mv (T.get tm 0) fun v18=>
 M.bind (oS (seqO [(some v18)]) fun l=>Ba E .cap [23] l) fun v19=>
 M.bind (M.on (some v17) fun a=>M.on (some none) fun b=>M.on (onO (some v19) fun v=>some (some v)) fun c=>B5 E 23 a b c) fun v20=>
 mv (T.get tm 1) fun v21=>
 M.bind (oS (seqO [(some v20),(some v21)]) fun l=>Ba E .append [23,3] l) fun v22=>
 mv (T.get tm 0) fun v23=>
 M.bind (oS (seqO [(some v23)]) fun l=>Ba E .len [23] l) fun v24=>
 M.bind (M.on (some v22) fun a=>M.on (some none) fun b=>M.on (onO (some v24) fun v=>some (some v)) fun c=>B5 E 23 a b c) fun v25=>
 mv (some v25) fun v0=>
 setF 0 v0 tm fun tm1=>
 M.pure tm1
theorem Zw_:RegEq 65 27 FF O9 GP_:=⟨by kernel_rfl,fun _ _ _ _ _ _ _ _ _=>by kernel_rfl⟩
def TN (E:Env)(call round:Ad)(tm:T Value):M (T Value):=
 mv (T.get tm 0) fun v26=>
 mv (some v26) fun v4=>
 setF 4 v4 tm fun tm1=>
 M.pure tm1
theorem Cf_:RegEq 65 27 FF Jj TN:=⟨by kernel_rfl,fun _ _ _ _ _ _ _ _ _=>by kernel_rfl⟩
theorem Y4: ∃k,Tk= .code .ret::k:=⟨Tk.tail,by kernel_rfl⟩
def CI:Nat:=A8 Tryz.f52
abbrev LG_:Nat:=26
def YK:Code:=Tryz.f52.body.getD .skip
theorem JW:envS.fn.get 52=some Tryz.f52:=by kernel_rfl
theorem AaF_ {a0 a1:Value}{n:Nat}{s:St}{Q:Value→St→Prop}(h: ∀tm,T.get tm 0=some a0→T.get tm 1=some a1→W (runF envS n ⟨52,26,CI,tm,[.code YK], .run, .normal,none⟩) (s.cxN cxN) fun p s1=>Q p.1 (s1.cxN s.cx)):W (Ay envS (runF envS n) 52 [a0,a1]) s Q:=
 W.call (by kernel_rfl) (by kernel_rfl) JW (by kernel_rfl) rfl rfl (by simp) (h _ (by kernel_rfl) (by kernel_rfl))
theorem QS:Tryz.f52.results.toList=[.tmp 4]:=by kernel_rfl
def Tb:List Item:=skim 64 [.code YK]
def KB:List Item:=skim 64 Tb.tail
theorem Agd_:skim 64 Tb.tail=KB:=by kernel_rfl
def GR:List Item:=skim 64 KB.tail
theorem Xr:skim 64 KB.tail=GR:=by kernel_rfl
def OJ:List Item:=skim 64 (brT GR)
theorem Ja_:skim 64 (brT GR)=OJ:=by kernel_rfl
def Ng:List Item:=skim 64 (brF GR)
theorem ZZ_:skim 64 (brF GR)=Ng:=by kernel_rfl
def Rw:List Item:=skim 64 OJ.tail
theorem Aal_:skim 64 OJ.tail=Rw:=by kernel_rfl
def Gf:List Item:=skim 64 Ng.tail
theorem Tj_:skim 64 Ng.tail=Gf:=by kernel_rfl
def Gk:List Item:=skim 64 Gf.tail
theorem AX_:skim 64 Gf.tail=Gk:=by kernel_rfl
def MW:List Item:=skim 64 (brT Gk)
theorem XT_:skim 64 (brT Gk)=MW:=by kernel_rfl
def OI:List Item:=skim 64 (brF Gk)
theorem ZM_:skim 64 (brF Gk)=OI:=by kernel_rfl
def Ii:List Item:=skim 64 MW.tail
theorem NR_:skim 64 MW.tail=Ii:=by kernel_rfl
def SS:List Item:=skim 64 OI.tail
theorem JS_:skim 64 OI.tail=SS:=by kernel_rfl
def Hb:List Item:=skim 64 Ii.tail
theorem EU_:skim 64 Ii.tail=Hb:=by kernel_rfl
def Lm:List Item:=skim 64 (brT Hb)
theorem AfR_:skim 64 (brT Hb)=Lm:=by kernel_rfl
def T3:List Item:=skim 64 (brF Hb)
theorem Abb_:skim 64 (brF Hb)=T3:=by kernel_rfl
def QW:List Item:=skim 64 Lm.tail
theorem LZ_:skim 64 Lm.tail=QW:=by kernel_rfl
theorem Nc_:skim 64 T3.tail=Gf:=by kernel_rfl
def Gs_ (E:Env)(call round:Ad)(tm:T Value):M (T Value):=
 mv (some (.bool false)) fun v4=>
 setF 4 v4 tm fun tm1=>
 M.pure tm1
theorem Vg_:RegEq 52 26 CI Tb Gs_:=⟨by kernel_rfl,fun _ _ _ _ _ _ _ _ _=>by kernel_rfl⟩
def Yo (E:Env)(call round:Ad)(tm:T Value):M (T Value):=
 mv (T.get tm 0) fun v6=>
 M.bind (oS (seqO [(some v6)]) fun l=>Ba E .len [23] l) fun v7=>
 mv (T.get tm 1) fun v8=>
 M.bind (oS (seqO [(some v8)]) fun l=>Ba E .len [23] l) fun v9=>
 M.bind (oS (some v7) fun a=>oS (some v9) fun b=>Cl.get (aBin E .neq 3 (.tmp 7) (.tmp 9)) a b) fun v10=>
 setF 10 v10 tm fun tm1=>
 M.pure tm1
theorem Me_:RegEq 52 26 CI KB Yo:=⟨by kernel_rfl,fun _ _ _ _ _ _ _ _ _=>by kernel_rfl⟩
theorem YH:A4 GR=some 10:=by kernel_rfl
def Cm_ (E:Env)(call round:Ad)(tm:T Value):M (T Value):=
 mv (some (.bool false)) fun v4=>
 setF 4 v4 tm fun tm1=>
 M.pure tm1
theorem Qj_:RegEq 52 26 CI OJ Cm_:=⟨by kernel_rfl,fun _ _ _ _ _ _ _ _ _=>by kernel_rfl⟩
def Go_ (E:Env)(call round:Ad)(tm:T Value):M (T Value):=
 mv (T.get tm 0) fun v11=>
 M.bind (oS (seqO [(some v11)]) fun l=>Ba E .len [23] l) fun v12=>
 setF 12 v12 tm fun tm1=>
 mv (some (.int .i64 0)) fun v13=>
 setF 13 v13 tm1 fun tm2=>
 M.pure tm2
theorem VZ_:RegEq 52 26 CI Ng Go_:=⟨by kernel_rfl,fun _ _ _ _ _ _ _ _ _=>by kernel_rfl⟩
theorem XC_: ∃k,Rw= .code .ret::k:=⟨Rw.tail,by kernel_rfl⟩
def Tn (E:Env)(call round:Ad)(tm:T Value):M (T Value):=
 M.bind (oS (T.get tm 13) fun a=>oS (T.get tm 12) fun b=>Cl.get (aBin E .lss 3 (.tmp 13) (.tmp 12)) a b) fun v14=>
 setF 14 v14 tm fun tm1=>
 M.pure tm1
theorem Zs:RegEq 52 26 CI Gf Tn:=⟨by kernel_rfl,fun _ _ _ _ _ _ _ _ _=>by kernel_rfl⟩
theorem Dm_:A4 Gk=some 14:=by kernel_rfl
def DU_ (E:Env)(call round:Ad)(tm:T Value):M (T Value):=
 mv (T.get tm 13) fun v15=>
 mv (some v15) fun v5=>
 setF 5 v5 tm fun tm1=>
 M.pure tm1
theorem TV_:RegEq 52 26 CI MW DU_:=⟨by kernel_rfl,fun _ _ _ _ _ _ _ _ _=>by kernel_rfl⟩
def Wc (E:Env)(call round:Ad)(tm:T Value):M (T Value):=
 mv (some (.bool true)) fun v4=>
 setF 4 v4 tm fun tm1=>
 M.pure tm1
theorem Ql_:RegEq 52 26 CI OI Wc:=⟨by kernel_rfl,fun _ _ _ _ _ _ _ _ _=>by kernel_rfl⟩
def EJ_ (E:Env)(call round:Ad)(tm:T Value):M ((Rho×T Value)×List OpLog):=
 M.bind (apartO (oS (T.get tm 0) fun a=>M.pure a)) fun p0=>
 M.bind (apartO (oS (T.get tm 5) fun a=>M.pure a)) fun p1=>
 M.bind (apartO (oS (some p0.1) fun a=>oS (some p1.1) fun b=>BD E 23 a b)) fun p2=>
 M.bind (apartO (oS (some p2.1) fun a=>AC E 5 a)) fun p3=>
 M.bind (apartO (oS (T.get tm 1) fun a=>M.pure a)) fun p4=>
 M.bind (apartO (oS (T.get tm 5) fun a=>M.pure a)) fun p5=>
 M.bind (apartO (oS (some p4.1) fun a=>oS (some p5.1) fun b=>BD E 23 a b)) fun p6=>
 M.bind (apartO (oS (some p6.1) fun a=>AC E 5 a)) fun p7=>
 M.pure (([p7.1,p6.1,p5.1,p4.1,p3.1,p2.1,p1.1,p0.1],tm),[p7.2,p6.2,p5.2,p4.2,p3.2,p2.2,p1.2,p0.2])
theorem Vs_:DrawEq 52 26 CI Ii [0,0,3,7,0,0,48,112,255] EJ_:=⟨by kernel_rfl,by kernel_rfl,fun _ _ _ _ _ _ _ _ _=>by kernel_rfl⟩
theorem KM_ (E:Env)(call round:Ad)(x16 x17 x18 x19 x20 x21 x22 x23:Value)(tm:T Value)(s:St):Br call round (BY E CI 26 (hdC Ii)) [x23,x22,x21,x20,x19,x18,x17,x16] tm s=(M.bind (oS (some x19) fun a=>oS (some x23) fun b=>Cl.get (aBin E .neq 5 (.tmp 19) (.tmp 23)) a b) fun v24=>setT 24 v24 tm fun tm1=>M.pure tm1) s:=by kernel_rfl
theorem Pw_: ∃k,SS= .code .ret::k:=⟨SS.tail,by kernel_rfl⟩
theorem WV:A4 Hb=some 24:=by kernel_rfl
def Hg_ (E:Env)(call round:Ad)(tm:T Value):M (T Value):=
 mv (some (.bool false)) fun v4=>
 setF 4 v4 tm fun tm1=>
 M.pure tm1
theorem Mb_:RegEq 52 26 CI Lm Hg_:=⟨by kernel_rfl,fun _ _ _ _ _ _ _ _ _=>by kernel_rfl⟩
def WC (E:Env)(call round:Ad)(tm:T Value):M (T Value):=
 M.bind (oS (T.get tm 13) fun a=>oS (some (.int .i64 1)) fun b=>Cl.get (aBin E .add 3 (.tmp 13) (.const (.int .i64 1))) a b) fun v25=>
 mv (some v25) fun v13=>
 setF 13 v13 tm fun tm1=>
 M.pure tm1
theorem YK_:RegEq 52 26 CI T3 WC:=⟨by kernel_rfl,fun _ _ _ _ _ _ _ _ _=>by kernel_rfl⟩
theorem OF_: ∃k,QW= .code .ret::k:=⟨QW.tail,by kernel_rfl⟩
def Lh:Nat:=A8 Tryz.f54
def YX:Code:=Tryz.f54.body.getD .skip
theorem PS:envS.fn.get 54=some Tryz.f54:=by kernel_rfl
theorem AaP_ {a0:Value}{n:Nat}{s:St}{Q:Value→St→Prop}(h: ∀tm,T.get tm 0=some a0→W (runF envS n ⟨54,8,Lh,tm,[.code YX], .run, .normal,none⟩) (s.cxN cxN) fun p s1=>Q p.1 (s1.cxN s.cx)):W (Ay envS (runF envS n) 54 [a0]) s Q:=
 W.call (by kernel_rfl) (by kernel_rfl) PS (by kernel_rfl) rfl rfl (by simp) (h _ (by kernel_rfl))
theorem ZI:Tryz.f54.results.toList=[.tmp 2]:=by kernel_rfl
def Pg:List Item:=skim 64 [.code YX]
def Ln:List Item:=skim 64 Pg.tail
theorem JW_:skim 64 Pg.tail=Ln:=by kernel_rfl
def Md:List Item:=skim 64 Ln.tail
theorem QS_:skim 64 Ln.tail=Md:=by kernel_rfl
def KH:List Item:=skim 64 (brF Md)
theorem AbA_:skim 64 (brF Md)=KH:=by kernel_rfl
def TY:List Item:=skim 64 KH.tail
theorem YT:skim 64 KH.tail=TY:=by kernel_rfl
def W3 (E:Env)(call round:Ad)(tm:T Value):M (T Value):=
 mv (some (.slice none 0 0)) fun v2=>
 setF 2 v2 tm fun tm1=>
 M.pure tm1
theorem Adl_:RegEq 54 8 Lh Pg W3:=⟨by kernel_rfl,fun _ _ _ _ _ _ _ _ _=>by kernel_rfl⟩
def CY_ (E:Env)(call round:Ad)(tm:T Value):M (T Value):=
 mv (T.get tm 0) fun v3=>
 M.bind (oS (some v3) fun a=>oS (some (.slice none 0 0)) fun b=>Cl.get (aBin E .eql 23 (.tmp 3) (.const (.slice none 0 0))) a b) fun v4=>
 setF 4 v4 tm fun tm1=>
 M.pure tm1
theorem Vo_:RegEq 54 8 Lh Ln CY_:=⟨by kernel_rfl,fun _ _ _ _ _ _ _ _ _=>by kernel_rfl⟩
theorem Yy_:A4 Md=some 4:=by kernel_rfl
def Vi (E:Env)(call round:Ad)(tm:T Value):M (T Value):=
 M.bind (oS (seqP []) fun ps=>Cu E 23 0 ps) fun v5=>
 mv (T.get tm 0) fun v6=>
 M.bind (oS (seqO [(some v5),(some v6)]) fun l=>Ba E .append [23,23] l) fun v7=>
 mv (some v7) fun v2=>
 setF 2 v2 tm fun tm1=>
 M.pure tm1
theorem Kx_:RegEq 54 8 Lh KH Vi:=⟨by kernel_rfl,fun _ _ _ _ _ _ _ _ _=>by kernel_rfl⟩
theorem FT_: ∃k,TY= .code .ret::k:=⟨TY.tail,by kernel_rfl⟩
section
variable {s:St}
def Bn (s:St)(v:Value)(l:List Nat):Prop:= ∃b o c,v= .slice (some ⟨b,o,none⟩) l.length c∧l.length≤c%capU∧Cf c 1=true∧Row s b o (u8l l)
theorem Bn.bs {v:Value}{l:List Nat}(h:Bn s v l):Bs s v l:= .inr h
theorem Bn.ext {F G:Nat→Prop}{s s':St}{v:Value}{l:List Nat}(h:Bn s v l)(e:Ext F G s s')(hG: ∀x,BsF v x→ ¬G x):Bn s' v l:=by
 rcases h.bs.ext e hG with⟨rfl,_⟩|h'
 ·obtain⟨_,_,_,e,_⟩:=h;cases e
 ·exact h'
theorem Bn.ext0 {F:Nat→Prop}{s s':St}{v:Value}{l:List Nat}(h:Bn s v l)(e:Ext F Non s s'):Bn s' v l:=h.ext e fun _ _=>id
def Byt (l:List Nat):Prop:= ∀x∈l,x<256
theorem Fr_: ∀{l:List Nat},Byt l→u8s (u8l l)=some l
 |[],_=>rfl
 |n::l,h=>by
  have e:=Fr_ (l:=l) fun x hx=>h x (by simp[hx])
  show(match Value.int .u8 (.ofNat n),u8s (u8l l)with| .int .u8 (.ofNat n),some ns=>bif Nat.blt n 256 then some (n::ns)else none|_,_=>none)=_
  rw[e]
  simp -implicitDefEqProofs only[B1 (h n (by simp)),cond_true]
theorem W.rdB {b o:Nat}{l:List Nat}{Q:List Value→St→Prop}(h:Row s b o (u8l l))(q: ∀s1,s1.mem=s.mem→s1.next=s.next→Ext (In b o l.length) Non s s1→Q (u8l l) s1):W (Am.rdL l.length ⟨b,o,none⟩) s Q:=by
 have hl:l.length=(u8l l).length:=(Cn l).symm
 rw[hl]
 refine W.rdL h fun s1 e1 e2 e3=>q s1 e1 e2 ?_
 rw[Cn]at e3
 exact e3
theorem W.more {sum:Nat}{v:Value}{l:List Nat}{Q:Value→St→Prop}(h:Bn s v l)(hl:Byt l)(hz:l.length≤4611686018427387904)(hs:sum<4294967296)
  (q: ∀s1,s1.mem=s.mem→s1.next=s.next→Ext (BsF v) Non s s1→Q (.int .u32 (Dg sum l:Nat)) s1):W (DJ [.int .u32 (sum:Nat),v]) s Q:=by
 obtain⟨b,o,c,rfl,h1,h2,h3⟩:=h
 refine W.chk (by rw[B1 hs];simpa using hz) (W.bind (W.rdB h3 fun s1 e1 e2 e3=>W.on (Fr_ hl) ?_))
 rw[Ll]
 exact W.pure (q s1 e1 e2 e3)
end
theorem Acv_ {n:Nat}{s:St}{v:Value}{l:List Nat}{Q:Value→St→Prop}(hn:10≤n)(h:Bn s v l)(hl:Byt l)(hz:l.length≤4611686018427387904)
  (q: ∀s1,s1.mem=s.mem→s1.next=s.next→Ext (BsF v) Non s s1→Q (.int .u32 (Dg 0 l:Nat)) s1):W (Ay envS (runF envS n) 72 [v]) s Q:=by
 refine Ach_ fun tm h0=> ?_
 refine Rg_.w rfl (by omega) ?_
 simp -implicitDefEqProofs only[CE_,Aa,W_mv,Ab]
 refine Lt_.w Aer_ (by omega) ?_
 simp -implicitDefEqProofs only[Ay_,Ac,W_on,Aa,W_mv,Ab,T.get_set,Ag,Af,Ae,Ah,reduceIte,reduceCtorEq, ↓reduceIte,h0]
 refine W.orc (m:=DJ) (by kernel_rfl) ?_
 change W (DJ [.int .u32 ((0:Nat):Int),v]) _ _
 refine W.more (s:=s.cxN cxN) h hl hz (by decide) fun s1 e1 e2 e3=> ?_
 refine W.end' (rs:=[2]) (vs:=[.int .u32 (Dg 0 l:Nat)]) AeY_ (.inl Afc_) (by omega) Xv Yg_ e3.cx (by simp[T.get_set]) ?_
 refine q _ e1 e2 ⟨e3.nxt,e3.lim,rfl,e3.mem,e3.rd,e3.wr⟩
theorem BQ:slN envS 23=some 1:=by kernel_rfl
theorem E5:slN envS 114=some 1:=by kernel_rfl
theorem Px:elT envS 23=some (1,1,[.int .u8 0]):=by kernel_rfl
theorem Js:appT envS 23 23=some (1,1,false,[.int .u8 0]):=by kernel_rfl
theorem Kq_:appT envS 23 3=some (1,1,true,[.int .u8 0]):=by kernel_rfl
theorem Ei:tyS envS 23=some (1,false):=by kernel_rfl
theorem Yx:tyS envS 5=some (1,false):=by kernel_rfl
theorem R0 (n:Nat):rep n [Value.int .u8 0]=List.replicate n (Value.int .u8 0):=by
 induction n with
 |zero=>rfl
 |succ n ih=>
  show [Value.int .u8 0]++rep n [Value.int .u8 0]=_
  rw[ih];rfl
structure Room (s s':St)(N:Nat)(v:Value)(b:Nat):Prop where
 val:v= .slice (some ⟨b,0,none⟩) 0 (capU*((b+N*1)*1024+1)+N)
 new:s.next≤b
 own:Bc s' b 0 (List.replicate N (.int .u8 0))
 tok:T.get s'.mem (b+N)=some (.O (.tok false 1025))
 lt:b+N<s'.next
theorem Age_ {n N:Nat}{s:St}{Q:Value→St→Prop}(hbd:s.lim≤s.next)(hn:20≤n)(hN:0<N)(hN2:N≤1000000)
  (q: ∀s1 v b,Room s s1 N v b→Ext Non Non s s1→Q v s1):W (Ay envS (runF envS n) 65 [.slice none 0 0, .int .i64 (N:Nat)]) s Q:=by
 refine Bv_ fun tm h0 h1=> ?_
 refine Wh.w rfl (by omega) ?_
 simp -implicitDefEqProofs only[Tf,Aa,W_mv,Ab]
 refine Zi.w VV (by omega) ?_
 simp -implicitDefEqProofs only[Py,Ac,W_oS,Aa,W_mv,Ab,T.get_set,reduceIte,Nat.reduceEqDiff, ↓reduceIte,Bk,h1]
 refine W.cond (v:=false) BU_ Zc (by simp[T.get_set]) (by omega) (fun h=>by cases h) fun _=> ?_
 refine YU.w Vv (by omega) ?_
 simp -implicitDefEqProofs only[OO,Ac,W_oS,Aa,W_mv,Ab,T.get_set,Ag,Af,Ae,reduceIte,Nat.reduceEqDiff,reduceCtorEq, ↓reduceIte,Cc,h0,h1,OU BQ,CU BQ]
 refine Gp_.w Yp (by omega) ?_
 have e1:wrap64 ((N:Int)-wrap64 (((0:Nat):Int)-((0:Nat):Int)))=(N:Nat):=by
  rw[BZ (n:=((0:Nat):Int)-((0:Nat):Int)) (by simp) (by simp),BZ]<;>simp<;>omega
 simp -implicitDefEqProofs only[TB,Ac,W_oS,Aa,W_mv,Ab,T.get_set,reduceIte, ↓reduceIte,B4,e1]
 refine W.cond (v:=true) ZX Ya (by simp[T.get_set,hN]) (by omega) (fun _=> ?_) fun h=>by cases h
 refine Zw_.w Yo_ (by omega) ?_
 simp -implicitDefEqProofs only[GP_,Ac,W_oS,W_on,Aa,W_mv,Ab,T.get_set,Ag,Af,Ae,reduceIte,Nat.reduceEqDiff,reduceCtorEq, ↓reduceIte,h0,OU BQ,LR_ (lo:=none) (hi:=some (.int .i64 ((0:Nat):Int))) BQ rfl rfl,IM]
 refine W.appNilT (s:=s.cxN cxN) hbd (n:=N) (l:=rep N [.int .u8 0]) Kq_ (KI_ (by omega)) hN (by decide) (by decide) (by omega) (by rw[R0];simp) (by rw[R0];simp[oneCell]) fun s2 v b hf hT x2=> ?_
 obtain⟨rfl,hnew,hown,hlen,htok,hlt⟩:=hf
 have hc:=Mo (q:=(b+N*1)*1024+1) (Cp (n:=N) (by omega))
 simp -implicitDefEqProofs only[CU BQ,AN_ (l:=0) (h:=0) (lo:=none) (hi:=some (.int .i64 ((0:Nat):Int))) BQ rfl rfl (Nat.le_refl _) (Nat.zero_le _) (If (m:=b+N*1) (Cp (n:=N) (by omega)) (by decide)),reduceIte, ↓reduceIte,hc,hN]
 refine Cf_.w Rq_ (by omega) ?_
 simp -implicitDefEqProofs only[TN,Aa,W_mv,Ab,T.get_set,reduceIte, ↓reduceIte]
 refine W.end' (rs:=[4]) (vs:=[.slice (some ⟨b,0,none⟩) 0 (capU*((b+N*1)*1024+1)+N)]) ZJ (.inl Y4) (by omega) Qm AO_ x2.cx (by simp[T.get_set]) ?_
 exact q _ _ b ⟨rfl,hnew,fun i v e=>(hown i v (by rw[R0];exact e)).same rfl rfl,by rw[Nat.mul_one]at hT;exact hT,by rw[Nat.mul_one]at hlt;exact hlt⟩ ⟨x2.nxt,x2.lim,rfl,x2.mem,x2.rd,x2.wr⟩
def tot (l:List (Value×List Nat)):Nat:=(l.map fun p=>p.2.length).sum
theorem VN_ {l:List (Value×List Nat)}{i:Nat}{p:Value×List Nat}(h:l[i]?=some p):tot (l.take (i+1))=tot (l.take i)+p.2.length:=by
 unfold tot
 rw[List.take_add_one,h]
 simp
theorem RD {l:List (Value×List Nat)}(i:Nat):tot (l.take i)≤tot l:=by
 unfold tot
 have:(l.map fun p=>p.2.length).sum=((l.take i).map fun p=>p.2.length).sum+((l.drop i).map fun p=>p.2.length).sum:=by
  rw[←List.sum_append,←List.map_append,List.take_append_drop]
 omega
def C5 (b o:Nat)(l:List (Value×List Nat)):Nat→Prop:=fun x=>In b o l.length x∨ ∃p∈l,BsF p.1 x
structure Parts (s:St)(b o:Nat)(l:List (Value×List Nat)):Prop where
 row:Row s b o (l.map (·.1))
 bs: ∀p∈l,Bs s p.1 p.2
theorem Parts.same {s s':St}{b o:Nat}{l:List (Value×List Nat)}(h:Parts s b o l)(hm:s'.mem=s.mem)(hn:s'.next=s.next):Parts s' b o l:=
 ⟨fun i v e=>(h.row i v e).same hm hn,fun p hp=>(h.bs p hp).same hm hn⟩
theorem Parts.ext0 {F:Nat→Prop}{s s':St}{b o:Nat}{l:List (Value×List Nat)}(h:Parts s b o l)(e:Ext F Non s s'):Parts s' b o l:=⟨h.row.ext0 e,fun p hp=>(h.bs p hp).ext0 e⟩
section
variable {b o c:Nat}{parts:List (Value×List Nat)}
theorem Parts.get {s:St}(h:Parts s b o parts){i:Nat}(hi:i<parts.length):At s b (o+i*1) parts[i].1∧Bs s parts[i].1 parts[i].2:=by
 refine⟨?_,h.bs _ (List.getElem_mem hi)⟩
 rw[Nat.mul_one]
 exact h.row i _ (by simp[hi])
theorem SK {i:Nat}(hi:i<parts.length):tot (parts.take (i+1))=tot (parts.take i)+parts[i].2.length:=VN_ (List.getElem?_eq_getElem hi)
theorem Cu_ (ht:tot parts≤1000000)(hlen:parts.length≤4611686018427387904){F:Nat→Prop}(hF: ∀x,C5 b o parts x→F x){Q:Value×FrameMode→St→Prop}{s0:St}(hb0:s0.lim≤s0.next)(hp:Parts s0 b o parts): ∀(k i n:Nat) (tm:T Value) (s:St) (td:List Item),i+k=parts.length→7*k+7≤n→skim 64 td=GT→Ext F Non s0 s→s.mem=s0.mem→s.next=s0.next→
  T.get tm 0=some (.slice (some ⟨b,o,none⟩) parts.length c)→T.get tm 9=some (.slice (some ⟨b,o,none⟩) parts.length c)→T.get tm 10=some (.int .i64 (parts.length:Nat))→T.get tm 11=some (.int .i64 (i:Nat))→T.get tm 3=some (.int .i64 (tot (parts.take i):Nat))→
  (∀n' tm' s1 td',n≤n'+7*k+2→skim 64 td'=H3→Ext F Non s0 s1→s1.mem=s0.mem→s1.next=s0.next→T.get tm' 0=some (.slice (some ⟨b,o,none⟩) parts.length c)→T.get tm' 3=some (.int .i64 (tot parts:Nat))→W (runF envS n' ⟨43,Hk,B0,tm',td', .run, .normal,none⟩) s1 Q)→
  W (runF envS n ⟨43,Hk,B0,tm,td, .run, .normal,none⟩) s Q:=by
 intro k
 induction k with
 |zero=>
  intro i n tm s td hi hn hT hx hm hnx h0 h9 h10 h11 h3 q
  refine Vx.w hT (by omega) ?_
  simp -implicitDefEqProofs only[Q7,Ac,W_oS,Aa,Ab,Bk,h10,h11]
  refine W.cond (v:=false) De_ UL (by simp[T.get_set];omega) (by omega) (fun h=>by cases h) fun _=> ?_
  have e:tot (parts.take i)=tot parts:=by rw[show i=parts.length by omega,List.take_length]
  rw[e]at h3
  exact q _ _ _ _ (by omega) Abe_ hx hm hnx (by simp[T.get_set,h0]) (by simp[T.get_set,h3])
 |succ k ih=>
  intro i n tm s td hi hn hT hx hm hnx h0 h9 h10 h11 h3 q
  have hil:i<parts.length:=by omega
  obtain⟨g1,g2⟩:=hp.get hil
  have hlt:=SK hil
  have htl:=RD (l:=parts) (i+1)
  refine Vx.w hT (by omega) ?_
  simp -implicitDefEqProofs only[Q7,Ac,W_oS,Aa,Ab,Bk,h10,h11]
  refine W.cond (v:=true) De_ UL (by simp[T.get_set];omega) (by omega) (fun _=> ?_) fun h=>by cases h
  refine Sm_.w Lu_ (by omega) ?_
  simp -implicitDefEqProofs only[AI_,Ac,W_oS,Aa,W_mv,Ab,T.get_set,reduceIte,Nat.reduceEqDiff, ↓reduceIte,h9,h11,C7 E5 hil]
  refine W.load1 Ei (g1.same hm hnx) ?_
  refine Aay_.w AfH_ (by omega) ?_
  have ew:wrap64 ((tot (parts.take i):Nat)+(parts[i].2.length:Nat):Int)=(tot (parts.take (i+1)):Nat):=by
   rw[BZ (by omega) (by omega),hlt];simp
  have ei:wrap64 ((i:Nat)+1:Int)=((i+1:Nat):Int):=by
   have:parts.length≤4611686018427387904:=hlen
   rw[BZ (by omega) (by omega)];simp
  have hx1:Ext F Non s0 (s.rdN (b+(o+i*1))):=hx.trans (Ext.rdN (F:=F) s _ fun _=>hF _ (.inl ⟨by omega,by omega⟩)) hb0 (fun _ _ h=>h) fun _ _ h=>h
  simp -implicitDefEqProofs only[YD,Ac,W_oS,Aa,W_mv,Ab,T.get_set,Ag,Af,Ae,reduceIte,Nat.reduceEqDiff, ↓reduceIte,BB,h3,Bs.len (s:=s.rdN (b+(o+i*1))) (g2.same hm hnx) BQ,ew]
  refine ZL_.w Ph_ (by omega) ?_
  simp -implicitDefEqProofs only[Xf,Ac,W_oS,Aa,W_mv,Ab,T.get_set,reduceIte, ↓reduceIte,Bk]
  refine W.cond (v:=false) Yu_ TP_ (by simp[T.get_set]) (by omega) (fun h=>by cases h) fun _=> ?_
  refine AbM_.w PW_ (by omega) ?_
  simp -implicitDefEqProofs only[Yn,Ac,W_oS,Aa,W_mv,Ab,T.get_set,reduceIte,Nat.reduceEqDiff, ↓reduceIte,BB,h11,ei]
  exact ih (i+1) _ _ _ _ (by omega) (by omega) NH_ hx1 hm hnx (by simp[T.get_set,h0]) (by simp[T.get_set,h9]) (by simp[T.get_set,h10]) (by simp[T.get_set]) (by simp[T.get_set]) fun n' tm' s1 td' e=>q n' tm' s1 td' (by omega)
end
section
variable {b o c:Nat}{parts:List (Value×List Nat)}
def fl (l:List (Value×List Nat)):List Nat:=(l.map (·.2)).flatten
theorem Ef (l:List (Value×List Nat)):(fl l).length=tot l:=by
 unfold fl tot
 rw[List.length_flatten,List.map_map]
 rfl
theorem Zl_ {l:List (Value×List Nat)}{i:Nat}(h:i<l.length):fl (l.take (i+1))=fl (l.take i)++l[i].2:=by
 unfold fl
 rw[List.take_add_one,List.getElem?_eq_getElem h,List.map_append,List.flatten_append]
 simp
theorem AcC_ (ht:tot parts≤1000000)(hlen:parts.length≤4611686018427387904){F:Nat→Prop}(hF: ∀x,C5 b o parts x→F x){Q:Value×FrameMode→St→Prop}{s0:St}(hb0:s0.lim≤s0.next)(hp:Parts s0 b o parts){nb cc:Nat}(hnb:s0.next≤nb)(hcc:cc%capU=tot parts){z:Nat}{ce:Cell}(hz:nb+tot parts≤z): ∀(k i n:Nat) (tm:T Value) (s:St) (td:List Item),i+k=parts.length→6*k+6≤n→skim 64 td=FI→Ext F Non s0 s→Fk s nb 0 (tot parts)→Bc s nb 0 (u8l (fl (parts.take i)))→(T.get s.mem z=some ce∧z<s.next)→
  T.get tm 25=some (.slice (some ⟨b,o,none⟩) parts.length c)→T.get tm 26=some (.int .i64 (parts.length:Nat))→T.get tm 27=some (.int .i64 (i:Nat))→T.get tm 6=some (.slice (some ⟨nb,0,none⟩) (tot (parts.take i)) cc)→
  (∀n' tm' s1 td',n≤n'+6*k+2→skim 64 td'=GV→Ext F Non s0 s1→Bc s1 nb 0 (u8l (fl parts))→(T.get s1.mem z=some ce∧z<s1.next)→T.get tm' 6=some (.slice (some ⟨nb,0,none⟩) (tot parts) cc)→W (runF envS n' ⟨43,Hk,B0,tm',td', .run, .normal,none⟩) s1 Q)→
  W (runF envS n ⟨43,Hk,B0,tm,td, .run, .normal,none⟩) s Q:=by
 intro k
 induction k with
 |zero=>
  intro i n tm s td hi hn hT hx hown hrow hce h25 h26 h27 h6 q
  refine LF.w hT (by omega) ?_
  simp -implicitDefEqProofs only[Ij,Ac,W_oS,Aa,Ab,Bk,h26,h27]
  refine W.cond (v:=false) Nr NQ (by simp[T.get_set];omega) (by omega) (fun h=>by cases h) fun _=> ?_
  have e:parts.take i=parts:=by rw[show i=parts.length by omega,List.take_length]
  rw[e]at h6 hrow
  exact q _ _ _ _ (by omega) Ah_ hx hrow hce (by simp[T.get_set,h6])
 |succ k ih=>
  intro i n tm s td hi hn hT hx hown hrow hce h25 h26 h27 h6 q
  have hil:i<parts.length:=by omega
  obtain⟨g1,g2⟩:=(hp.ext0 hx).get hil
  have hlt:=SK hil
  have htl:=RD (l:=parts) (i+1)
  refine LF.w hT (by omega) ?_
  simp -implicitDefEqProofs only[Ij,Ac,W_oS,Aa,Ab,Bk,h26,h27]
  refine W.cond (v:=true) Nr NQ (by simp[T.get_set];omega) (by omega) (fun _=> ?_) fun h=>by cases h
  refine Zr.w FP_ (by omega) ?_
  simp -implicitDefEqProofs only[RW,Ac,W_oS,Aa,W_mv,Ab,T.get_set,reduceIte,Nat.reduceEqDiff, ↓reduceIte,h25,h27,C7 E5 hil]
  refine W.load1 Ei g1 ?_
  have hx1:Ext F Non s0 (s.rdN (b+(o+i*1))):=hx.trans (Ext.rdN (F:=F) s _ fun _=>hF _ (.inl ⟨by omega,by omega⟩)) hb0 (fun _ _ h=>h) fun _ _ h=>h
  refine XK.w Ex_ (by omega) ?_
  simp -implicitDefEqProofs only[R9,Ac,W_oS,Aa,W_mv,Ab,T.get_set,Ag,Af,Ae,reduceIte,Nat.reduceEqDiff, ↓reduceIte,h6,IM]
  refine W.appIn (s:=s.rdN (b+(o+i*1))) Js (g2.same (s':=s.rdN (b+(o+i*1))) rfl rfl).src.g (by rw[hcc];omega) (by rw[Cn,Nat.mul_one]) (H2 _) (fun j hj=> ?_) fun s2 n2 x2 r2=> ?_
  ·obtain⟨u,hu⟩:=hown (tot (parts.take i)+j) (by omega)
   exact⟨u,by rw[show 0+tot (parts.take i)*1+j=0+(tot (parts.take i)+j) by omega];exact hu⟩
  have ei:wrap64 ((i:Nat)+1:Int)=((i+1:Nat):Int):=by
   rw[BZ (by omega) (by omega)];simp
  have hx2:Ext F Non s0 s2:=hx1.step x2 hb0 (fun l hl h=>by
   rcases h with h|h
   ·exact hF _ (.inr ⟨_,List.getElem_mem hil,h⟩)
   ·exact absurd h.1 (by omega)) fun l h=>by have:=h.1;omega
  have el:parts[i].2.length*1=(u8l parts[i].2).length:=by rw[Cn,Nat.mul_one]
  rw[el]at x2
  have hown2:Fk s2 nb 0 (tot parts):=Fk.ext (s:=s.rdN (b+(o+i*1))) (fun j hj=>let ⟨u,hu⟩:=hown j hj;⟨u,hu.same rfl rfl⟩) x2 r2
  have hrow2:Bc s2 nb 0 (u8l (fl (parts.take (i+1)))):=by
   rw[Zl_ hil]
   unfold u8l
   rw[List.map_append]
   refine Bc.append (Bc.ext (s:=s.rdN (b+(o+i*1))) (fun j v e=>(hrow j v e).same rfl rfl) x2 fun j hj=> ?_) ?_
   ·rw[Cn,Ef]at hj
    intro h
    have:=h.1
    omega
   ·rw[Cn,Ef]
    rw[Nat.mul_one]at r2
    exact r2
  refine Fy_.w AB_ (by omega) ?_
  simp -implicitDefEqProofs only[RZ,Ac,W_oS,Aa,W_mv,Ab,T.get_set,reduceIte,Nat.reduceEqDiff, ↓reduceIte,BB,h27,ei]
  exact ih (i+1) _ _ _ _ (by omega) (by omega) CF_ hx2 hown2 hrow2 ⟨by rw[x2.mem z hce.2 fun h=>by have h1:=h.2;rw[Cn]at h1;omega];exact hce.1,Nat.lt_of_lt_of_le hce.2 x2.nxt⟩ (by simp[T.get_set,h25]) (by simp[T.get_set,h26]) (by simp[T.get_set]) (by simp[T.get_set,hlt]) fun n' tm' s1 td' e=>q n' tm' s1 td' (by omega)
end
structure New (s s':St)(v:Value)(l:List Nat):Prop where
 bn:Bn s' v l
 new: ∀x,BsF v x→s.next≤x
theorem Bn.same {s s':St}{v:Value}{l:List Nat}(h:Bn s v l)(hm:s'.mem=s.mem)(hn:s'.next=s.next):Bn s' v l:=by
 obtain⟨b,o,c,h0,h1,h2,h3⟩:=h
 exact⟨b,o,c,h0,h1,h2,fun i v e=>(h3 i v e).same hm hn⟩
structure MkG (s:St)(v:Value)(l:List Nat)(b:Nat):Prop where
 val:v= .slice (some ⟨b,0,none⟩) l.length (capU*((b+l.length)*1024+1)+l.length)
 own:Bc s b 0 (u8l l)
 tok:T.get s.mem (b+l.length)=some (.O (.tok false 1025))
 lt:b+l.length<s.next
theorem MkG.same {s s':St}{v:Value}{l:List Nat}{b:Nat}(h:MkG s v l b)(hm:s'.mem=s.mem)(hn:s'.next=s.next):MkG s' v l b:=
 ⟨h.val,fun i u e=>(h.own i u e).same hm hn,by rw[hm];exact h.tok,by rw[hn];exact h.lt⟩
theorem MkG.ext {F G:Nat→Prop}{s s':St}{v:Value}{l:List Nat}{b:Nat}(h:MkG s v l b)(e:Ext F G s s')(hG: ∀x,In b 0 (l.length+1) x→ ¬G x):MkG s' v l b:=
 ⟨h.val,fun i u q=>(h.own i u q).ext e (hG _ ⟨by omega,by have:=(List.getElem?_eq_some_iff.1 q).1;rw[Cn]at this;omega⟩),by rw[e.mem _ h.lt (hG _ ⟨by omega,by omega⟩)];exact h.tok,Nat.lt_of_lt_of_le h.lt e.nxt⟩
theorem MkG.bn {s:St}{v:Value}{l:List Nat}{b:Nat}(h:MkG s v l b)(hl:l.length≤1073741824):Bn s v l:=
 ⟨b,0,_,h.val,by rw[Mo (Cp hl)];exact Nat.le_refl _,If (Cp hl) (by decide),h.own.row⟩
theorem MkG.new {s0 s:St}{v:Value}{l:List Nat}{b:Nat}(h:MkG s v l b)(hl:l.length≤1073741824)(hb:s0.next≤b):New s0 s v l:=
 ⟨h.bn hl,fun x hx=>by rw[h.val]at hx;have:=hx.1;omega⟩
theorem Fo_ {n:Nat}{s:St}{b o c:Nat}{parts:List (Value×List Nat)}{Q:Value→St→Prop}(hbd:s.lim≤s.next)(hp:Parts s b o parts)(h0:0<tot parts)(ht:tot parts≤1000000)(hlen:parts.length≤4611686018427387904)(hn:13*parts.length+60≤n)
  (q: ∀s1 v nb,Ext (C5 b o parts) Non s s1→MkG s1 v (fl parts) nb→s.next≤nb→Q v s1):W (Ay envS (runF envS n) 43 [.slice (some ⟨b,o,none⟩) parts.length c]) s Q:=by
 refine Bm_ fun tm hk0=> ?_
 have hpc:Parts (s.cxN cxN) b o parts:=hp.same rfl rfl
 refine Gw_.w rfl (by omega) ?_
 simp -implicitDefEqProofs only[T9,Aa,W_mv,Ab]
 refine EW_.w Dn_ (by omega) ?_
 simp -implicitDefEqProofs only[PN,Aa,W_mv,Ab]
 refine AE_.w GJ_ (by omega) ?_
 simp -implicitDefEqProofs only[PC,Ac,W_oS,Aa,W_mv,Ab,T.get_set,Ag,Af,Ae,reduceIte,reduceCtorEq, ↓reduceIte,hk0,CU E5]
 refine Cu_ (c:=c) ht hlen (F:=C5 b o parts) (fun _ h=>h) (s0:=s.cxN cxN) hbd hpc parts.length 0 _ _ _ _ (by omega) (by omega) W0 (Ext.refl _) rfl rfl (by simp[T.get_set,hk0]) (by simp[T.get_set]) (by simp[T.get_set]) (by simp[T.get_set]) (by simp[T.get_set,tot]) fun n1 tm1 s1 td1 hn1 hT1 hx1 hm1 hnx1 g0 g3=> ?_
 refine BQ_.w hT1 (by omega) ?_
 simp -implicitDefEqProofs only[P4,Ac,W_on,Aa,W_mv,Ab,Ag,Af,Ae,Ah,g3]
 have hb1:s1.lim≤s1.next:=hx1.bnd hbd
 refine Age_ hb1 (by omega) h0 ht fun s2 v nb hr x2=> ?_
 obtain⟨rfl,hnew,hown,htok,hlt⟩:=hr
 have hx2:Ext (C5 b o parts) Non (s.cxN cxN) s2:=hx1.step x2 hbd (fun _ _ h=>h.elim) fun _ h=>h.elim
 have hnb:s.next≤nb:=by
  have:s1.next=s.next:=hnx1
  omega
 have hcc:=Mo (q:=(nb+tot parts*1)*1024+1) (Cp (n:=tot parts) (by omega))
 have hok:=If (m:=nb+tot parts*1) (sz:=1) (Cp (n:=tot parts) (by omega)) (by decide)
 generalize hC:capU*((nb+tot parts*1)*1024+1)+tot parts=C at *
 refine AR_.w UI (by omega) ?_
 simp -implicitDefEqProofs only[Tp,Ac,W_oS,Aa,W_mv,Ab,T.get_set,Ag,Af,Ae,reduceIte,reduceCtorEq, ↓reduceIte,g0,CU E5]
 refine AcC_ (c:=c) ht hlen (F:=C5 b o parts) (fun _ h=>h) (s0:=s.cxN cxN) hbd hpc (nb:=nb) (cc:=C) hnb hcc (z:=nb+tot parts) (Nat.le_refl _) parts.length 0 _ _ _ _ (by omega) (by omega) Fm_ hx2 (by have:=hown.owned;rwa [List.length_replicate]at this) (fun i v e=>by simp[fl]at e) ⟨htok,hlt⟩ (by simp[T.get_set]) (by simp[T.get_set]) (by simp[T.get_set]) (by simp[T.get_set,tot]) fun n3 tm3 s3 td3 hn3 hT3 hx3 hrow hz3 g6=> ?_
 refine Xp.w hT3 (by omega) ?_
 simp -implicitDefEqProofs only[Sw,Aa,W_mv,Ab,g6]
 refine W.end' (rs:=[2]) (vs:=[.slice (some ⟨nb,0,none⟩) (tot parts) C]) Z4 (.inl Fe_) (by omega) Q5 Ym hx3.cx (by simp[T.get_set]) ?_
 have hC':C=capU*((nb+(fl parts).length)*1024+1)+(fl parts).length:=by rw[←hC,Ef,Nat.mul_one]
 refine q _ (.slice (some ⟨nb,0,none⟩) (tot parts) C) nb hx3.cx' ⟨by rw[←hC',Ef],fun i u e=>(hrow i u e).same rfl rfl,by rw[Ef];exact hz3.1,by rw[Ef];exact hz3.2⟩ hnb
theorem Act_ {n:Nat}{s:St}{b o c:Nat}{parts:List (Value×List Nat)}{Q:Value→St→Prop}(hbd:s.lim≤s.next)(hp:Parts s b o parts)(h0:0<tot parts)(ht:tot parts≤1000000)(hlen:parts.length≤4611686018427387904)(hn:13*parts.length+60≤n)
  (q: ∀s1 v,Ext (C5 b o parts) Non s s1→New s s1 v (fl parts)→Q v s1):W (Ay envS (runF envS n) 43 [.slice (some ⟨b,o,none⟩) parts.length c]) s Q:=
 Fo_ hbd hp h0 ht hlen hn fun s1 v _ x h hn=>q s1 v x (h.new (by rw[Ef];omega) hn)
theorem Jh_ {n:Nat}{s:St}{Q:Value→St→Prop}(hbd:s.lim≤s.next)(hn:20≤n)(q: ∀s1,s1.mem=s.mem→s1.next=s.next→Ext Non Non s s1→Q (.slice none 0 0) s1):W (Ay envS (runF envS n) 65 [.slice none 0 0, .int .i64 ((0:Nat):Int)]) s Q:=by
 refine Bv_ fun tm h0 h1=> ?_
 refine Wh.w rfl (by omega) ?_
 simp -implicitDefEqProofs only[Tf,Ac,W_oS,W_on,Aa,W_mv,Ab,Ap,T.get_set,Ag,Af,Ar,Aq,Ae,Ah,reduceIte,Ak,As,Av,Aw,Ao,Aj,An,Au,Al,Ai,Nat.reduceEqDiff,reduceCtorEq, ↓reduceIte]
 refine Zi.w VV (by omega) ?_
 simp -implicitDefEqProofs only[Py,Ac,W_oS,W_on,Aa,W_mv,Ab,Ap,T.get_set,Ag,Af,Ar,Aq,Ae,Ah,reduceIte,Ak,As,Av,Aw,Ao,Aj,An,Au,Al,Ai,Nat.reduceEqDiff,reduceCtorEq, ↓reduceIte,BB,Cc,Bk,B4,Co,Cg,BW,Bt,h1]
 refine W.cond (v:=false) BU_ Zc (by simp[T.get_set]) (by omega) (fun h=>by cases h) fun _=> ?_
 refine YU.w Vv (by omega) ?_
 simp -implicitDefEqProofs only[OO,Ac,W_oS,W_on,Aa,W_mv,Ab,Ap,T.get_set,Ag,Af,Ar,Aq,Ae,Ah,reduceIte,Ak,As,Av,Aw,Ao,Aj,An,Au,Al,Ai,Nat.reduceEqDiff,reduceCtorEq, ↓reduceIte,BB,Cc,Bk,B4,Co,Cg,BW,Bt,h0,h1,OU BQ,CU BQ]
 refine Gp_.w Yp (by omega) ?_
 have e1:wrap64 (((0:Nat):Int)-wrap64 (((0:Nat):Int)-((0:Nat):Int)))=((0:Nat):Int):=by decide
 simp -implicitDefEqProofs only[TB,Ac,W_oS,W_on,Aa,W_mv,Ab,Ap,T.get_set,Ag,Af,Ar,Aq,Ae,Ah,reduceIte,Ak,As,Av,Aw,Ao,Aj,An,Au,Al,Ai,Nat.reduceEqDiff,reduceCtorEq, ↓reduceIte,BB,Cc,Bk,B4,Co,Cg,BW,Bt,e1]
 refine W.cond (v:=false) ZX Ya (by simp[T.get_set]) (by omega) (fun h=>by cases h) fun _=> ?_
 refine Cf_.w Agy_ (by omega) ?_
 simp -implicitDefEqProofs only[TN,Ac,W_oS,W_on,Aa,W_mv,Ab,Ap,T.get_set,Ag,Af,Ar,Aq,Ae,Ah,reduceIte,Ak,As,Av,Aw,Ao,Aj,An,Au,Al,Ai,Nat.reduceEqDiff,reduceCtorEq, ↓reduceIte,h0]
 refine W.end' (rs:=[4]) (vs:=[.slice none 0 0]) ZJ (.inl Y4) (by omega) Qm AO_ rfl (by simp[T.get_set]) ?_
 exact q _ rfl rfl (Ext.refl _)
section
variable {b o c:Nat}{parts:List (Value×List Nat)}
theorem Tp_ (ht:tot parts=0)(hlen:parts.length≤4611686018427387904){F:Nat→Prop}(hF: ∀x,C5 b o parts x→F x){Q:Value×FrameMode→St→Prop}{s0:St}(hb0:s0.lim≤s0.next)(hp:Parts s0 b o parts): ∀(k i n:Nat) (tm:T Value) (s:St) (td:List Item),i+k=parts.length→6*k+6≤n→skim 64 td=FI→Ext F Non s0 s→
  T.get tm 25=some (.slice (some ⟨b,o,none⟩) parts.length c)→T.get tm 26=some (.int .i64 (parts.length:Nat))→T.get tm 27=some (.int .i64 (i:Nat))→T.get tm 6=some (.slice none 0 0)→
  (∀n' tm' s1 td',n≤n'+6*k+2→skim 64 td'=GV→Ext F Non s0 s1→T.get tm' 6=some (.slice none 0 0)→W (runF envS n' ⟨43,Hk,B0,tm',td', .run, .normal,none⟩) s1 Q)→
  W (runF envS n ⟨43,Hk,B0,tm,td, .run, .normal,none⟩) s Q:=by
 intro k
 induction k with
 |zero=>
  intro i n tm s td hi hn hT hx h25 h26 h27 h6 q
  refine LF.w hT (by omega) ?_
  simp -implicitDefEqProofs only[Ij,Ac,W_oS,W_on,Aa,W_mv,Ab,Ap,T.get_set,Ag,Af,Ar,Aq,Ae,Ah,reduceIte,Ak,As,Av,Aw,Ao,Aj,An,Au,Al,Ai,Nat.reduceEqDiff,reduceCtorEq, ↓reduceIte,BB,Cc,Bk,B4,Co,Cg,BW,Bt,h26,h27]
  refine W.cond (v:=false) Nr NQ (by simp[T.get_set];omega) (by omega) (fun h=>by cases h) fun _=> ?_
  exact q _ _ _ _ (by omega) Ah_ hx (by simp[T.get_set,h6])
 |succ k ih=>
  intro i n tm s td hi hn hT hx h25 h26 h27 h6 q
  have hil:i<parts.length:=by omega
  obtain⟨g1,g2⟩:=(hp.ext0 hx).get hil
  have hlt:=SK hil
  have htl:=RD (l:=parts) (i+1)
  have hl0:parts[i].2.length=0:=by omega
  refine LF.w hT (by omega) ?_
  simp -implicitDefEqProofs only[Ij,Ac,W_oS,W_on,Aa,W_mv,Ab,Ap,T.get_set,Ag,Af,Ar,Aq,Ae,Ah,reduceIte,Ak,As,Av,Aw,Ao,Aj,An,Au,Al,Ai,Nat.reduceEqDiff,reduceCtorEq, ↓reduceIte,BB,Cc,Bk,B4,Co,Cg,BW,Bt,h26,h27]
  refine W.cond (v:=true) Nr NQ (by simp[T.get_set];omega) (by omega) (fun _=> ?_) fun h=>by cases h
  refine Zr.w FP_ (by omega) ?_
  simp -implicitDefEqProofs only[RW,Ac,W_oS,W_on,Aa,W_mv,Ab,Ap,T.get_set,Ag,Af,Ar,Aq,Ae,Ah,reduceIte,Ak,As,Av,Aw,Ao,Aj,An,Au,Al,Ai,Nat.reduceEqDiff,reduceCtorEq, ↓reduceIte,h25,h27,C7 E5 hil]
  refine W.load1 Ei g1 ?_
  have hx1:Ext F Non s0 (s.rdN (b+(o+i*1))):=hx.trans (Ext.rdN (F:=F) s _ fun _=>hF _ (.inl ⟨by omega,by omega⟩)) hb0 (fun _ _ h=>h) fun _ _ h=>h
  refine XK.w Ex_ (by omega) ?_
  simp -implicitDefEqProofs only[R9,Ac,W_oS,W_on,Aa,W_mv,Ab,Ap,T.get_set,Ag,Af,Ar,Aq,Ae,Ah,reduceIte,Ak,As,Av,Aw,Ao,Aj,An,Au,Al,Ai,Nat.reduceEqDiff,reduceCtorEq, ↓reduceIte,h6,IM]
  refine W.appV (s:=s.rdN (b+(o+i*1))) (hx1.bnd hb0) Js (len:=0) (b:=0) (old:=[]) (.inl ⟨rfl,rfl,rfl⟩) (g2.same (s':=s.rdN (b+(o+i*1))) rfl rfl).src.g (by decide) (by decide) (by omega) (by rw[Cn,Nat.mul_one]) (H2 _) fun s2 v2 b2 hb2 mk2 x2=> ?_
  have hv2:v2= .slice none 0 0:=by
   rcases mk2 with h|h
   ·exact h.1
   ·have:=h.2
    omega
  subst hv2
  have ei:wrap64 ((i:Nat)+1:Int)=((i+1:Nat):Int):=by
   rw[BZ (by omega) (by omega)];simp
  have hx2:Ext F Non s0 s2:=hx1.step x2 hb0 (fun l hl h=>by
   rcases h with h|h
   ·exact hF _ (.inr ⟨_,List.getElem_mem hil,h⟩)
   ·exact absurd h.1 (by omega)) fun l h=>by have:=h.1;omega
  refine Fy_.w AB_ (by omega) ?_
  simp -implicitDefEqProofs only[RZ,Ac,W_oS,W_on,Aa,W_mv,Ab,Ap,T.get_set,Ag,Af,Ar,Aq,Ae,Ah,reduceIte,Ak,As,Av,Aw,Ao,Aj,An,Au,Al,Ai,Nat.reduceEqDiff,reduceCtorEq, ↓reduceIte,BB,Cc,Bk,B4,Co,Cg,BW,Bt,h27,ei]
  exact ih (i+1) _ _ _ _ (by omega) (by omega) CF_ hx2 (by simp[T.get_set,h25]) (by simp[T.get_set,h26]) (by simp[T.get_set]) (by simp[T.get_set]) fun n' tm' s1 td' e=>q n' tm' s1 td' (by omega)
end
theorem Bs.nil0 (s:St):Bs s (.slice none 0 0) []:= .inl ⟨rfl,rfl⟩
theorem AcQ_ {n:Nat}{s:St}{b o c:Nat}{parts:List (Value×List Nat)}{Q:Value→St→Prop}(hbd:s.lim≤s.next)(hp:Parts s b o parts)(ht:tot parts≤1000000)(hlen:parts.length≤4611686018427387904)(hn:13*parts.length+60≤n)
  (q: ∀s1 v,Ext (C5 b o parts) Non s s1→Bs s1 v (fl parts)→(∀x,BsF v x→s.next≤x)→Q v s1):W (Ay envS (runF envS n) 43 [.slice (some ⟨b,o,none⟩) parts.length c]) s Q:=by
 by_cases h0:tot parts=0
 ·refine Bm_ fun tm hk0=> ?_
  have hpc:Parts (s.cxN cxN) b o parts:=hp.same rfl rfl
  refine Gw_.w rfl (by omega) ?_
  simp -implicitDefEqProofs only[T9,Ac,W_oS,W_on,Aa,W_mv,Ab,Ap,T.get_set,Ag,Af,Ar,Aq,Ae,Ah,reduceIte,Ak,As,Av,Aw,Ao,Aj,An,Au,Al,Ai,Nat.reduceEqDiff,reduceCtorEq, ↓reduceIte]
  refine EW_.w Dn_ (by omega) ?_
  simp -implicitDefEqProofs only[PN,Ac,W_oS,W_on,Aa,W_mv,Ab,Ap,T.get_set,Ag,Af,Ar,Aq,Ae,Ah,reduceIte,Ak,As,Av,Aw,Ao,Aj,An,Au,Al,Ai,Nat.reduceEqDiff,reduceCtorEq, ↓reduceIte]
  refine AE_.w GJ_ (by omega) ?_
  simp -implicitDefEqProofs only[PC,Ac,W_oS,W_on,Aa,W_mv,Ab,Ap,T.get_set,Ag,Af,Ar,Aq,Ae,Ah,reduceIte,Ak,As,Av,Aw,Ao,Aj,An,Au,Al,Ai,Nat.reduceEqDiff,reduceCtorEq, ↓reduceIte,hk0,CU E5]
  refine Cu_ (c:=c) ht hlen (F:=C5 b o parts) (fun _ h=>h) (s0:=s.cxN cxN) hbd hpc parts.length 0 _ _ _ _ (by omega) (by omega) W0 (Ext.refl _) rfl rfl (by simp[T.get_set,hk0]) (by simp[T.get_set]) (by simp[T.get_set]) (by simp[T.get_set]) (by simp[T.get_set,tot]) fun n1 tm1 s1 td1 hn1 hT1 hx1 hm1 hnx1 g0 g3=> ?_
  refine BQ_.w hT1 (by omega) ?_
  rw[h0]at g3
  simp -implicitDefEqProofs only[P4,Ac,W_oS,W_on,Aa,W_mv,Ab,Ap,T.get_set,Ag,Af,Ar,Aq,Ae,Ah,reduceIte,Ak,As,Av,Aw,Ao,Aj,An,Au,Al,Ai,Nat.reduceEqDiff,reduceCtorEq, ↓reduceIte,g3]
  have hb1:s1.lim≤s1.next:=hx1.bnd hbd
  refine Jh_ hb1 (by omega) fun s2 m2 nx2 x2=> ?_
  have hx2:Ext (C5 b o parts) Non (s.cxN cxN) s2:=hx1.step x2 hbd (fun _ _ h=>h.elim) fun _ h=>h.elim
  refine AR_.w UI (by omega) ?_
  simp -implicitDefEqProofs only[Tp,Ac,W_oS,W_on,Aa,W_mv,Ab,Ap,T.get_set,Ag,Af,Ar,Aq,Ae,Ah,reduceIte,Ak,As,Av,Aw,Ao,Aj,An,Au,Al,Ai,Nat.reduceEqDiff,reduceCtorEq, ↓reduceIte,g0,CU E5]
  refine Tp_ (c:=c) h0 hlen (F:=C5 b o parts) (fun _ h=>h) (s0:=s.cxN cxN) hbd hpc parts.length 0 _ _ _ _ (by omega) (by omega) Fm_ hx2 (by simp[T.get_set]) (by simp[T.get_set]) (by simp[T.get_set]) (by simp[T.get_set]) fun n3 tm3 s3 td3 hn3 hT3 hx3 g6=> ?_
  refine Xp.w hT3 (by omega) ?_
  simp -implicitDefEqProofs only[Sw,Ac,W_oS,W_on,Aa,W_mv,Ab,Ap,T.get_set,Ag,Af,Ar,Aq,Ae,Ah,reduceIte,Ak,As,Av,Aw,Ao,Aj,An,Au,Al,Ai,Nat.reduceEqDiff,reduceCtorEq, ↓reduceIte,g6]
  refine W.end' (rs:=[2]) (vs:=[.slice none 0 0]) Z4 (.inl Fe_) (by omega) Q5 Ym hx3.cx (by simp[T.get_set]) ?_
  have e0:fl parts=[]:=List.eq_nil_of_length_eq_zero (by rw[Ef];exact h0)
  refine q _ _ hx3.cx' ?_ fun x hx=>hx.elim
  rw[e0]
  exact Bs.nil0 _
 ·exact Act_ hbd hp (by omega) ht hlen hn fun s1 v x1 h1=>q s1 v x1 h1.bn.bs h1.new
theorem AT_:elT envS 114=some (1,24,[.slice none 0 0]):=by kernel_rfl
theorem UO {va vb:Value}(ha: ∃p n c,va= .slice p n c)(hb: ∃p n c,vb= .slice p n c):Do (fun k=>some (k*1,1)) [(0,va),(1,vb)] (rep 2 [.slice none 0 0])=some [va,vb]:=by
 obtain⟨p,n,c,rfl⟩:=ha
 obtain⟨p',n',c',rfl⟩:=hb
 rfl
theorem VS {n b c:Nat}{s:St}{va vb:Value}{la lb:List Nat}{Q:Value→St→Prop}(hbd:s.lim≤s.next)(ra:Row s b 0 [va,vb])(ba:Bs s va la)(bb:Bs s vb lb)(ht:la.length+lb.length≤1000000)(hn:100≤n)(q: ∀s1 v,Ext Any Non s s1→Bs s1 v (la++lb)→(∀x,BsF v x→s.next≤x)→Q v s1):W (Ay envS (runF envS n) 43 [.slice (some ⟨b,0,none⟩) 2 c]) s Q:=by
 have hp:Parts s b 0 [(va,la),(vb,lb)]:=⟨ra,fun p hp=>by
  simp only[List.mem_cons,List.not_mem_nil,or_false]at hp
  rcases hp with rfl|rfl
  ·exact ba
  ·exact bb⟩
 have ef:fl [(va,la),(vb,lb)]=la++lb:=by
  show la++(lb++[])=_
  rw[List.append_nil]
 have et:tot [(va,la),(vb,lb)]=la.length+lb.length:=by
  rw[←Ef,ef,List.length_append]
 have el:[(va,la),(vb,lb)].length=2:=rfl
 generalize [(va,la),(vb,lb)]=ps at *
 have:=AcQ_ (n:=n) (s:=s) (b:=b) (o:=0) (c:=c) (parts:=ps) (Q:=Q) hbd hp (by omega) (by omega) (by omega) fun s1 v x1 h1 h2=>q s1 v (x1.weak hbd (fun _ _ _=>trivial) fun _ _ h=>h) (by rw[←ef];exact h1) h2
 rwa [el]at this
section
variable {n D M:Nat}{s:St}{k:DkS}{col:Nat→Nat}{a:ByteArray}{Q:Value→St→Prop}
theorem QG (hb:s.lim≤s.next)(hI:DkI s col D M k)(hlen:k.fs.length≤300)(hz:k.used≤1000000)(hn:400≤n)
  (q1:k.out=true→ ∀s1,Ext Any Non s s1→Q (.tuple #[.slice none 0 0, .int .i64 10]) s1)
  (q2:k.out=false→Bh k.fs a=none→ ∀s1,Ext Any Non s s1→Q (.tuple #[.slice none 0 0, .int .i64 6]) s1)
  (q3:k.out=false→ ∀j,Bh k.fs a=some j→ ∀hj:j<k.fs.length,∀s1 v,Ext Any Non s s1→Bs s1 v k.fs[j].all→(∀x,BsF v x→s.next≤x)→Q (.tuple #[v, .int .i64 0]) s1):
  W (Ay envS (runF envS n) 21 [.pointer (some ⟨D,0,none⟩), .string a]) s Q:=by
 have hb0:(s.cxN cxN).lim≤(s.cxN cxN).next:=hb
 have hI0:DkI (s.cxN cxN) col D M k:=hI.same rfl rfl
 refine Aad_ fun tm t0 t1=> ?_
 refine Agx_.w rfl (by omega) ?_
 simp only[Al_,Ac,W_oS,W_on,Aa,W_mv,Ab,Ap,T.get_set,Ag,Af,Ar,Aq,Ae,Ah,reduceIte,Ak,As,Av,Aw,Ao,Aj,An,Au,Al,Ai,Nat.reduceEqDiff,reduceCtorEq, ↓reduceIte]
 refine Ip_.w YU_ (by omega) ?_
 simp only[Wf,Ac,W_oS,W_on,Aa,W_mv,Ab,Ap,T.get_set,Ag,Af,Ar,Aq,Ae,Ah,reduceIte,Ak,As,Av,Aw,Ao,Aj,An,Au,Al,Ai,Nat.reduceEqDiff,reduceCtorEq, ↓reduceIte,t0]
 refine N5 (o:=k.out) hb0 (hI0.d0.same rfl rfl) (hI0.d6.same rfl rfl) (by omega) fun s1 m1 n1 x1=> ?_
 have y1:=x1
 have n1':s1.next=s.next:=n1
 have hI1:DkI s1 col D M k:=hI0.same m1 n1
 try simp only[Ac,W_oS,W_on,Aa,W_mv,Ab,Ap,T.get_set,Ag,Af,Ar,Aq,Ae,Ah,reduceIte,Ak,As,Av,Aw,Ao,Aj,An,Au,Al,Ai,Nat.reduceEqDiff,reduceCtorEq, ↓reduceIte]
 refine Wr_.w Agq_ (by omega) ?_
 cases ho:k.out with
 |true=>
  simp only[SL,Ac,W_oS,W_on,Aa,W_mv,Ab,Ap,T.get_set,Ag,Af,Ar,Aq,Ae,Ah,reduceIte,Ak,As,Av,Aw,Ao,Aj,An,Au,Al,Ai,Nat.reduceEqDiff,reduceCtorEq, ↓reduceIte,BB,Cc,Bk,B4,Co,Cg,BW,Bt]
  refine W.cond (v:=true) Ye UP (by simp[T.get_set]) (by omega) (fun _=> ?_) fun h=>by cases h
  refine Jw_.w Qa_ (by omega) ?_
  simp only[CU_,Ac,W_oS,W_on,Aa,W_mv,Ab,Ap,T.get_set,Ag,Af,Ar,Aq,Ae,Ah,reduceIte,Ak,As,Av,Aw,Ao,Aj,An,Au,Al,Ai,Nat.reduceEqDiff,reduceCtorEq, ↓reduceIte]
  refine W.end' (rs:=[4,5]) (vs:=[.slice none 0 0, .int .i64 10]) JH_ (.inl OY_) (by omega) Ju S9 y1.cx (by simp[T.get_set]) ?_
  exact q1 ho _ y1.cx'
 |false=>
  simp only[SL,Ac,W_oS,W_on,Aa,W_mv,Ab,Ap,T.get_set,Ag,Af,Ar,Aq,Ae,Ah,reduceIte,Ak,As,Av,Aw,Ao,Aj,An,Au,Al,Ai,Nat.reduceEqDiff,reduceCtorEq, ↓reduceIte,BB,Cc,Bk,B4,Co,Cg,BW,Bt]
  refine W.cond (v:=false) Ye UP (by simp[T.get_set]) (by omega) (fun h=>by cases h) fun _=> ?_
  refine WB_.w IF_ (by omega) ?_
  simp only[AC_,Ac,W_oS,W_on,Aa,W_mv,Ab,Ap,T.get_set,Ag,Af,Ar,Aq,Ae,Ah,reduceIte,Ak,As,Av,Aw,Ao,Aj,An,Au,Al,Ai,Nat.reduceEqDiff,reduceCtorEq, ↓reduceIte,t0,t1,Bg DE (by decide)]
  refine W.load1 DI hI1.d1.at' ?_
  try simp only[Ac,W_oS,W_on,Aa,W_mv,Ab,Ap,T.get_set,Ag,Af,Ar,Aq,Ae,Ah,reduceIte,Ak,As,Av,Aw,Ao,Aj,An,Au,Al,Ai,Nat.reduceEqDiff,reduceCtorEq, ↓reduceIte]
  refine Gu (fs:=k.fs) (mx:=k.mx) (hI1.om.same rfl rfl) ?_
  try simp only[Ac,W_oS,W_on,Aa,W_mv,Ab,Ap,T.get_set,Ag,Af,Ar,Aq,Ae,Ah,reduceIte,Ak,As,Av,Aw,Ao,Aj,An,Au,Al,Ai,Nat.reduceEqDiff,reduceCtorEq, ↓reduceIte]
  have y2:=(y1.thenRd hb0 (D+(0+1))).thenRd hb0 M
  have hI2:DkI ((s1.rdN (D+(0+1))).rdN M) col D M k:=hI1.same rfl rfl
  have n2:((s1.rdN (D+(0+1))).rdN M).next=s.next:=n1'
  generalize (s1.rdN (D+(0+1))).rdN M=s2 at *
  refine Yx_.w TB_ (by omega) ?_
  cases hj:Bh k.fs a with
  |none=>
   have hv:BG k.fs a= .pointer none:=by unfold BG;rw[hj]
   rw[hv]
   simp only[RX,Ac,W_oS,W_on,Aa,W_mv,Ab,Ap,T.get_set,Ag,Af,Ar,Aq,Ae,Ah,reduceIte,Ak,As,Av,Aw,Ao,Aj,An,Au,Al,Ai,Nat.reduceEqDiff,reduceCtorEq, ↓reduceIte,M8]
   refine W.cond (v:=true) Ek_ ZK (by simp[T.get_set]) (by omega) (fun _=> ?_) fun h=>by cases h
   refine SI_.w Hx_ (by omega) ?_
   simp only[Gx_,Ac,W_oS,W_on,Aa,W_mv,Ab,Ap,T.get_set,Ag,Af,Ar,Aq,Ae,Ah,reduceIte,Ak,As,Av,Aw,Ao,Aj,An,Au,Al,Ai,Nat.reduceEqDiff,reduceCtorEq, ↓reduceIte]
   refine W.end' (rs:=[4,5]) (vs:=[.slice none 0 0, .int .i64 6]) WL_ (.inl Hr_) (by omega) Ju S9 y2.cx (by simp[T.get_set]) ?_
   exact q2 ho hj _ y2.cx'
  |some j=>
   have hlt:=Fp hj
   have hv:BG k.fs a= .pointer (some ⟨k.fs[j].blk,0,none⟩):=by
    unfold BG
    rw[hj]
    simp only[List.getElem?_eq_getElem hlt]
   rw[hv]
   simp only[RX,Ac,W_oS,W_on,Aa,W_mv,Ab,Ap,T.get_set,Ag,Af,Ar,Aq,Ae,Ah,reduceIte,Ak,As,Av,Aw,Ao,Aj,An,Au,Al,Ai,Nat.reduceEqDiff,reduceCtorEq, ↓reduceIte,C8 FK]
   refine W.cond (v:=false) Ek_ ZK (by simp[T.get_set]) (by omega) (fun h=>by cases h) fun _=> ?_
   have g:=hI2.fl j hlt
   have hused:=DkS.used_at hlt
   refine MK_.w Lh_ (by omega) ?_
   simp only[ZN,T.get_set,Nat.reduceEqDiff,reduceIte,AY,D7,Ag,Af,Ar,Aq,Ae,Fa,B9]
   rw[W_dq fun s Q=>Ai (s:=s) _ Q]
   dsimp only
   try simp only[AY]
   rw[W_dq fun s Q=>Bg (s:=s) SD (by decide) Q]
   dsimp only
   try simp only[AY]
   refine W.dload Dl ((g.o0.same (s':=dSt s2.mem s2.next) rfl rfl).at') fun rd3 hr3=> ?_
   try simp only[AY,B9]
   rw[W_dq fun s Q=>Ai (s:=s) _ Q]
   dsimp only
   try simp only[AY]
   rw[W_dq fun s Q=>Bg (s:=s) FQ (by decide) Q]
   dsimp only
   try simp only[AY]
   refine W.dload Dl ((g.o1.same (s':=dSt s2.mem s2.next) rfl rfl).at') fun rd7 hr7=> ?_
   try simp only[AY,Ag,Af,Ar,Aq,Ae,D7]
   refine W.dop (W.buildS (s:=oSt s2.mem s2.next) (Nat.le_refl _) (r:=[k.fs[j].sv,k.fs[j].lv]) AT_ (by decide) (UO (g.ms.sl.imp fun p h=>⟨_,h⟩) (g.ml.sl.imp fun p h=>⟨_,h⟩)) (Cp (by decide)) fun sa na xa ra=>⟨Non,xa,fun rd8 hr8=> ?_⟩)
   obtain rfl:=WZ fun x hx=>(hr8 x hx).2
   try simp only[AY,Ag,Af,Ae,D7,Fa]
   have bs:Bs s2 k.fs[j].sv k.fs[j].sb:=g.ms.bs (Nat.lt_of_le_of_lt (show _≤1000000 by omega) (by decide))
   have bl:Bs s2 k.fs[j].lv k.fs[j].lb:=g.ml.bs (Nat.lt_of_le_of_lt (show _≤1000000 by omega) (by decide))
   refine W.dop (VS (s:=oSt sa.mem sa.next) (Nat.le_refl _) (fun i v e=>((ra i v e).same rfl rfl).at') (((bs.same (s':=oSt s2.mem s2.next) rfl rfl).ext0 xa).same rfl rfl) (((bl.same (s':=oSt s2.mem s2.next) rfl rfl).ext0 xa).same rfl rfl) (by omega) (by omega) fun sb v xb hbs hnw=>⟨_,xb,fun rd9 hr9=> ?_⟩)
   refine Eq.mpr (B9 v _ _ _ _) ?_
   dsimp only
   try simp only[Ap]
   have na':sa.next=s2.next+3:=na
   have nb':sa.next≤sb.next:=xb.nxt
   rw[Aa]
   refine⟨D9 ?_, ?_⟩
   ·simp only[List.reverse_cons,List.reverse_nil,List.nil_append,List.cons_append,allP,CJ,List.take,DA]
    have lts: ∀x,s2.next≤x→ ¬x<s2.next:=fun x h=>by omega
    simp+contextual [lts]
    exact .inl rfl
   ·refine W.cast (Hs_ _ _ _ _ _ _ _ _ _ _ _ _ _ _ _ _) ?_
    simp only[Ac,W_oS,W_on,Aa,W_mv,Ab,Ap,T.get_set,Ag,Af,Ar,Aq,Ae,Ah,reduceIte,Ak,As,Av,Aw,Ao,Aj,An,Au,Al,Ai,Nat.reduceEqDiff,reduceCtorEq, ↓reduceIte]
    generalize hs':(⟨(dSt sb.mem sb.next).mem,(dSt sb.mem sb.next).next,s2.lim,_,_,s2.cx⟩:St)=s7
    have x7:Ext Any Non s2 s7:=by
     rw[←hs']
     exact Ext.draw (F:=Any) (by show s2.next≤sb.next;omega) (fun x hx=>(xb.mem x (by show x<sa.next;omega) id).trans (xa.mem x hx id)) (by simp) fun _ _ _ _ _=>trivial
    have m7:s7.mem=sb.mem:=by rw[←hs'];rfl
    have n7:s7.next=sb.next:=by rw[←hs'];rfl
    have y7:=y2.on x7 hb0 fun _ _ h=>h
    refine W.end' (rs:=[4,5]) (vs:=[v, .int .i64 0]) HA_ (.inl RV_) (by omega) Ju S9 y7.cx (by simp[T.get_set]) ?_
    refine q3 ho j hj hlt _ v y7.cx' (hbs.same m7 n7) fun x hx=> ?_
    have h1:=hnw x hx
    have h2:sa.next≤x:=h1
    omega
end
theorem WT_ (m:Nat):F4 envS 78 [(0, .bool true),(1, .map (some m))]=some [.bool true, .map (some m), .int .i64 0, .int .i64 0, .bool false, .int .i64 0, .bool false]:=by kernel_rfl
def newC (N:Nat):Nat→Nat:=fun x=>if x<N then 1000 else if x=N then 1 else 0
section
variable {D n:Nat}{s:St}{Q:Value→St→Prop}
theorem Xg_ {r0:Int}{room:Nat}(hb:s.lim≤s.next)(h0:Own s D 0 (.bool true))(h2:Own s D 2 (.int .i64 r0))(hr:room≤16777216)(hn:60≤n)(q: ∀s1,s1.next=s.next→Ext Any (fun y=>y=D+2) s s1→Own s1 D 2 (.int .i64 (room:Nat))→Q (.int .i64 0) s1):W (Ay envS (runF envS n) 55 [.pointer (some ⟨D,0,none⟩), .int .i64 (room:Nat)]) s Q:=by
 have hb0:(s.cxN cxN).lim≤(s.cxN cxN).next:=hb
 refine Afl_ fun tm t0 t1=> ?_
 refine Sr_.w rfl (by omega) ?_
 simp only[XH,Ac,W_oS,W_on,Aa,W_mv,Ab,Ap,T.get_set,Ag,Af,Ar,Aq,Ae,Ah,reduceIte,Ak,As,Av,Aw,Ao,Aj,An,Au,Al,Ai,Nat.reduceEqDiff,reduceCtorEq, ↓reduceIte]
 refine Aeo_.w AbY_ (by omega) ?_
 simp only[VO,Ac,W_oS,W_on,Aa,W_mv,Ab,Ap,T.get_set,Ag,Af,Ar,Aq,Ae,Ah,reduceIte,Ak,As,Av,Aw,Ao,Aj,An,Au,Al,Ai,Nat.reduceEqDiff,reduceCtorEq, ↓reduceIte,t0]
 refine I8 hb0 (h0.same rfl rfl) (by omega) fun s1 m1 n1 x1=> ?_
 try simp only[Ac,W_oS,W_on,Aa,W_mv,Ab,Ap,T.get_set,Ag,Af,Ar,Aq,Ae,Ah,reduceIte,Ak,As,Av,Aw,Ao,Aj,An,Au,Al,Ai,Nat.reduceEqDiff,reduceCtorEq, ↓reduceIte]
 refine W.cond (v:=false) Ago_ WA_ (by simp[T.get_set]) (by omega) (fun h=>by cases h) fun _=> ?_
 refine ZP_.w NS_ (by omega) ?_
 have e1:decide (((room:Nat):Int)<0)=false:=decide_eq_false (by omega)
 have e2:decide ((16777216:Int)<((room:Nat):Int))=false:=decide_eq_false (by omega)
 simp only[Bd_,Ac,W_oS,W_on,Aa,W_mv,Ab,Ap,T.get_set,Ag,Af,Ar,Aq,Ae,Ah,reduceIte,Ak,As,Av,Aw,Ao,Aj,An,Au,Al,Ai,Nat.reduceEqDiff,reduceCtorEq, ↓reduceIte,BB,Cc,Bk,B4,Co,Cg,BW,Bt,t1,e1,e2]
 refine W.cond (v:=false) Adc_ Abc_ (by simp[T.get_set]) (by omega) (fun h=>by cases h) fun _=> ?_
 refine YH_.w YY_ (by omega) ?_
 simp only[ZR,Ac,W_oS,W_on,Aa,W_mv,Ab,Ap,T.get_set,Ag,Af,Ar,Aq,Ae,Ah,reduceIte,Ak,As,Av,Aw,Ao,Aj,An,Au,Al,Ai,Nat.reduceEqDiff,reduceCtorEq, ↓reduceIte,t0,t1,Bg VM (by decide)]
 have g2:Own s1 D 2 (.int .i64 r0):=(h2.same (s':=s.cxN cxN) rfl rfl).same m1 n1
 refine W.store1 BN rfl g2 fun s2 n2 x2 o2=> ?_
 have y2:Ext Any (fun y=>y=D+2) (s.cxN cxN) s2:=(x1.gw hb0 fun _ _ h=>h.elim).on x2 hb0 fun y _ hq=>by have h1:=hq.1;have h2:=hq.2;omega
 try simp only[Ac,W_oS,W_on,Aa,W_mv,Ab,Ap,T.get_set,Ag,Af,Ar,Aq,Ae,Ah,reduceIte,Ak,As,Av,Aw,Ao,Aj,An,Au,Al,Ai,Nat.reduceEqDiff,reduceCtorEq, ↓reduceIte]
 refine Aes_.w Zt_ (by omega) ?_
 simp only[Uy,Ac,W_oS,W_on,Aa,W_mv,Ab,Ap,T.get_set,Ag,Af,Ar,Aq,Ae,Ah,reduceIte,Ak,As,Av,Aw,Ao,Aj,An,Au,Al,Ai,Nat.reduceEqDiff,reduceCtorEq, ↓reduceIte]
 refine W.end' (rs:=[4]) (vs:=[.int .i64 0]) YZ_ (.inl Yb_) (by omega) Uz MR_ y2.cx (by simp[T.get_set]) ?_
 exact q _ (n2.trans n1) y2.cx' (o2.same rfl rfl)
theorem AfY_ {room:Nat}(hb:s.lim≤s.next)(hr:room≤16777216)(hn:100≤n)(q: ∀s1,Ext Any Non s s1→DkI s1 (newC s.next) (s.next+1) s.next ⟨[],0,room,0,false,0,false⟩→Q (.tuple #[.pointer (some ⟨s.next+1,0,none⟩), .int .i64 0]) s1):W (Ay envS (runF envS n) 23 [.int .i64 (room:Nat)]) s Q:=by
 have hb0:(s.cxN cxN).lim≤(s.cxN cxN).next:=hb
 refine Adf_ fun tm t0=> ?_
 refine Lx_.w rfl (by omega) ?_
 simp only[US,Ac,W_oS,W_on,Aa,W_mv,Ab,Ap,T.get_set,Ag,Af,Ar,Aq,Ae,Ah,reduceIte,Ak,As,Av,Aw,Ao,Aj,An,Au,Al,Ai,Nat.reduceEqDiff,reduceCtorEq, ↓reduceIte]
 refine TU_.w Pf_ (by omega) ?_
 simp only[BH_,Ac,W_oS,W_on,Aa,W_mv,Ab,Ap,T.get_set,Ag,Af,Ar,Aq,Ae,Ah,reduceIte,Ak,As,Av,Aw,Ao,Aj,An,Au,Al,Ai,Nat.reduceEqDiff,reduceCtorEq, ↓reduceIte]
 unfold Dw
 refine W.bind (W.newO fun s1 n1 x1 o1=> ?_)
 have ea:(s.cxN cxN).next=s.next:=rfl
 rw[ea]at o1 n1 ⊢
 have y1:Ext Any Non (s.cxN cxN) s1:=x1.weak hb0 (fun _ _ _=>trivial) fun _ _ h=>h
 simp only[Ac,W_oS,W_on,Aa,W_mv,Ab,Ap,T.get_set,Ag,Af,Ar,Aq,Ae,Ah,reduceIte,Ak,As,Av,Aw,Ao,Aj,An,Au,Al,Ai,Nat.reduceEqDiff,reduceCtorEq, ↓reduceIte,Ff (WT_ s.next)]
 refine W.box fun s2 n2 x2 r2=> ?_
 rw[Rb]at n2 r2
 have n2':s2.next=s1.next+8:=n2
 rw[n1]at r2 n2' ⊢
 have y2:=y1.on x2 hb0 fun _ _ h=>h
 try simp only[Ac,W_oS,W_on,Aa,W_mv,Ab,Ap,T.get_set,Ag,Af,Ar,Aq,Ae,Ah,reduceIte,Ak,As,Av,Aw,Ao,Aj,An,Au,Al,Ai,Nat.reduceEqDiff,reduceCtorEq, ↓reduceIte]
 refine PS_.w Afk_ (by omega) ?_
 simp only[Ab_,Ac,W_oS,W_on,Aa,W_mv,Ab,Ap,T.get_set,Ag,Af,Ar,Aq,Ae,Ah,reduceIte,Ak,As,Av,Aw,Ao,Aj,An,Au,Al,Ai,Nat.reduceEqDiff,reduceCtorEq, ↓reduceIte,t0]
 refine Xg_ (y2.bnd hb0) (r2 0 _ rfl) (r2 2 _ rfl) hr (by omega) fun s3 n3 x3 o3=> ?_
 have y3:Ext Any Non (s.cxN cxN) s3:=y2.on x3 hb0 fun y hy h=>by have:y<s.next:=hy;omega
 try simp only[Ac,W_oS,W_on,Aa,W_mv,Ab,Ap,T.get_set,Ag,Af,Ar,Aq,Ae,Ah,reduceIte,Ak,As,Av,Aw,Ao,Aj,An,Au,Al,Ai,Nat.reduceEqDiff,reduceCtorEq, ↓reduceIte]
 refine Acz_.w Oo_ (by omega) ?_
 simp only[XG,Ac,W_oS,W_on,Aa,W_mv,Ab,Ap,T.get_set,Ag,Af,Ar,Aq,Ae,Ah,reduceIte,Ak,As,Av,Aw,Ao,Aj,An,Au,Al,Ai,Nat.reduceEqDiff,reduceCtorEq, ↓reduceIte,BB,Cc,Bk,B4,Co,Cg,BW,Bt,decide_true,Bool.not_true]
 refine W.cond (v:=false) UY_ Pi_ (by simp[T.get_set]) (by omega) (fun h=>by cases h) fun _=> ?_
 refine Rf_.w Qi_ (by omega) ?_
 simp only[Fb_,Ac,W_oS,W_on,Aa,W_mv,Ab,Ap,T.get_set,Ag,Af,Ar,Aq,Ae,Ah,reduceIte,Ak,As,Av,Aw,Ao,Aj,An,Au,Al,Ai,Nat.reduceEqDiff,reduceCtorEq, ↓reduceIte]
 refine W.end' (rs:=[2,3]) (vs:=[.pointer (some ⟨s.next+1,0,none⟩), .int .i64 0]) Uf_ (.inl AcY_) (by omega) Wi Ps_ y3.cx (by simp[T.get_set]) ?_
 refine q _ y3.cx' ?_
 have k: ∀i u,i≠2→Own s2 (s.next+1) i u→Own (s3.cxN s.cx) (s.next+1) i u:=fun i u hi h=>(h.ext x3 fun hq=>by omega).same rfl rfl
 have oM:Obj (s3.cxN s.cx) s.next (.map [] 0):=((Obj.ext (Obj.ext o1 x2 id) x3 fun hq=>by omega)).same rfl rfl
 exact⟨k 0 _ (by decide) (r2 0 _ rfl),k 1 _ (by decide) (r2 1 _ rfl),o3.same rfl rfl,k 3 _ (by decide) (r2 3 _ rfl),k 4 _ (by decide) (r2 4 _ rfl),k 5 _ (by decide) (r2 5 _ rfl),k 6 _ (by decide) (r2 6 _ rfl),fun x h1 h2=>by unfold newC;rw[if_neg (by omega),if_neg (by omega)],oM,by unfold newC;rw[if_neg (by omega),if_pos rfl],rfl,fun i hi=>absurd hi (Nat.not_lt_zero i)⟩
end
theorem MkS.lenq {E:Env}{s s':St}{t z sz n:Nat}{l:List Value}{v:Value}{b:Nat}(h:MkS s sz n l v b)(ht:slN E t=some z)(Q:Value→St→Prop):W (Ba E .len [t] [v]) s' Q=Q (.int .i64 (n:Nat)) s':=h.len ht Q
section
variable {D M n:Nat}{k:DkS}{ks:List Int}{kv:Value}{col:Nat→Nat}{s:St}{a:ByteArray}{Q:Value→St→Prop}
theorem AaZ_ (hb:s.lim≤s.next)(hI:DkI s col D M k)(hn:100≤n)(q: ∀s1,Ext Any Non s s1→Q (.bool (!k.out)) s1):W (Ay envS (runF envS n) 28 [.pointer (some ⟨D,0,none⟩)]) s Q:=by
 have hb0:(s.cxN cxN).lim≤(s.cxN cxN).next:=hb
 have hI0:DkI (s.cxN cxN) col D M k:=hI.same rfl rfl
 refine AaN_ fun tm t0=> ?_
 refine Tz_.w rfl (by omega) ?_
 simp only[BL_,Ac,W_oS,W_on,Aa,W_mv,Ab,Ap,T.get_set,Ag,Af,Ar,Aq,Ae,Ah,reduceIte,Ak,As,Av,Aw,Ao,Aj,An,Au,Al,Ai,Nat.reduceEqDiff,reduceCtorEq, ↓reduceIte]
 refine Xo_.w Hu_ (by omega) ?_
 simp only[Yg,Ac,W_oS,W_on,Aa,W_mv,Ab,Ap,T.get_set,Ag,Af,Ar,Aq,Ae,Ah,reduceIte,Ak,As,Av,Aw,Ao,Aj,An,Au,Al,Ai,Nat.reduceEqDiff,reduceCtorEq, ↓reduceIte,t0]
 refine I8 hb0 hI0.d0 (by omega) fun s1 m1 n1 x1=> ?_
 have hI1:=hI0.same m1 n1
 simp only[Ac,W_oS,W_on,Aa,W_mv,Ab,Ap,T.get_set,Ag,Af,Ar,Aq,Ae,Ah,reduceIte,Ak,As,Av,Aw,Ao,Aj,An,Au,Al,Ai,Nat.reduceEqDiff,reduceCtorEq, ↓reduceIte,CM,Bool.not_false,Bg TW (by decide)]
 refine W.load1 DH hI1.d6.at' ?_
 have y1:=x1.thenRd hb0 (D+(0+6))
 simp only[Ac,W_oS,W_on,Aa,W_mv,Ab,Ap,T.get_set,Ag,Af,Ar,Aq,Ae,Ah,reduceIte,Ak,As,Av,Aw,Ao,Aj,An,Au,Al,Ai,Nat.reduceEqDiff,reduceCtorEq, ↓reduceIte,BB,Cc,Bk,B4,Co,Cg,BW,Bt,CM]
 refine W.end' (rs:=[2]) (vs:=[.bool (!k.out)]) Wl_ (.inl Ty_) (by omega) CN_ VA_ y1.cx (by simp[T.get_set]) ?_
 exact q _ y1.cx'
theorem AaD_ {j:Nat}(hb:s.lim≤s.next)(hI:DkI s col D M k)(hj:j<k.fs.length)(hl:Bh k.fs a=some j)(hn:100≤n)(q: ∀s1,Ext Any Non s s1→Q (.int .i64 (k.fs[j].lb.length:Nat)) s1):W (Ay envS (runF envS n) 20 [.pointer (some ⟨D,0,none⟩), .string a]) s Q:=by
 have hb0:(s.cxN cxN).lim≤(s.cxN cxN).next:=hb
 have hI0:DkI (s.cxN cxN) col D M k:=hI.same rfl rfl
 have hv:BG k.fs a= .pointer (some ⟨k.fs[j].blk,0,none⟩):=by
  unfold BG
  rw[hl]
  simp only[List.getElem?_eq_getElem hj]
 refine Rl_ fun tm t0 t1=> ?_
 refine YD_.w rfl (by omega) ?_
 simp only[Ha_,Ac,W_oS,W_on,Aa,W_mv,Ab,Ap,T.get_set,Ag,Af,Ar,Aq,Ae,Ah,reduceIte,Ak,As,Av,Aw,Ao,Aj,An,Au,Al,Ai,Nat.reduceEqDiff,reduceCtorEq, ↓reduceIte]
 refine Abn_.w ZR_ (by omega) ?_
 simp only[Eo_,Ac,W_oS,W_on,Aa,W_mv,Ab,Ap,T.get_set,Ag,Af,Ar,Aq,Ae,Ah,reduceIte,Ak,As,Av,Aw,Ao,Aj,An,Au,Al,Ai,Nat.reduceEqDiff,reduceCtorEq, ↓reduceIte,t0]
 refine I8 hb0 hI0.d0 (by omega) fun s1 m1 n1 x1=> ?_
 have hI1:=hI0.same m1 n1
 simp only[Ac,W_oS,W_on,Aa,W_mv,Ab,Ap,T.get_set,Ag,Af,Ar,Aq,Ae,Ah,reduceIte,Ak,As,Av,Aw,Ao,Aj,An,Au,Al,Ai,Nat.reduceEqDiff,reduceCtorEq, ↓reduceIte,t1,Bg DE (by decide)]
 refine W.load1 DI hI1.d1.at' ?_
 have y1:=x1.thenRd hb0 (D+(0+1))
 try simp only[Ac,W_oS,W_on,Aa,W_mv,Ab,Ap,T.get_set,Ag,Af,Ar,Aq,Ae,Ah,reduceIte,Ak,As,Av,Aw,Ao,Aj,An,Au,Al,Ai,Nat.reduceEqDiff,reduceCtorEq, ↓reduceIte]
 refine Gu (fs:=k.fs) (mx:=k.mx) (hI1.om.same rfl rfl) ?_
 have y2:=y1.thenRd hb0 M
 have hI2:DkI ((s1.rdN (D+(0+1))).rdN M) col D M k:=hI1.same rfl rfl
 generalize (s1.rdN (D+(0+1))).rdN M=s2 at *
 rw[hv]
 simp only[Ac,W_oS,W_on,Aa,W_mv,Ab,Ap,T.get_set,Ag,Af,Ar,Aq,Ae,Ah,reduceIte,Ak,As,Av,Aw,Ao,Aj,An,Au,Al,Ai,Nat.reduceEqDiff,reduceCtorEq, ↓reduceIte,BB,Cc,Bk,B4,Co,Cg,BW,Bt,C8 FK]
 refine W.cond (v:=false) MQ_ LL_ (by simp[T.get_set]) (by omega) (fun h=>by cases h) fun _=> ?_
 refine Jb_.w HH_ (by omega) ?_
 simp only[Yd,Ac,W_oS,W_on,Aa,W_mv,Ab,Ap,T.get_set,Ag,Af,Ar,Aq,Ae,Ah,reduceIte,Ak,As,Av,Aw,Ao,Aj,An,Au,Al,Ai,Nat.reduceEqDiff,reduceCtorEq, ↓reduceIte,t0,t1,Bg DE (by decide)]
 refine W.load1 DI hI2.d1.at' ?_
 have y3:=y2.thenRd hb0 (D+(0+1))
 try simp only[Ac,W_oS,W_on,Aa,W_mv,Ab,Ap,T.get_set,Ag,Af,Ar,Aq,Ae,Ah,reduceIte,Ak,As,Av,Aw,Ao,Aj,An,Au,Al,Ai,Nat.reduceEqDiff,reduceCtorEq, ↓reduceIte]
 refine Gu (fs:=k.fs) (mx:=k.mx) (hI2.om.same rfl rfl) ?_
 have y4:=y3.thenRd hb0 M
 have hI4:DkI ((s2.rdN (D+(0+1))).rdN M) col D M k:=hI2.same rfl rfl
 generalize (s2.rdN (D+(0+1))).rdN M=s4 at *
 rw[hv]
 have g:=hI4.fl j hj
 simp only[Ac,W_oS,W_on,Aa,W_mv,Ab,Ap,T.get_set,Ag,Af,Ar,Aq,Ae,Ah,reduceIte,Ak,As,Av,Aw,Ao,Aj,An,Au,Al,Ai,Nat.reduceEqDiff,reduceCtorEq, ↓reduceIte,Bg FQ (by decide)]
 refine W.load1 Dl g.o1.at' ?_
 have y5:=y4.thenRd hb0 (k.fs[j].blk+(0+1))
 simp only[Ac,W_oS,W_on,Aa,W_mv,Ab,Ap,T.get_set,Ag,Af,Ar,Aq,Ae,Ah,reduceIte,Ak,As,Av,Aw,Ao,Aj,An,Au,Al,Ai,Nat.reduceEqDiff,reduceCtorEq, ↓reduceIte,BB,Cc,Bk,B4,Co,Cg,BW,Bt,MkS.lenq g.ml VJ]
 refine W.end' (rs:=[4]) (vs:=[.int .i64 (k.fs[j].lb.length:Nat)]) UK_ (.inl QV_) (by omega) GW_ Agk_ y5.cx (by simp[T.get_set]) ?_
 exact q _ y5.cx'
end
end Go.Proofs.YtndednnianphoaaGreatDoor.Am
end
