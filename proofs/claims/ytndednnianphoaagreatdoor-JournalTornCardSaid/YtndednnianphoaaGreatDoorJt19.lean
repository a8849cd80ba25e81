import Derived.Test.YtndednnianphoaaGreatDoorJt18
import Derived.Test.YtndednnianphoaaGreatDoorJt16
import Derived.Test.YtndednnianphoaaGreatDoorJt09
import Derived.KernelRfl
import Derived.Test.YtndednnianphoaaGreatDoorJt08
noncomputable section
namespace Go.Proofs.YtndednnianphoaaGreatDoor.Am
open Go.RowKit
def FileS.kept (f:FileS)(v:Value)(b:Nat)(m:List Nat):FileS:={f with sv:=v,sbk:=b,sb:=m,lv:= .slice none 0 0,lbk:=0,lb:=[]}
theorem FileI.kept {F:Nat→Prop}{s s':St}{col:Nat→Nat}{c b:Nat}{v:Value}{m:List Nat}{f:FileS}(h:FileI s col c f)(x:Ext F (fun y=>y=f.blk∨y=f.blk+1∨MkF 1 f.sb.length f.sbk y) s s')(h0:Own s' f.blk 0 v)(h1:Own s' f.blk 1 (.slice none 0 0))(hm:MkS s' 1 m.length (u8l m) v b)(hb:b=f.sbk∧m.length=f.sb.length∨s.next≤b):FileI s' (Bq col s.next (c+1)) c (f.kept v b m):=by
 have b1:=h.o1.1
 refine⟨h0,h1,fun y q1 q2=>(BF (by have h3:y<f.blk+2:=q2;omega)).trans (h.k y q1 q2),hm,fun y hy=> ?_, .inl ⟨rfl,rfl,rfl⟩,fun y hy=>absurd hy.1 (Nat.lt_irrefl 0)⟩
 have hy':MkF 1 m.length b y:=hy
 rcases hb with⟨q1,q2⟩|q1
 ·rw[q1,q2]at hy'
  exact(BF (h.ms.lt y hy')).trans (h.ks y hy')
 ·exact DO (by have:=hy'.2.1;omega)
theorem FileS.kept_ent (f:FileS)(v:Value)(b:Nat)(m:List Nat):(f.kept v b m).ent=f.ent:=rfl
theorem ND_:Bw_=[]:=by kernel_rfl
section
variable {n D M K j:Nat}{s:St}{k:DkS}{col:Nat→Nat}{a:ByteArray}{Q:Value→St→Prop}
theorem MH_ (hb:s.lim≤s.next)(hI:DkI s col D M k)(hj:j<k.fs.length)(hK:Own s K 0 (.pointer (some ⟨k.fs[j].blk,0,none⟩)))(kK:1000≤col K)(hlen:k.fs.length≤300)(hz:k.used≤4000000)(hn:20≤n)
  (q: ∀s1 col' v b,DkI s1 col' D M {k with fs:=k.fs.set j (k.fs[j].kept v b (k.fs[j].sb++k.fs[j].lb))}→(∀x,x<s.next→col' x=col x)→Ext Any (fun x=>col x<1000) s s1→Q (.tuple #[]) s1):
  W (Ay envS (runF envS n) 37 [.pointer (some ⟨K,0,none⟩)]) s Q:=by
 have hb0:(s.cxN cxN).lim≤(s.cxN cxN).next:=hb
 have hused:=DkS.used_at hj
 refine OG_ fun tm t0=> ?_
 have g:FileI (s.cxN cxN) col (2+3*j) k.fs[j]:=(hI.fl j hj).same rfl rfl
 have hI0:DkI (s.cxN cxN) col D M k:=hI.same rfl rfl
 have hK0:Own (s.cxN cxN) K 0 (.pointer (some ⟨k.fs[j].blk,0,none⟩)):=hK.same rfl rfl
 have hn0:(s.cxN cxN).next=s.next:=rfl
 have hcx:(s.cxN cxN).cx=cxN:=rfl
 generalize hs0:s.cxN cxN=s0 at *
 have kKs: ∀x,MkF 1 k.fs[j].sb.length k.fs[j].sbk x→x≠K:=fun x hx h=>by have:=g.ks x hx;rw[h]at this;omega
 have k0:=g.k k.fs[j].blk (Nat.le_refl _) (by omega)
 have k1:=g.k (k.fs[j].blk+1) (by omega) (by omega)
 refine PA_.w rfl (by omega) ?_
 simp only[WU,t0,AP]
 refine W.dload CM ((hK0.same (s':=dSt s0.mem s0.next) rfl rfl).at') fun rd0 hr0=> ?_
 refine W.dload CM ((hK0.same (s':=dSt s0.mem s0.next) rfl rfl).at') fun rd1 hr1=> ?_
 refine W.dload CM ((hK0.same (s':=dSt s0.mem s0.next) rfl rfl).at') fun rd2 hr2=> ?_
 try simp only[AP]
 rw[W_dq fun s Q=>Ai (s:=s) _ Q]
 dsimp only
 try simp only[AP]
 rw[W_dq fun s Q=>Bh (s:=s) Sn (by decide) Q]
 dsimp only
 try simp only[AP]
 refine W.dload DD ((g.o0.same (s':=dSt s0.mem s0.next) rfl rfl).at') fun rd5 hr5=> ?_
 refine W.dload CM ((hK0.same (s':=dSt s0.mem s0.next) rfl rfl).at') fun rd6 hr6=> ?_
 try simp only[AP]
 rw[W_dq fun s Q=>Ai (s:=s) _ Q]
 dsimp only
 try simp only[AP]
 rw[W_dq fun s Q=>Bh (s:=s) HJ (by decide) Q]
 dsimp only
 try simp only[AP]
 refine W.dload DD ((g.o1.same (s':=dSt s0.mem s0.next) rfl rfl).at') fun rd9 hr9=> ?_
 try simp only[AP,Ag,Af,Ae]
 refine W.dopG ?_
 rw[BC_]
 refine W.appV (s:=oSt s0.mem s0.next) (Nat.le_refl _) Fv_ (g.ms.same rfl rfl) ((g.ml.bs (Nat.lt_of_le_of_lt (show _≤5000000 by omega) (by decide))).same (s':=oSt s0.mem s0.next) rfl rfl).src.g (by decide) (by decide) (by omega) (by rw[Cq,Nat.mul_one]) (HW _) fun s2 v2 b2 hb2 mk2 x2=>⟨_,_,x2,fun rd10 wr10 hr10 hw10=> ?_⟩
 have n2:s0.next≤s2.next:=x2.nxt
 try simp only[AP]
 rw[W_dq fun s Q=>Ai (s:=s) _ Q]
 dsimp only
 try simp only[AP]
 rw[W_dq fun s Q=>Bh (s:=s) Sn (by decide) Q]
 dsimp only
 try simp only[AP]
 refine W.dopG ?_
 have o0:Own (oSt s2.mem s2.next) k.fs[j].blk 0 k.fs[j].sv:=((g.o0.same (s':=oSt s0.mem s0.next) rfl rfl).ext x2 fun h=>by have h1:=g.ks _ h;rw[Nat.add_zero,k0]at h1;omega).same rfl rfl
 have o1:Own (oSt s2.mem s2.next) k.fs[j].blk 1 k.fs[j].lv:=((g.o1.same (s':=oSt s0.mem s0.next) rfl rfl).ext x2 fun h=>by have h1:=g.ks _ h;rw[k1]at h1;omega).same rfl rfl
 refine W.store1 DD mk2.one o0 fun s3 n3 x3 o3=>⟨_,_,x3,fun rd13 wr13 hr13 hw13=> ?_⟩
 have n3':s3.next=s2.next:=n3
 try simp only[AP]
 rw[W_dq fun s Q=>Ai (s:=s) _ Q]
 dsimp only
 try simp only[AP]
 rw[W_dq fun s Q=>Bh (s:=s) HJ (by decide) Q,Aa]
 refine⟨D8 ?_, ?_⟩
 ·simp only[List.reverse_cons,List.reverse_nil,List.nil_append,List.cons_append,allP,CH,List.take,Dv]
  have lts: ∀x,s0.next≤x→ ¬x<s0.next:=fun x h=>by omega
  have g10: ∀x,x∈wr10→ ¬x∈rd0:=fun x h1 h2=>kKs x (hw10 x h1).2 (by have:=hr0 x h2;omega)
  have g11: ∀x,x∈wr10→ ¬x∈rd1:=fun x h1 h2=>kKs x (hw10 x h1).2 (by have:=hr1 x h2;omega)
  have g13: ∀x,x∈wr13→ ¬x∈rd1:=fun x h1 h2=>by
   have h4:=hr1 x h2
   have h3:K=k.fs[j].blk:=by have h5:=(hw13 x h1).2;have h6:=h5.1;have h7:=h5.2;omega
   rw[←h3]at k0
   omega
  have a10: ∀x,x∈rd10→s0.next≤x→False:=fun x h1 h2=>by have h3:x<s0.next:=(hr10 x h1).1;omega
  have b10: ∀x,x∈wr10→s0.next≤x→False:=fun x h1 h2=>by have h3:x<s0.next:=(hw10 x h1).1;omega
  simp+contextual [lts,g10,g11,g13]
  exact⟨⟨.inl rfl, .inl rfl, .inl rfl, .inl rfl⟩, .inl rfl, .inl rfl, .inl rfl, .inl rfl, .inl rfl⟩
 ·refine W.cast (Abr_ _ _ _ _ _ _ _ _ _ _ _ _ _ _ _ _ _ _ _ _) ?_
  simp only[Ac,W_oS,Aa]
  generalize hs':(⟨(dSt s3.mem s3.next).mem,(dSt s3.mem s3.next).next,s0.lim,_,_,s0.cx⟩:St)=s7
  have m7:s7.mem=s3.mem:=by rw[←hs'];rfl
  have n7:s7.next=s3.next:=by rw[←hs'];rfl
  have x7:Ext Any (fun x=>x=k.fs[j].blk∨x=k.fs[j].blk+1∨MkF 1 k.fs[j].sb.length k.fs[j].sbk x) s0 s7:=by
   rw[←hs']
   refine Ext.drawG (by show s0.next≤s3.next;omega) (fun x hx hg=> ?_) ?_ fun _ _ _ _ _=>trivial
   ·have e1:T.get s3.mem x=T.get s2.mem x:=x3.mem x (by show x<s2.next;omega) fun h=>hg (.inl (by have h1:=h.1;have h2:=h.2;omega))
    exact e1.trans (x2.mem x hx fun h=>hg (.inr (.inr h)))
   ·simp only[List.mem_cons,List.not_mem_nil,or_false]
    rintro m (rfl|rfl|rfl|rfl|rfl|rfl|rfl|rfl|rfl|rfl|rfl|rfl|rfl|rfl|rfl|rfl) x hx hxl<;>first|(cases hx;done)|exact .inr (.inr (hw10 x hx).2)|exact .inl (by have h4:=(hw13 x hx).2;have h1:=h4.1;have h2:=h4.2;omega)
  have o17:Own s7 k.fs[j].blk 1 k.fs[j].lv:=(o1.ext x3 fun h=>by have h1:=h.1;have h2:=h.2;omega).same m7 n7
  refine W.store1 DD rfl o17 fun s8 n8 x8 o8=> ?_
  try simp only[Ac,W_oS,W_on,Aa,W_mv,Ab,Ap,T.get_set,Ag,Af,As,Aq,Ae,Ah,reduceIte,Ak,Ao,Av,Aw,Ar,Aj,An,Au,Al,Ai,Nat.reduceEqDiff,reduceCtorEq, ↓reduceIte]
  have y8:Ext Any (fun x=>x=k.fs[j].blk∨x=k.fs[j].blk+1∨MkF 1 k.fs[j].sb.length k.fs[j].sbk x) s0 s8:=x7.on x8 hb0 fun y _ hq=> .inr (.inl (by have h1:=hq.1;have h2:=hq.2;omega))
  have hnb: ∀x,MkF 1 (k.fs[j].sb.length+k.fs[j].lb.length) b2 x→x≠k.fs[j].blk∧x≠k.fs[j].blk+1:=fun x hx=>by
   rcases hb2 with h|h
   ·rw[h.1,h.2,Nat.add_zero]at hx
    have h1:=g.ks x hx
    exact⟨fun h2=>by rw[h2]at h1;omega,fun h2=>by rw[h2]at h1;omega⟩
   ·have h3:=hx.2.1
    have h4:=g.o1.1
    have h6:s0.next≤b2:=h
    exact⟨by omega,by omega⟩
  have mk8:MkS s8 1 (k.fs[j].sb++k.fs[j].lb).length (u8l (k.fs[j].sb++k.fs[j].lb)) v2 b2:=by
   rw[EB_,List.length_append]
   have mk3:=(mk2.same (s':=oSt s2.mem s2.next) rfl rfl).ext x3 fun x hx h=>(hnb x hx).1 (by have h1:=h.1;have h2:=h.2;omega)
   exact(mk3.same m7 n7).ext x8 fun x hx h=>(hnb x hx).2 (by have h1:=h.1;have h2:=h.2;omega)
  have o08:Own s8 k.fs[j].blk 0 v2:=(Own.same o3 m7 n7).ext x8 fun h=>by have h1:=h.1;have h2:=h.2;omega
  have hf:=g.kept y8 o08 o8 mk8 (hb2.imp (fun h=>⟨h.1,by rw[List.length_append,h.2,Nat.add_zero]⟩) fun h=>h)
  have hD:=hI0.file (col':=Bq col s0.next (2+3*j+1)) hj y8 (fun y hy h=>by
   rcases h with rfl|rfl|h
   ·omega
   ·omega
   ·have:=g.ks y h
    omega) (fun y hy=>BF hy) hf (FileS.kept_ent ..)
  refine W.end' (rs:=[]) (vs:=[]) Rw_ (.inr ND_) (by omega) DB_ Qt_ (y8.cx.trans hcx) rfl ?_
  refine q _ (Bq col s0.next (2+3*j+1)) v2 b2 (hD.same rfl rfl) (fun x hx=>BF (by omega)) ?_
  have y9:=y8.gw (G':=fun x=>col x<1000) hb0 fun y hy h=>by
   rcases h with rfl|rfl|h
   ·omega
   ·omega
   ·have:=g.ks y h
    omega
  rw[←hs0]at y9
  exact y9.cx'
theorem AL_ (hb:s.lim≤s.next)(hI:DkI s col D M k)(hlen:k.fs.length≤300)(hz:k.used≤4000000)(hn:200≤n)
  (q1:k.out=true→ ∀s1 col',After s s1 col col' D M k→Q (.int .i64 10) s1)
  (q2:k.out=false→Bg k.fs a=none→ ∀s1 col',After s s1 col col' D M k→Q (.int .i64 6) s1)
  (q3:k.out=false→ ∀j,Bg k.fs a=some j→(k.fused=true∧k.left=0)→ ∀s1 col',After s s1 col col' D M {k with out:=true}→Q (.int .i64 10) s1)
  (q4:k.out=false→ ∀j,Bg k.fs a=some j→ ∀hj:j<k.fs.length,¬(k.fused=true∧k.left=0)→ ∀s1 col' v b,After s s1 col col' D M {k with fs:=k.fs.set j (k.fs[j].kept v b (k.fs[j].sb++k.fs[j].lb)),steps:=wrap64 (k.steps+1),left:=if k.fused then wrap64 (k.left-1)else k.left}→Q (.int .i64 0) s1):
  W (Ay envS (runF envS n) 12 [.pointer (some ⟨D,0,none⟩), .string a]) s Q:=by
 have hb0:(s.cxN cxN).lim≤(s.cxN cxN).next:=hb
 have hI0:DkI (s.cxN cxN) (Bq col s.next 1000) D M k:=(hI.col fun x hx=>BF hx).same rfl rfl
 have hag: ∀x,x<s.next→Bq col s.next 1000 x=col x:=fun x hx=>BF hx
 have hnew: ∀x,s.next≤x→Bq col s.next 1000 x=1000:=fun x hx=>DO hx
 have hDlt:D+6<s.next:=hI.d6.1
 generalize hcol1:Bq col s.next 1000=col1 at *
 refine Xg_ fun tm t0 t1=> ?_
 refine JQ_.w rfl (by omega) ?_
 simp only[AV_,Aa,W_mv,Ab]
 refine Pj_.w RX_ (by omega) ?_
 simp only[By_,Ac,W_on,Aa,W_mv,Ab,T.get_set,Ag,Af,Ae,Ah,reduceIte,reduceCtorEq, ↓reduceIte,t0]
 refine NR (o:=k.out) hb0 (hI0.d0.same rfl rfl) (hI0.d6.same rfl rfl) (by omega) fun s1 m1 n1 x1=> ?_
 have y1:=x1
 have n1':s1.next=s.next:=n1
 have hI1:DkI s1 col1 D M k:=hI0.same m1 n1
 try simp only[Ac,W_oS,W_on,Aa,W_mv,Ab,Ap,T.get_set,Ag,Af,As,Aq,Ae,Ah,reduceIte,Ak,Ao,Av,Aw,Ar,Aj,An,Au,Al,Ai,Nat.reduceEqDiff,reduceCtorEq, ↓reduceIte]
 refine Ym_.w Wl_ (by omega) ?_
 cases ho:k.out with
 |true=>
  simp only[To,Ac,W_oS,Aa,W_mv,Ab,T.get_set,reduceIte, ↓reduceIte,By]
  refine W.cond (v:=true) Uc YG (by simp[T.get_set]) (by omega) (fun _=> ?_) fun h=>by cases h
  refine TQ_.w Adn_ (by omega) ?_
  simp only[DZ_,Aa,W_mv,Ab,T.get_set,reduceIte,Nat.reduceEqDiff, ↓reduceIte]
  refine W.end' (rs:=[4]) (vs:=[.int .i64 10]) MD_ (.inl HT_) (by omega) IX KK y1.cx (by simp[T.get_set]) ?_
  exact q1 ho _ col1 ⟨hI1.same rfl rfl,hag,(y1.gw hb0 fun _ _ h=>h.elim).cx'⟩
 |false=>
  simp only[To,Ac,W_oS,Aa,W_mv,Ab,T.get_set,reduceIte,reduceCtorEq, ↓reduceIte,By]
  refine W.cond (v:=false) Uc YG (by simp[T.get_set]) (by omega) (fun h=>by cases h) fun _=> ?_
  refine Ol_.w AaQ_ (by omega) ?_
  simp only[Vq,Ac,W_oS,Aa,W_mv,Ab,T.get_set,reduceIte,Ai,Nat.reduceEqDiff,reduceCtorEq, ↓reduceIte,t0,t1,Bh Er (by decide)]
  refine W.load1 EA hI1.d1.at' ?_
  try simp only[Ac,W_oS,W_on,Aa,W_mv,Ab,Ap,T.get_set,Ag,Af,As,Aq,Ae,Ah,reduceIte,Ak,Ao,Av,Aw,Ar,Aj,An,Au,Al,Ai,Nat.reduceEqDiff,reduceCtorEq, ↓reduceIte]
  refine LO (fs:=k.fs) (mx:=k.mx) (hI1.om.same rfl rfl) ?_
  try simp only[Ac,W_oS,W_on,Aa,W_mv,Ab,Ap,T.get_set,Ag,Af,As,Aq,Ae,Ah,reduceIte,Ak,Ao,Av,Aw,Ar,Aj,An,Au,Al,Ai,Nat.reduceEqDiff,reduceCtorEq, ↓reduceIte]
  refine W.alloc FA_ fun s2 n2 x2 o2=> ?_
  have y1':=(y1.thenRd hb0 (D+(0+1))).thenRd hb0 M
  have y2:=y1'.on x2 hb0 fun _ _ h=>h
  have x12:Ext Any Non s1 s2:=(((Ext.refl (F:=Any) (G:=Non) s1).thenRd (y1.bnd hb0) (D+(0+1))).thenRd (y1.bnd hb0) M).on x2 (y1.bnd hb0) fun _ _ h=>h
  have hI2:=hI1.ext0 x12 hlen
  have en:((s1.rdN (D+(0+1))).rdN M).next=s.next:=n1'
  rw[en]at o2 n2 ⊢
  have n2':s2.next=s.next+2:=n2
  have hlv:oneCell (BI k.fs a)=true:=by
   unfold BI
   cases Bg k.fs a with
   |none=>rfl
   |some j=>simp only;cases k.fs[j]?<;>rfl
  try simp only[Ac,W_oS,W_on,Aa,W_mv,Ab,Ap,T.get_set,Ag,Af,As,Aq,Ae,Ah,reduceIte,Ak,Ao,Av,Aw,Ar,Aj,An,Au,Al,Ai,Nat.reduceEqDiff,reduceCtorEq, ↓reduceIte]
  refine W.store1 CM hlv (o2 0 _ rfl) fun s3 n3 x3 o3=> ?_
  try simp only[Ac,W_oS,W_on,Aa,W_mv,Ab,Ap,T.get_set,Ag,Af,As,Aq,Ae,Ah,reduceIte,Ak,Ao,Av,Aw,Ar,Aj,An,Au,Al,Ai,Nat.reduceEqDiff,reduceCtorEq, ↓reduceIte]
  have x3':Ext Any (fun y=>y=s.next) s2 s3:=x3.weak (y2.bnd hb0) (fun _ _ _=>trivial) fun y _ hq=>by have h1:=hq.1;have h2:=hq.2;omega
  have y3:Ext Any Non (s.cxN cxN) s3:=y2.on x3' hb0 fun y hy h=>by have:y<s.next:=hy;omega
  have hI3:DkI s3 col1 D M k:=hI2.ext x3' hlen fun y _ h=>by rw[hnew y (by omega)];exact Nat.le_refl _
  have n3':s3.next=s.next+2:=by omega
  refine Pk_.w SD_ (by omega) ?_
  simp only[Dq_,Ac,W_oS,Aa,Ab,T.get_set,reduceIte, ↓reduceIte]
  refine W.load1 CM o3.at' ?_
  have y4:=y3.thenRd hb0 (s.next+0)
  have hI4:DkI (s3.rdN (s.next+0)) col1 D M k:=hI3.same rfl rfl
  have oK:Own (s3.rdN (s.next+0)) s.next 0 (BI k.fs a):=o3.same rfl rfl
  have n4:(s3.rdN (s.next+0)).next=s.next+2:=n3'
  generalize s3.rdN (s.next+0)=s4 at *
  cases hj:Bg k.fs a with
  |none=>
   have hv:BI k.fs a= .pointer none:=by unfold BI;rw[hj]
   rw[hv]
   simp only[MY]
   refine W.cond (v:=true) AR_ AJ_ (by simp[T.get_set]) (by omega) (fun _=> ?_) fun h=>by cases h
   refine Aej_.w Or_ (by omega) ?_
   simp only[BF_,Aa,W_mv,Ab]
   refine W.end' (rs:=[4]) (vs:=[.int .i64 6]) RK_ (.inl LF_) (by omega) IX KK y4.cx (by simp[T.get_set]) ?_
   exact q2 ho hj _ col1 ⟨hI4.same rfl rfl,hag,(y4.gw hb0 fun _ _ h=>h.elim).cx'⟩
  |some j=>
   have hlt:=Fo hj
   have hv:BI k.fs a= .pointer (some ⟨k.fs[j].blk,0,none⟩):=by
    unfold BI
    rw[hj]
    simp only[List.getElem?_eq_getElem hlt]
   rw[hv]at oK ⊢
   simp only[DS Hz]
   refine W.cond (v:=false) AR_ AJ_ (by simp[T.get_set]) (by omega) (fun h=>by cases h) fun _=> ?_
   refine Yk_.w If_ (by omega) ?_
   simp only[Ey_,Ac,W_oS,W_on,Aa,W_mv,Ab,T.get_set,Ag,Af,Ae,Ah,reduceIte,Nat.reduceEqDiff,reduceCtorEq, ↓reduceIte,t0]
   have hD0:=hI4.kd
   refine Sy (f2:=37) (y4.bnd hb0) hI4.d3 hI4.d4 hI4.d5 hI4.d6 (by omega) (fun hf s9 n9 x9 o9=> ?_) fun hf n9 s9 hn9 hcx9 hnx9 x9 o93 o95=> ?_
   ·have y9:Ext Any (fun x=>col1 x<1000) (s.cxN cxN) s9:=(y4.gw hb0 fun _ _ h=>h.elim).on x9 hb0 fun y _ h=>by rw[h,hD0 (D+6) (by omega) (by omega)];decide
    try simp only[Ac,W_oS,W_on,Aa,W_mv,Ab,Ap,T.get_set,Ag,Af,As,Aq,Ae,Ah,reduceIte,Ak,Ao,Av,Aw,Ar,Aj,An,Au,Al,Ai,Nat.reduceEqDiff,reduceCtorEq, ↓reduceIte]
    refine W.end' (rs:=[4]) (vs:=[.int .i64 10]) Dd_ (.inl XA) (by omega) IX KK y9.cx (by simp[T.get_set]) ?_
    have hd:Ext Any (fun y=>y=D+6) s4 s9:=x9
    have hI9:=hI4.own (st:=k.steps) (fu:=k.fused) (le:=k.left) (ou:=true) hd (fun y _ h=>by omega) (hI4.d3.ext hd fun h=>by omega) (hI4.d4.ext hd fun h=>by omega) (hI4.d5.ext hd fun h=>by omega) o9
    exact q3 ho j hj hf _ col1 ⟨hI9.same rfl rfl,hag,(y9.gw hb0 fun y hy h=>by rw[←hag y hy];exact h).cx'⟩
   ·have hd:Ext Any (fun y=>y=D+3∨y=D+5) s4 (s9.cxN s4.cx):=x9
    have hI9':=hI4.own (st:=wrap64 (k.steps+1)) (fu:=k.fused) (le:=if k.fused then wrap64 (k.left-1)else k.left) (ou:=k.out) hd (fun y _ h=>by omega) (o93.same rfl rfl) (hI4.d4.ext hd fun h=>by omega) (o95.same rfl rfl) (hI4.d6.ext hd fun h=>by omega)
    have hI9:=hI9'.same (s':=s9) rfl rfl
    have vK:=(oK.ext hd fun h=>by omega).same (s':=s9) rfl rfl
    have y9:Ext Any (fun x=>col1 x<1000) (s.cxN cxN) (s9.cxN s4.cx):=(y4.gw hb0 fun _ _ h=>h.elim).on hd hb0 fun y _ h=>by rw[hD0 y (by omega) (by omega)];decide
    have y9':Ext Any (fun x=>col1 x<1000) (s.cxN cxN) s9:=⟨y9.nxt,y9.lim,hcx9,y9.mem,y9.rd,y9.wr⟩
    have hn9':s9.next=s4.next:=hnx9
    show W (Ay envS (runF envS n9) 37 [.pointer (some ⟨s.next,0,none⟩)]) s9 _
    refine MH_ (K:=s.next) (y9'.bnd hb0) hI9 hlt vK (by rw[hnew _ (by omega)];exact Nat.le_refl _) hlen (by show DkS.used _≤_;exact hz) (by omega) fun s10 col' v b hI10 hag10 x10=> ?_
    refine⟨x10.cx.trans hcx9, ?_⟩
    have y10:=y9'.on x10 hb0 fun y hy h=>h
    have e8:s4.cx=cxN:=y4.cx
    rw[e8]
    try simp only[Ac,W_oS,W_on,Aa,W_mv,Ab,Ap,T.get_set,Ag,Af,As,Aq,Ae,Ah,reduceIte,Ak,Ao,Av,Aw,Ar,Aj,An,Au,Al,Ai,Nat.reduceEqDiff,reduceCtorEq, ↓reduceIte]
    refine W.end' (rs:=[4]) (vs:=[.int .i64 0]) Dd_ (.inl XA) (by omega) IX KK rfl (by simp[T.get_set]) ?_
    exact q4 ho j hj hlt hf _ col' v b ⟨hI10.same rfl rfl,fun x hx=>(hag10 x (by omega)).trans (hag x hx),(y10.gw hb0 fun y hy h=>by rw[←hag y hy];exact h).cx'⟩
end
def Pe:Nat:=A8 Tryz.f72
def Fm_:Code:=Tryz.f72.body.getD .skip
theorem WZ:envS.fn.get 72=some Tryz.f72:=by kernel_rfl
theorem AaI_ {a0:Value}{n:Nat}{s:St}{Q:Value→St→Prop}(h: ∀tm,T.get tm 0=some a0→W (runF envS n ⟨72,5,Pe,tm,[.code Fm_], .run, .normal,none⟩) (s.cxN cxN) fun p s1=>Q p.1 (s1.cxN s.cx)):W (Ay envS (runF envS n) 72 [a0]) s Q:=
 W.call (by kernel_rfl) (by kernel_rfl) WZ (by kernel_rfl) rfl rfl (by simp) (h _ (by kernel_rfl))
theorem WT_:Tryz.f72.results.toList=[.tmp 2]:=by kernel_rfl
def P6:List Item:=skim 64 [.code Fm_]
def Na:List Item:=skim 64 P6.tail
theorem AcQ_:skim 64 P6.tail=Na:=by kernel_rfl
def Tf:List Item:=skim 64 Na.tail
theorem Adz_:skim 64 Na.tail=Tf:=by kernel_rfl
def BT_ (E:Env)(call round:Ad)(tm:T Value):M (T Value):=
 mv (some (.int .u32 0)) fun v2=>
 setF 2 v2 tm fun tm1=>
 M.pure tm1
theorem Qi_:RegEq 72 5 Pe P6 BT_:=⟨by kernel_rfl,fun _ _ _ _ _ _ _ _ _=>by kernel_rfl⟩
def ZZ (E:Env)(call round:Ad)(tm:T Value):M (T Value):=
 mv (T.get tm 0) fun v3=>
 M.bind (M.on (some (.func (.func 83) #[] #[])) fun f=>M.on (seqO [(some (.int .u32 0)),(some v3)]) fun l=>AL call round f l) fun v4=>
 mv (some v4) fun v2=>
 setF 2 v2 tm fun tm1=>
 M.pure tm1
theorem KD_:RegEq 72 5 Pe Na ZZ:=⟨by kernel_rfl,fun _ _ _ _ _ _ _ _ _=>by kernel_rfl⟩
theorem AdE_: ∃k,Tf= .code .ret::k:=⟨Tf.tail,by kernel_rfl⟩
def Kl:Nat:=A8 Tryz.f53
def CQ_:Code:=Tryz.f53.body.getD .skip
theorem Vs:envS.fn.get 53=some Tryz.f53:=by kernel_rfl
theorem Oh_ {a0:Value}{n:Nat}{s:St}{Q:Value→St→Prop}(h: ∀tm,T.get tm 0=some a0→W (runF envS n ⟨53,21,Kl,tm,[.code CQ_], .run, .normal,none⟩) (s.cxN cxN) fun p s1=>Q p.1 (s1.cxN s.cx)):W (Ay envS (runF envS n) 53 [a0]) s Q:=
 W.call (by kernel_rfl) (by kernel_rfl) Vs (by kernel_rfl) rfl rfl (by simp) (h _ (by kernel_rfl))
theorem Afe_:Tryz.f53.results.toList=[.tmp 2]:=by kernel_rfl
def RJ:List Item:=skim 64 [.code CQ_]
def Jy:List Item:=skim 64 RJ.tail
theorem Yo_:skim 64 RJ.tail=Jy:=by kernel_rfl
def Oe:List Item:=skim 64 Jy.tail
theorem AaY_:skim 64 Jy.tail=Oe:=by kernel_rfl
def S7:List Item:=skim 64 Oe.tail
theorem Oe_:skim 64 Oe.tail=S7:=by kernel_rfl
def V8 (E:Env)(call round:Ad)(tm:T Value):M (T Value):=
 mv (some (.slice none 0 0)) fun v2=>
 setF 2 v2 tm fun tm1=>
 M.pure tm1
theorem Aec_:RegEq 53 21 Kl RJ V8:=⟨by kernel_rfl,fun _ _ _ _ _ _ _ _ _=>by kernel_rfl⟩
def ZU (E:Env)(call round:Ad)(tm:T Value):M (T Value):=
 mv (T.get tm 0) fun v4=>
 M.bind (M.on (some (.func (.func 72) #[] #[])) fun f=>M.on (seqO [(some v4)]) fun l=>AL call round f l) fun v5=>
 mv (some v5) fun v3=>
 setF 3 v3 tm fun tm1=>
 M.pure tm1
theorem Hw_:RegEq 53 21 Kl Jy ZU:=⟨by kernel_rfl,fun _ _ _ _ _ _ _ _ _=>by kernel_rfl⟩
def Z1 (E:Env)(call round:Ad)(tm:T Value):M (T Value):=
 mv (T.get tm 0) fun v6=>
 mv (T.get tm 3) fun v7=>
 M.bind (oS (some v7) fun a=>BR E 118 5 a) fun v8=>
 mv (T.get tm 3) fun v9=>
 M.bind (oS (some v9) fun a=>oS (some (.int .u64 8)) fun b=>Cl.get (aBin E .shr 118 (.tmp 9) (.const (.int .u64 8))) a b) fun v10=>
 M.bind (oS (some v10) fun a=>BR E 118 5 a) fun v11=>
 mv (T.get tm 3) fun v12=>
 M.bind (oS (some v12) fun a=>oS (some (.int .u64 16)) fun b=>Cl.get (aBin E .shr 118 (.tmp 12) (.const (.int .u64 16))) a b) fun v13=>
 M.bind (oS (some v13) fun a=>BR E 118 5 a) fun v14=>
 mv (T.get tm 3) fun v15=>
 M.bind (oS (some v15) fun a=>oS (some (.int .u64 24)) fun b=>Cl.get (aBin E .shr 118 (.tmp 15) (.const (.int .u64 24))) a b) fun v16=>
 M.bind (oS (some v16) fun a=>BR E 118 5 a) fun v17=>
 M.bind (oS (seqP [(0,(some v8)),(1,(some v11)),(2,(some v14)),(3,(some v17))]) fun ps=>Cp E 23 4 ps) fun v18=>
 M.bind (oS (seqP [(0,(some v6)),(1,(some v18))]) fun ps=>Cp E 114 2 ps) fun v19=>
 M.bind (M.on (some (.func (.func 43) #[] #[])) fun f=>M.on (seqO [(some v19)]) fun l=>AL call round f l) fun v20=>
 mv (some v20) fun v2=>
 setF 2 v2 tm fun tm1=>
 M.pure tm1
theorem AaL_:RegEq 53 21 Kl Oe Z1:=⟨by kernel_rfl,fun _ _ _ _ _ _ _ _ _=>by kernel_rfl⟩
theorem Qa_: ∃k,S7= .code .ret::k:=⟨S7.tail,by kernel_rfl⟩
def FY:Nat:=A8 Tryz.f22
def Al_:Code:=Tryz.f22.body.getD .skip
theorem KF:envS.fn.get 22=some Tryz.f22:=by kernel_rfl
theorem QI_ {a0:Value}{n:Nat}{s:St}{Q:Value→St→Prop}(h: ∀tm,T.get tm 0=some a0→W (runF envS n ⟨22,23,FY,tm,[.code Al_], .run, .normal,none⟩) (s.cxN cxN) fun p s1=>Q p.1 (s1.cxN s.cx)):W (Ay envS (runF envS n) 22 [a0]) s Q:=
 W.call (by kernel_rfl) (by kernel_rfl) KF (by kernel_rfl) rfl rfl (by simp) (h _ (by kernel_rfl))
theorem T2:Tryz.f22.results.toList=[.tmp 2, .tmp 3]:=by kernel_rfl
def Sp:List Item:=skim 64 [.code Al_]
def Ow:List Item:=skim 64 Sp.tail
theorem RY_:skim 64 Sp.tail=Ow:=by kernel_rfl
def NH:List Item:=skim 64 Ow.tail
theorem KB_:skim 64 Ow.tail=NH:=by kernel_rfl
def G4:List Item:=skim 64 NH.tail
theorem Pq:skim 64 NH.tail=G4:=by kernel_rfl
def Oy:List Item:=skim 64 (brT G4)
theorem AI_:skim 64 (brT G4)=Oy:=by kernel_rfl
def NJ:List Item:=skim 64 (brF G4)
theorem RD_:skim 64 (brF G4)=NJ:=by kernel_rfl
def TE:List Item:=skim 64 Oy.tail
theorem AQ_:skim 64 Oy.tail=TE:=by kernel_rfl
def SA:List Item:=skim 64 NJ.tail
theorem VD_:skim 64 NJ.tail=SA:=by kernel_rfl
def DE_ (E:Env)(call round:Ad)(tm:T Value):M (T Value):=
 mv (some (.slice none 0 0)) fun v2=>
 setF 2 v2 tm fun tm1=>
 mv (some (.int .i64 0)) fun v3=>
 setF 3 v3 tm1 fun tm2=>
 M.pure tm2
theorem Adv_:RegEq 22 23 FY Sp DE_:=⟨by kernel_rfl,fun _ _ _ _ _ _ _ _ _=>by kernel_rfl⟩
def Zz (E:Env)(call round:Ad)(tm:T Value):M (T Value):=
 mv (T.get tm 0) fun v5=>
 M.bind (oS (seqO [(some v5)]) fun l=>A9 E .len [23] l) fun v6=>
 M.bind (oS (some v6) fun a=>oS (some (.int .i64 4)) fun b=>Cl.get (aBin E .sub 3 (.tmp 6) (.const (.int .i64 4))) a b) fun v7=>
 mv (some v7) fun v4=>
 setF 4 v4 tm fun tm1=>
 M.pure tm1
theorem Uc_:RegEq 22 23 FY Ow Zz:=⟨by kernel_rfl,fun _ _ _ _ _ _ _ _ _=>by kernel_rfl⟩
def Ss (E:Env)(call round:Ad)(tm:T Value):M (T Value):=
 mv (T.get tm 4) fun v8=>
 M.bind (oS (some v8) fun a=>oS (some (.int .i64 0)) fun b=>Cl.get (aBin E .lss 3 (.tmp 8) (.const (.int .i64 0))) a b) fun v9=>
 mv (some v9) fun v10=>
 M.bind (M.chk (isK v10) (M.if (isB v10 false) (oS (T.get tm 0) fun a=>M.pure a) (M.pure undef))) fun v11=>
 M.bind (M.chk (isK v10) (M.if (isB v10 false) (oS (T.get tm 4) fun a=>M.pure a) (M.pure undef))) fun v12=>
 M.bind (M.chk (isK v10) (M.if (isB v10 false) (M.on (some v11) fun a=>M.on (some none) fun b=>M.on (onO (some v12) fun v=>some (some v)) fun c=>Cb E 23 a b c) (M.pure undef))) fun v13=>
 M.bind (M.chk (isK v10) (M.if (isB v10 false) (M.on (some (.func (.func 53) #[] #[])) fun f=>M.on (seqO [(some v13)]) fun l=>AL call round f l) (M.pure undef))) fun v14=>
 M.bind (M.chk (isK v10) (M.if (isB v10 false) (oS (T.get tm 0) fun a=>M.pure a) (M.pure undef))) fun v15=>
 M.bind (M.chk (isK v10) (M.if (isB v10 false) (M.on (some (.func (.func 52) #[] #[])) fun f=>M.on (seqO [(some v14),(some v15)]) fun l=>AL call round f l) (M.pure undef))) fun v16=>
 M.bind (M.chk (isK v10) (M.if (isB v10 false) (oS (some v16) fun a=>kUn E.P .not a) (M.pure undef))) fun v17=>
 M.bind (M.on (some v10) fun a=>M.on (some (.bool true)) fun b=>M.on (some v17) fun c=>Bj a b c) fun v18=>
 setF 18 v18 tm fun tm1=>
 M.pure tm1
theorem Aeg_:RegEq 22 23 FY NH Ss:=⟨by kernel_rfl,fun _ _ _ _ _ _ _ _ _=>by kernel_rfl⟩
theorem SX:A6 G4=some 18:=by kernel_rfl
def TK (E:Env)(call round:Ad)(tm:T Value):M (T Value):=
 mv (some (.slice none 0 0)) fun v2=>
 setF 2 v2 tm fun tm1=>
 mv (some (.int .i64 4)) fun v3=>
 setF 3 v3 tm1 fun tm2=>
 M.pure tm2
theorem Ft_:RegEq 22 23 FY Oy TK:=⟨by kernel_rfl,fun _ _ _ _ _ _ _ _ _=>by kernel_rfl⟩
def Eb_ (E:Env)(call round:Ad)(tm:T Value):M (T Value):=
 mv (T.get tm 0) fun v19=>
 mv (T.get tm 4) fun v20=>
 M.bind (M.on (some v19) fun a=>M.on (some none) fun b=>M.on (onO (some v20) fun v=>some (some v)) fun c=>Cb E 23 a b c) fun v21=>
 M.bind (M.on (some (.func (.func 54) #[] #[])) fun f=>M.on (seqO [(some v21)]) fun l=>AL call round f l) fun v22=>
 mv (some v22) fun v2=>
 setF 2 v2 tm fun tm1=>
 mv (some (.int .i64 0)) fun v3=>
 setF 3 v3 tm1 fun tm2=>
 M.pure tm2
theorem YY_:RegEq 22 23 FY NJ Eb_:=⟨by kernel_rfl,fun _ _ _ _ _ _ _ _ _=>by kernel_rfl⟩
theorem Fo_: ∃k,TE= .code .ret::k:=⟨TE.tail,by kernel_rfl⟩
theorem OM_: ∃k,SA= .code .ret::k:=⟨SA.tail,by kernel_rfl⟩
def BY:Nat:=A8 Tryz.f43
abbrev He:Nat:=36
def UE:Code:=Tryz.f43.body.getD .skip
theorem QR:envS.fn.get 43=some Tryz.f43:=by kernel_rfl
theorem AD_ {a0:Value}{n:Nat}{s:St}{Q:Value→St→Prop}(h: ∀tm,T.get tm 0=some a0→W (runF envS n ⟨43,36,BY,tm,[.code UE], .run, .normal,none⟩) (s.cxN cxN) fun p s1=>Q p.1 (s1.cxN s.cx)):W (Ay envS (runF envS n) 43 [a0]) s Q:=
 W.call (by kernel_rfl) (by kernel_rfl) QR (by kernel_rfl) rfl rfl (by simp) (h _ (by kernel_rfl))
theorem XM:Tryz.f43.results.toList=[.tmp 2]:=by kernel_rfl
def Tq:List Item:=skim 64 [.code UE]
def Ob:List Item:=skim 64 Tq.tail
theorem CB_:skim 64 Tq.tail=Ob:=by kernel_rfl
def LM:List Item:=skim 64 Ob.tail
theorem FY_:skim 64 Ob.tail=LM:=by kernel_rfl
def GN:List Item:=skim 64 LM.tail
theorem Wu:skim 64 LM.tail=GN:=by kernel_rfl
def FX:List Item:=skim 64 GN.tail
theorem Ct_:skim 64 GN.tail=FX:=by kernel_rfl
def N2:List Item:=skim 64 (brT FX)
theorem KE_:skim 64 (brT FX)=N2:=by kernel_rfl
def HY:List Item:=skim 64 (brF FX)
theorem ZJ_:skim 64 (brF FX)=HY:=by kernel_rfl
def NA:List Item:=skim 64 N2.tail
theorem Aek_:skim 64 N2.tail=NA:=by kernel_rfl
def Km:List Item:=skim 64 HY.tail
theorem Um:skim 64 HY.tail=Km:=by kernel_rfl
def ME:List Item:=skim 64 NA.tail
theorem Om_:skim 64 NA.tail=ME:=by kernel_rfl
def FI:List Item:=skim 64 Km.tail
theorem ED_:skim 64 Km.tail=FI:=by kernel_rfl
def Nk:List Item:=skim 64 ME.tail
theorem Xh_:skim 64 ME.tail=Nk:=by kernel_rfl
def Hf:List Item:=skim 64 FI.tail
theorem Ng:skim 64 FI.tail=Hf:=by kernel_rfl
def Tn:List Item:=skim 64 (brF Nk)
theorem Pa_:skim 64 (brF Nk)=Tn:=by kernel_rfl
def LN:List Item:=skim 64 (brT Hf)
theorem Fe_:skim 64 (brT Hf)=LN:=by kernel_rfl
def GQ:List Item:=skim 64 (brF Hf)
theorem ZJ:skim 64 (brF Hf)=GQ:=by kernel_rfl
theorem MK_:skim 64 Tn.tail=GN:=by kernel_rfl
def JY:List Item:=skim 64 LN.tail
theorem DJ_:skim 64 LN.tail=JY:=by kernel_rfl
def O2:List Item:=skim 64 GQ.tail
theorem Zx:skim 64 GQ.tail=O2:=by kernel_rfl
def Qn:List Item:=skim 64 JY.tail
theorem Z2:skim 64 JY.tail=Qn:=by kernel_rfl
theorem BU_:skim 64 Qn.tail=FI:=by kernel_rfl
def TQ (E:Env)(call round:Ad)(tm:T Value):M (T Value):=
 mv (some (.slice none 0 0)) fun v2=>
 setF 2 v2 tm fun tm1=>
 M.pure tm1
theorem FK_:RegEq 43 36 BY Tq TQ:=⟨by kernel_rfl,fun _ _ _ _ _ _ _ _ _=>by kernel_rfl⟩
def PA (E:Env)(call round:Ad)(tm:T Value):M (T Value):=
 mv (some (.int .i64 0)) fun v3=>
 setF 3 v3 tm fun tm1=>
 M.pure tm1
theorem Ek_:RegEq 43 36 BY Ob PA:=⟨by kernel_rfl,fun _ _ _ _ _ _ _ _ _=>by kernel_rfl⟩
def Po (E:Env)(call round:Ad)(tm:T Value):M (T Value):=
 mv (T.get tm 0) fun v9=>
 setF 9 v9 tm fun tm1=>
 M.bind (oS (seqO [(some v9)]) fun l=>A9 E .len [114] l) fun v10=>
 setF 10 v10 tm1 fun tm2=>
 mv (some (.int .i64 0)) fun v11=>
 setF 11 v11 tm2 fun tm3=>
 M.pure tm3
theorem Z5:RegEq 43 36 BY LM Po:=⟨by kernel_rfl,fun _ _ _ _ _ _ _ _ _=>by kernel_rfl⟩
def QT (E:Env)(call round:Ad)(tm:T Value):M (T Value):=
 M.bind (oS (T.get tm 11) fun a=>oS (T.get tm 10) fun b=>Cl.get (aBin E .lss 3 (.tmp 11) (.tmp 10)) a b) fun v12=>
 setF 12 v12 tm fun tm1=>
 M.pure tm1
theorem U9:RegEq 43 36 BY GN QT:=⟨by kernel_rfl,fun _ _ _ _ _ _ _ _ _=>by kernel_rfl⟩
theorem Un:A6 FX=some 12:=by kernel_rfl
def Z8 (E:Env)(call round:Ad)(tm:T Value):M (T Value):=
 M.bind (oS (T.get tm 9) fun a=>oS (T.get tm 11) fun b=>BN E 114 a b) fun v13=>
 M.bind (oS (some v13) fun a=>AE E 23 a) fun v14=>
 mv (some v14) fun v5=>
 setF 5 v5 tm fun tm1=>
 M.pure tm1
theorem Rj_:RegEq 43 36 BY N2 Z8:=⟨by kernel_rfl,fun _ _ _ _ _ _ _ _ _=>by kernel_rfl⟩
def PQ (E:Env)(call round:Ad)(tm:T Value):M (T Value):=
 mv (T.get tm 3) fun v23=>
 M.bind (M.on (some (.func (.func 65) #[] #[])) fun f=>M.on (seqO [(some (.slice none 0 0)),(some v23)]) fun l=>AL call round f l) fun v24=>
 mv (some v24) fun v6=>
 setF 6 v6 tm fun tm1=>
 M.pure tm1
theorem Bi_:RegEq 43 36 BY HY PQ:=⟨by kernel_rfl,fun _ _ _ _ _ _ _ _ _=>by kernel_rfl⟩
def X4 (E:Env)(call round:Ad)(tm:T Value):M (T Value):=
 mv (T.get tm 3) fun v15=>
 mv (T.get tm 5) fun v16=>
 M.bind (oS (seqO [(some v16)]) fun l=>A9 E .len [23] l) fun v17=>
 M.bind (oS (some v15) fun a=>oS (some v17) fun b=>Cl.get (aBin E .add 3 (.tmp 15) (.tmp 17)) a b) fun v18=>
 mv (some v18) fun v3=>
 setF 3 v3 tm fun tm1=>
 M.pure tm1
theorem Ze_:RegEq 43 36 BY NA X4:=⟨by kernel_rfl,fun _ _ _ _ _ _ _ _ _=>by kernel_rfl⟩
def S8 (E:Env)(call round:Ad)(tm:T Value):M (T Value):=
 mv (T.get tm 0) fun v25=>
 setF 25 v25 tm fun tm1=>
 M.bind (oS (seqO [(some v25)]) fun l=>A9 E .len [114] l) fun v26=>
 setF 26 v26 tm1 fun tm2=>
 mv (some (.int .i64 0)) fun v27=>
 setF 27 v27 tm2 fun tm3=>
 M.pure tm3
theorem Ag_:RegEq 43 36 BY Km S8:=⟨by kernel_rfl,fun _ _ _ _ _ _ _ _ _=>by kernel_rfl⟩
def WJ (E:Env)(call round:Ad)(tm:T Value):M (T Value):=
 mv (T.get tm 3) fun v19=>
 M.bind (oS (some v19) fun a=>oS (some (.int .i64 0)) fun b=>Cl.get (aBin E .lss 3 (.tmp 19) (.const (.int .i64 0))) a b) fun v20=>
 setF 20 v20 tm fun tm1=>
 M.pure tm1
theorem Yt_:RegEq 43 36 BY ME WJ:=⟨by kernel_rfl,fun _ _ _ _ _ _ _ _ _=>by kernel_rfl⟩
def Ig (E:Env)(call round:Ad)(tm:T Value):M (T Value):=
 M.bind (oS (T.get tm 27) fun a=>oS (T.get tm 26) fun b=>Cl.get (aBin E .lss 3 (.tmp 27) (.tmp 26)) a b) fun v28=>
 setF 28 v28 tm fun tm1=>
 M.pure tm1
theorem Lx:RegEq 43 36 BY FI Ig:=⟨by kernel_rfl,fun _ _ _ _ _ _ _ _ _=>by kernel_rfl⟩
theorem SJ_:A6 Nk=some 20:=by kernel_rfl
theorem NB:A6 Hf=some 28:=by kernel_rfl
def XN (E:Env)(call round:Ad)(tm:T Value):M (T Value):=
 M.bind (oS (T.get tm 11) fun a=>oS (some (.int .i64 1)) fun b=>Cl.get (aBin E .add 3 (.tmp 11) (.const (.int .i64 1))) a b) fun v22=>
 mv (some v22) fun v11=>
 setF 11 v11 tm fun tm1=>
 M.pure tm1
theorem Aaq_:RegEq 43 36 BY Tn XN:=⟨by kernel_rfl,fun _ _ _ _ _ _ _ _ _=>by kernel_rfl⟩
def RH (E:Env)(call round:Ad)(tm:T Value):M (T Value):=
 M.bind (oS (T.get tm 25) fun a=>oS (T.get tm 27) fun b=>BN E 114 a b) fun v29=>
 M.bind (oS (some v29) fun a=>AE E 23 a) fun v30=>
 mv (some v30) fun v8=>
 setF 8 v8 tm fun tm1=>
 M.pure tm1
theorem YT:RegEq 43 36 BY LN RH:=⟨by kernel_rfl,fun _ _ _ _ _ _ _ _ _=>by kernel_rfl⟩
def Sg (E:Env)(call round:Ad)(tm:T Value):M (T Value):=
 mv (T.get tm 6) fun v35=>
 mv (some v35) fun v2=>
 setF 2 v2 tm fun tm1=>
 M.pure tm1
theorem WT:RegEq 43 36 BY GQ Sg:=⟨by kernel_rfl,fun _ _ _ _ _ _ _ _ _=>by kernel_rfl⟩
def RS (E:Env)(call round:Ad)(tm:T Value):M (T Value):=
 mv (T.get tm 6) fun v31=>
 mv (T.get tm 8) fun v32=>
 M.bind (oS (seqO [(some v31),(some v32)]) fun l=>A9 E .append [23,23] l) fun v33=>
 mv (some v33) fun v6=>
 setF 6 v6 tm fun tm1=>
 M.pure tm1
theorem Xh:RegEq 43 36 BY JY RS:=⟨by kernel_rfl,fun _ _ _ _ _ _ _ _ _=>by kernel_rfl⟩
theorem Ev_: ∃k,O2= .code .ret::k:=⟨O2.tail,by kernel_rfl⟩
def RK (E:Env)(call round:Ad)(tm:T Value):M (T Value):=
 M.bind (oS (T.get tm 27) fun a=>oS (some (.int .i64 1)) fun b=>Cl.get (aBin E .add 3 (.tmp 27) (.const (.int .i64 1))) a b) fun v34=>
 mv (some v34) fun v27=>
 setF 27 v27 tm fun tm1=>
 M.pure tm1
theorem EO_:RegEq 43 36 BY Qn RK:=⟨by kernel_rfl,fun _ _ _ _ _ _ _ _ _=>by kernel_rfl⟩
def FF:Nat:=A8 Tryz.f65
def Cq_:Code:=Tryz.f65.body.getD .skip
theorem P9:envS.fn.get 65=some Tryz.f65:=by kernel_rfl
theorem AM_ {a0 a1:Value}{n:Nat}{s:St}{Q:Value→St→Prop}(h: ∀tm,T.get tm 0=some a0→T.get tm 1=some a1→W (runF envS n ⟨65,27,FF,tm,[.code Cq_], .run, .normal,none⟩) (s.cxN cxN) fun p s1=>Q p.1 (s1.cxN s.cx)):W (Ay envS (runF envS n) 65 [a0,a1]) s Q:=
 W.call (by kernel_rfl) (by kernel_rfl) P9 (by kernel_rfl) rfl rfl (by simp) (h _ (by kernel_rfl) (by kernel_rfl))
theorem Ac_:Tryz.f65.results.toList=[.tmp 4]:=by kernel_rfl
def QO:List Item:=skim 64 [.code Cq_]
def Jk:List Item:=skim 64 QO.tail
theorem Vt:skim 64 QO.tail=Jk:=by kernel_rfl
def Oq:List Item:=skim 64 Jk.tail
theorem Bm_:skim 64 Jk.tail=Oq:=by kernel_rfl
def K1:List Item:=skim 64 (brF Oq)
theorem U7:skim 64 (brF Oq)=K1:=by kernel_rfl
def Mf:List Item:=skim 64 K1.tail
theorem XP:skim 64 K1.tail=Mf:=by kernel_rfl
def FO:List Item:=skim 64 Mf.tail
theorem Zp:skim 64 Mf.tail=FO:=by kernel_rfl
def OV:List Item:=skim 64 (brT FO)
theorem Xc_:skim 64 (brT FO)=OV:=by kernel_rfl
def Jg:List Item:=skim 64 (brF FO)
theorem Afa_:skim 64 (brF FO)=Jg:=by kernel_rfl
theorem Qp_:skim 64 OV.tail=Jg:=by kernel_rfl
def S3:List Item:=skim 64 Jg.tail
theorem Zc:skim 64 Jg.tail=S3:=by kernel_rfl
def SY (E:Env)(call round:Ad)(tm:T Value):M (T Value):=
 mv (some (.slice none 0 0)) fun v4=>
 setF 4 v4 tm fun tm1=>
 M.pure tm1
theorem VP:RegEq 65 27 FF QO SY:=⟨by kernel_rfl,fun _ _ _ _ _ _ _ _ _=>by kernel_rfl⟩
def Pk (E:Env)(call round:Ad)(tm:T Value):M (T Value):=
 mv (T.get tm 1) fun v5=>
 M.bind (oS (some v5) fun a=>oS (some (.int .i64 0)) fun b=>Cl.get (aBin E .lss 3 (.tmp 5) (.const (.int .i64 0))) a b) fun v6=>
 setF 6 v6 tm fun tm1=>
 M.pure tm1
theorem YK:RegEq 65 27 FF Jk Pk:=⟨by kernel_rfl,fun _ _ _ _ _ _ _ _ _=>by kernel_rfl⟩
theorem YF:A6 Oq=some 6:=by kernel_rfl
def OB (E:Env)(call round:Ad)(tm:T Value):M (T Value):=
 mv (T.get tm 1) fun v8=>
 mv (T.get tm 0) fun v9=>
 M.bind (oS (seqO [(some v9)]) fun l=>A9 E .cap [23] l) fun v10=>
 mv (T.get tm 0) fun v11=>
 M.bind (oS (seqO [(some v11)]) fun l=>A9 E .len [23] l) fun v12=>
 M.bind (oS (some v10) fun a=>oS (some v12) fun b=>Cl.get (aBin E .sub 3 (.tmp 10) (.tmp 12)) a b) fun v13=>
 M.bind (oS (some v8) fun a=>oS (some v13) fun b=>Cl.get (aBin E .sub 3 (.tmp 8) (.tmp 13)) a b) fun v14=>
 mv (some v14) fun v1=>
 setF 1 v1 tm fun tm1=>
 M.pure tm1
theorem Yo:RegEq 65 27 FF K1 OB:=⟨by kernel_rfl,fun _ _ _ _ _ _ _ _ _=>by kernel_rfl⟩
def Tj (E:Env)(call round:Ad)(tm:T Value):M (T Value):=
 mv (T.get tm 1) fun v15=>
 M.bind (oS (some v15) fun a=>oS (some (.int .i64 0)) fun b=>Cl.get (aBin E .gtr 3 (.tmp 15) (.const (.int .i64 0))) a b) fun v16=>
 setF 16 v16 tm fun tm1=>
 M.pure tm1
theorem FD_:RegEq 65 27 FF Mf Tj:=⟨by kernel_rfl,fun _ _ _ _ _ _ _ _ _=>by kernel_rfl⟩
theorem XE:A6 FO=some 16:=by kernel_rfl
def Gf_ (E:Env)(call round:Ad)(tm:T Value):M (T Value):=
 mv (T.get tm 0) fun v17=>
 mv (T.get tm 0) fun v18=>
 M.bind (oS (seqO [(some v18)]) fun l=>A9 E .cap [23] l) fun v19=>
 M.bind (M.on (some v17) fun a=>M.on (some none) fun b=>M.on (onO (some v19) fun v=>some (some v)) fun c=>Cb E 23 a b c) fun v20=>
 mv (T.get tm 1) fun v21=>
 M.bind (oS (seqO [(some v20),(some v21)]) fun l=>A9 E .append [23,3] l) fun v22=>
 mv (T.get tm 0) fun v23=>
 M.bind (oS (seqO [(some v23)]) fun l=>A9 E .len [23] l) fun v24=>
 M.bind (M.on (some v22) fun a=>M.on (some none) fun b=>M.on (onO (some v24) fun v=>some (some v)) fun c=>Cb E 23 a b c) fun v25=>
 mv (some v25) fun v0=>
 setF 0 v0 tm fun tm1=>
 M.pure tm1
theorem Yg_:RegEq 65 27 FF OV Gf_:=⟨by kernel_rfl,fun _ _ _ _ _ _ _ _ _=>by kernel_rfl⟩
def Tu (E:Env)(call round:Ad)(tm:T Value):M (T Value):=
 mv (T.get tm 0) fun v26=>
 mv (some v26) fun v4=>
 setF 4 v4 tm fun tm1=>
 M.pure tm1
theorem Bv_:RegEq 65 27 FF Jg Tu:=⟨by kernel_rfl,fun _ _ _ _ _ _ _ _ _=>by kernel_rfl⟩
theorem Yy: ∃k,S3= .code .ret::k:=⟨S3.tail,by kernel_rfl⟩
def CG:Nat:=A8 Tryz.f52
abbrev KP_:Nat:=26
def Yb:Code:=Tryz.f52.body.getD .skip
theorem JQ:envS.fn.get 52=some Tryz.f52:=by kernel_rfl
theorem Zk_ {a0 a1:Value}{n:Nat}{s:St}{Q:Value→St→Prop}(h: ∀tm,T.get tm 0=some a0→T.get tm 1=some a1→W (runF envS n ⟨52,26,CG,tm,[.code Yb], .run, .normal,none⟩) (s.cxN cxN) fun p s1=>Q p.1 (s1.cxN s.cx)):W (Ay envS (runF envS n) 52 [a0,a1]) s Q:=
 W.call (by kernel_rfl) (by kernel_rfl) JQ (by kernel_rfl) rfl rfl (by simp) (h _ (by kernel_rfl) (by kernel_rfl))
theorem QF:Tryz.f52.results.toList=[.tmp 4]:=by kernel_rfl
def SU:List Item:=skim 64 [.code Yb]
def Kx:List Item:=skim 64 SU.tail
theorem AeG_:skim 64 SU.tail=Kx:=by kernel_rfl
def GL:List Item:=skim 64 Kx.tail
theorem WV:skim 64 Kx.tail=GL:=by kernel_rfl
def Ov:List Item:=skim 64 (brT GL)
theorem Ir_:skim 64 (brT GL)=Ov:=by kernel_rfl
def M6:List Item:=skim 64 (brF GL)
theorem YE_:skim 64 (brF GL)=M6:=by kernel_rfl
def Rg:List Item:=skim 64 Ov.tail
theorem YS_:skim 64 Ov.tail=Rg:=by kernel_rfl
def Gb:List Item:=skim 64 M6.tail
theorem Sf_:skim 64 M6.tail=Gb:=by kernel_rfl
def Gg:List Item:=skim 64 Gb.tail
theorem Am_:skim 64 Gb.tail=Gg:=by kernel_rfl
def MM:List Item:=skim 64 (brT Gg)
theorem WG_:skim 64 (brT Gg)=MM:=by kernel_rfl
def Ou:List Item:=skim 64 (brF Gg)
theorem Yu_:skim 64 (brF Gg)=Ou:=by kernel_rfl
def If:List Item:=skim 64 MM.tail
theorem MV_:skim 64 MM.tail=If:=by kernel_rfl
def SB:List Item:=skim 64 Ou.tail
theorem Je_:skim 64 Ou.tail=SB:=by kernel_rfl
def G5:List Item:=skim 64 If.tail
theorem Ej_:skim 64 If.tail=G5:=by kernel_rfl
def Lg:List Item:=skim 64 (brT G5)
theorem Aev_:skim 64 (brT G5)=Lg:=by kernel_rfl
def TL:List Item:=skim 64 (brF G5)
theorem ZG_:skim 64 (brF G5)=TL:=by kernel_rfl
def QK:List Item:=skim 64 Lg.tail
theorem Li_:skim 64 Lg.tail=QK:=by kernel_rfl
theorem Mf_:skim 64 TL.tail=Gb:=by kernel_rfl
def FG_ (E:Env)(call round:Ad)(tm:T Value):M (T Value):=
 mv (some (.bool false)) fun v4=>
 setF 4 v4 tm fun tm1=>
 M.pure tm1
theorem TY_:RegEq 52 26 CG SU FG_:=⟨by kernel_rfl,fun _ _ _ _ _ _ _ _ _=>by kernel_rfl⟩
def XO (E:Env)(call round:Ad)(tm:T Value):M (T Value):=
 mv (T.get tm 0) fun v6=>
 M.bind (oS (seqO [(some v6)]) fun l=>A9 E .len [23] l) fun v7=>
 mv (T.get tm 1) fun v8=>
 M.bind (oS (seqO [(some v8)]) fun l=>A9 E .len [23] l) fun v9=>
 M.bind (oS (some v7) fun a=>oS (some v9) fun b=>Cl.get (aBin E .neq 3 (.tmp 7) (.tmp 9)) a b) fun v10=>
 setF 10 v10 tm fun tm1=>
 M.pure tm1
theorem Ln_:RegEq 52 26 CG Kx XO:=⟨by kernel_rfl,fun _ _ _ _ _ _ _ _ _=>by kernel_rfl⟩
theorem X8:A6 GL=some 10:=by kernel_rfl
def BB_ (E:Env)(call round:Ad)(tm:T Value):M (T Value):=
 mv (some (.bool false)) fun v4=>
 setF 4 v4 tm fun tm1=>
 M.pure tm1
theorem Pn_:RegEq 52 26 CG Ov BB_:=⟨by kernel_rfl,fun _ _ _ _ _ _ _ _ _=>by kernel_rfl⟩
def FC_ (E:Env)(call round:Ad)(tm:T Value):M (T Value):=
 mv (T.get tm 0) fun v11=>
 M.bind (oS (seqO [(some v11)]) fun l=>A9 E .len [23] l) fun v12=>
 setF 12 v12 tm fun tm1=>
 mv (some (.int .i64 0)) fun v13=>
 setF 13 v13 tm1 fun tm2=>
 M.pure tm2
theorem UR_:RegEq 52 26 CG M6 FC_:=⟨by kernel_rfl,fun _ _ _ _ _ _ _ _ _=>by kernel_rfl⟩
theorem Wr_: ∃k,Rg= .code .ret::k:=⟨Rg.tail,by kernel_rfl⟩
def S5 (E:Env)(call round:Ad)(tm:T Value):M (T Value):=
 M.bind (oS (T.get tm 13) fun a=>oS (T.get tm 12) fun b=>Cl.get (aBin E .lss 3 (.tmp 13) (.tmp 12)) a b) fun v14=>
 setF 14 v14 tm fun tm1=>
 M.pure tm1
theorem YU:RegEq 52 26 CG Gb S5:=⟨by kernel_rfl,fun _ _ _ _ _ _ _ _ _=>by kernel_rfl⟩
theorem CA_:A6 Gg=some 14:=by kernel_rfl
def Dh_ (E:Env)(call round:Ad)(tm:T Value):M (T Value):=
 mv (T.get tm 13) fun v15=>
 mv (some v15) fun v5=>
 setF 5 v5 tm fun tm1=>
 M.pure tm1
theorem SO_:RegEq 52 26 CG MM Dh_:=⟨by kernel_rfl,fun _ _ _ _ _ _ _ _ _=>by kernel_rfl⟩
def VK (E:Env)(call round:Ad)(tm:T Value):M (T Value):=
 mv (some (.bool true)) fun v4=>
 setF 4 v4 tm fun tm1=>
 M.pure tm1
theorem Pp_:RegEq 52 26 CG Ou VK:=⟨by kernel_rfl,fun _ _ _ _ _ _ _ _ _=>by kernel_rfl⟩
def DX_ (E:Env)(call round:Ad)(tm:T Value):M ((Rho×T Value)×List OpLog):=
 M.bind (apartO (oS (T.get tm 0) fun a=>M.pure a)) fun p0=>
 M.bind (apartO (oS (T.get tm 5) fun a=>M.pure a)) fun p1=>
 M.bind (apartO (oS (some p0.1) fun a=>oS (some p1.1) fun b=>BN E 23 a b)) fun p2=>
 M.bind (apartO (oS (some p2.1) fun a=>AE E 5 a)) fun p3=>
 M.bind (apartO (oS (T.get tm 1) fun a=>M.pure a)) fun p4=>
 M.bind (apartO (oS (T.get tm 5) fun a=>M.pure a)) fun p5=>
 M.bind (apartO (oS (some p4.1) fun a=>oS (some p5.1) fun b=>BN E 23 a b)) fun p6=>
 M.bind (apartO (oS (some p6.1) fun a=>AE E 5 a)) fun p7=>
 M.pure (([p7.1,p6.1,p5.1,p4.1,p3.1,p2.1,p1.1,p0.1],tm),[p7.2,p6.2,p5.2,p4.2,p3.2,p2.2,p1.2,p0.2])
theorem Uk_:DrawEq 52 26 CG If [0,0,3,7,0,0,48,112,255] DX_:=⟨by kernel_rfl,by kernel_rfl,fun _ _ _ _ _ _ _ _ _=>by kernel_rfl⟩
theorem JY_ (E:Env)(call round:Ad)(x16 x17 x18 x19 x20 x21 x22 x23:Value)(tm:T Value)(s:St):Bo call round (BV E CG 26 (hdC If)) [x23,x22,x21,x20,x19,x18,x17,x16] tm s=(M.bind (oS (some x19) fun a=>oS (some x23) fun b=>Cl.get (aBin E .neq 5 (.tmp 19) (.tmp 23)) a b) fun v24=>setT 24 v24 tm fun tm1=>M.pure tm1) s:=by kernel_rfl
theorem OB_: ∃k,SB= .code .ret::k:=⟨SB.tail,by kernel_rfl⟩
theorem Wn:A6 G5=some 24:=by kernel_rfl
def Gv_ (E:Env)(call round:Ad)(tm:T Value):M (T Value):=
 mv (some (.bool false)) fun v4=>
 setF 4 v4 tm fun tm1=>
 M.pure tm1
theorem Lk_:RegEq 52 26 CG Lg Gv_:=⟨by kernel_rfl,fun _ _ _ _ _ _ _ _ _=>by kernel_rfl⟩
def V7 (E:Env)(call round:Ad)(tm:T Value):M (T Value):=
 M.bind (oS (T.get tm 13) fun a=>oS (some (.int .i64 1)) fun b=>Cl.get (aBin E .add 3 (.tmp 13) (.const (.int .i64 1))) a b) fun v25=>
 mv (some v25) fun v13=>
 setF 13 v13 tm fun tm1=>
 M.pure tm1
theorem Xu_:RegEq 52 26 CG TL V7:=⟨by kernel_rfl,fun _ _ _ _ _ _ _ _ _=>by kernel_rfl⟩
theorem NN_: ∃k,QK= .code .ret::k:=⟨QK.tail,by kernel_rfl⟩
def Lb:Nat:=A8 Tryz.f54
def Yr:Code:=Tryz.f54.body.getD .skip
theorem PF:envS.fn.get 54=some Tryz.f54:=by kernel_rfl
theorem Zw_ {a0:Value}{n:Nat}{s:St}{Q:Value→St→Prop}(h: ∀tm,T.get tm 0=some a0→W (runF envS n ⟨54,8,Lb,tm,[.code Yr], .run, .normal,none⟩) (s.cxN cxN) fun p s1=>Q p.1 (s1.cxN s.cx)):W (Ay envS (runF envS n) 54 [a0]) s Q:=
 W.call (by kernel_rfl) (by kernel_rfl) PF (by kernel_rfl) rfl rfl (by simp) (h _ (by kernel_rfl))
theorem Zb:Tryz.f54.results.toList=[.tmp 2]:=by kernel_rfl
def O3:List Item:=skim 64 [.code Yr]
def Lh:List Item:=skim 64 O3.tail
theorem Ji_:skim 64 O3.tail=Lh:=by kernel_rfl
def LX:List Item:=skim 64 Lh.tail
theorem PU_:skim 64 Lh.tail=LX:=by kernel_rfl
def KD:List Item:=skim 64 (brF LX)
theorem Aaf_:skim 64 (brF LX)=KD:=by kernel_rfl
def TF:List Item:=skim 64 KD.tail
theorem Ym:skim 64 KD.tail=TF:=by kernel_rfl
def Wv (E:Env)(call round:Ad)(tm:T Value):M (T Value):=
 mv (some (.slice none 0 0)) fun v2=>
 setF 2 v2 tm fun tm1=>
 M.pure tm1
theorem AbK_:RegEq 54 8 Lb O3 Wv:=⟨by kernel_rfl,fun _ _ _ _ _ _ _ _ _=>by kernel_rfl⟩
def Co_ (E:Env)(call round:Ad)(tm:T Value):M (T Value):=
 mv (T.get tm 0) fun v3=>
 M.bind (oS (some v3) fun a=>oS (some (.slice none 0 0)) fun b=>Cl.get (aBin E .eql 23 (.tmp 3) (.const (.slice none 0 0))) a b) fun v4=>
 setF 4 v4 tm fun tm1=>
 M.pure tm1
theorem Ug_:RegEq 54 8 Lb Lh Co_:=⟨by kernel_rfl,fun _ _ _ _ _ _ _ _ _=>by kernel_rfl⟩
theorem Xl_:A6 LX=some 4:=by kernel_rfl
def UU (E:Env)(call round:Ad)(tm:T Value):M (T Value):=
 M.bind (oS (seqP []) fun ps=>Cp E 23 0 ps) fun v5=>
 mv (T.get tm 0) fun v6=>
 M.bind (oS (seqO [(some v5),(some v6)]) fun l=>A9 E .append [23,23] l) fun v7=>
 mv (some v7) fun v2=>
 setF 2 v2 tm fun tm1=>
 M.pure tm1
theorem JI_:RegEq 54 8 Lb KD UU:=⟨by kernel_rfl,fun _ _ _ _ _ _ _ _ _=>by kernel_rfl⟩
theorem Fi_: ∃k,TF= .code .ret::k:=⟨TF.tail,by kernel_rfl⟩
section
variable {s:St}
def Bn (s:St)(v:Value)(l:List Nat):Prop:= ∃b o c,v= .slice (some ⟨b,o,none⟩) l.length c∧l.length≤c%capU∧Cg c 1=true∧Row s b o (u8l l)
theorem Bn.bs {v:Value}{l:List Nat}(h:Bn s v l):Bs s v l:= .inr h
theorem Bn.ext {F G:Nat→Prop}{s s':St}{v:Value}{l:List Nat}(h:Bn s v l)(e:Ext F G s s')(hG: ∀x,BsF v x→ ¬G x):Bn s' v l:=by
 rcases h.bs.ext e hG with⟨rfl,_⟩|h'
 ·obtain⟨_,_,_,e,_⟩:=h;cases e
 ·exact h'
theorem Bn.ext0 {F:Nat→Prop}{s s':St}{v:Value}{l:List Nat}(h:Bn s v l)(e:Ext F Non s s'):Bn s' v l:=h.ext e fun _ _=>id
def Byt (l:List Nat):Prop:= ∀x∈l,x<256
theorem EH_: ∀{l:List Nat},Byt l→u8s (u8l l)=some l
 |[],_=>rfl
 |n::l,h=>by
  have e:=EH_ (l:=l) fun x hx=>h x (by simp[hx])
  show(match Value.int .u8 (.ofNat n),u8s (u8l l)with| .int .u8 (.ofNat n),some ns=>bif Nat.blt n 256 then some (n::ns)else none|_,_=>none)=_
  rw[e]
  simp -implicitDefEqProofs only[B2 (h n (by simp)),cond_true]
theorem W.rdB {b o:Nat}{l:List Nat}{Q:List Value→St→Prop}(h:Row s b o (u8l l))(q: ∀s1,s1.mem=s.mem→s1.next=s.next→Ext (In b o l.length) Non s s1→Q (u8l l) s1):W (Am.rdL l.length ⟨b,o,none⟩) s Q:=by
 have hl:l.length=(u8l l).length:=(Cq l).symm
 rw[hl]
 refine W.rdL h fun s1 e1 e2 e3=>q s1 e1 e2 ?_
 rw[Cq]at e3
 exact e3
theorem W.more {sum:Nat}{v:Value}{l:List Nat}{Q:Value→St→Prop}(h:Bn s v l)(hl:Byt l)(hz:l.length≤4611686018427387904)(hs:sum<4294967296)
  (q: ∀s1,s1.mem=s.mem→s1.next=s.next→Ext (BsF v) Non s s1→Q (.int .u32 (Dd sum l:Nat)) s1):W (DE [.int .u32 (sum:Nat),v]) s Q:=by
 obtain⟨b,o,c,rfl,h1,h2,h3⟩:=h
 refine W.chk (by rw[B2 hs];simpa using hz) (W.bind (W.rdB h3 fun s1 e1 e2 e3=>W.on (EH_ hl) ?_))
 rw[Lf]
 exact W.pure (q s1 e1 e2 e3)
end
theorem AaW_ {n:Nat}{s:St}{v:Value}{l:List Nat}{Q:Value→St→Prop}(hn:10≤n)(h:Bn s v l)(hl:Byt l)(hz:l.length≤4611686018427387904)
  (q: ∀s1,s1.mem=s.mem→s1.next=s.next→Ext (BsF v) Non s s1→Q (.int .u32 (Dd 0 l:Nat)) s1):W (Ay envS (runF envS n) 72 [v]) s Q:=by
 refine AaI_ fun tm h0=> ?_
 refine Qi_.w rfl (by omega) ?_
 simp -implicitDefEqProofs only[BT_,Aa,W_mv,Ab]
 refine KD_.w AcQ_ (by omega) ?_
 simp -implicitDefEqProofs only[ZZ,Ac,W_on,Aa,W_mv,Ab,T.get_set,Ag,Af,Ae,Ah,reduceIte,reduceCtorEq, ↓reduceIte,h0]
 refine W.orc (m:=DE) (by kernel_rfl) ?_
 change W (DE [.int .u32 ((0:Nat):Int),v]) _ _
 refine W.more (s:=s.cxN cxN) h hl hz (by decide) fun s1 e1 e2 e3=> ?_
 refine W.end' (rs:=[2]) (vs:=[.int .u32 (Dd 0 l:Nat)]) Adz_ (.inl AdE_) (by omega) WZ WT_ e3.cx (by simp[T.get_set]) ?_
 refine q _ e1 e2 ⟨e3.nxt,e3.lim,rfl,e3.mem,e3.rd,e3.wr⟩
theorem BU:slN envS 23=some 1:=by kernel_rfl
theorem E4:slN envS 114=some 1:=by kernel_rfl
theorem Pj:elT envS 23=some (1,1,[.int .u8 0]):=by kernel_rfl
theorem Jp:appT envS 23 23=some (1,1,false,[.int .u8 0]):=by kernel_rfl
theorem JB_:appT envS 23 3=some (1,1,true,[.int .u8 0]):=by kernel_rfl
theorem Eg:tyS envS 23=some (1,false):=by kernel_rfl
theorem XX:tyS envS 5=some (1,false):=by kernel_rfl
theorem RL (n:Nat):rep n [Value.int .u8 0]=List.replicate n (Value.int .u8 0):=by
 induction n with
 |zero=>rfl
 |succ n ih=>
  show [Value.int .u8 0]++rep n [Value.int .u8 0]=_
  rw[ih];rfl
structure Room (s s':St)(N:Nat)(v:Value)(b:Nat):Prop where
 val:v= .slice (some ⟨b,0,none⟩) 0 (capU*((b+N*1)*1024+1)+N)
 new:s.next≤b
 own:Bb s' b 0 (List.replicate N (.int .u8 0))
 tok:T.get s'.mem (b+N)=some (.O (.tok false 1025))
 lt:b+N<s'.next
theorem AeH_ {n N:Nat}{s:St}{Q:Value→St→Prop}(hbd:s.lim≤s.next)(hn:20≤n)(hN:0<N)(hN2:N≤1000000)
  (q: ∀s1 v b,Room s s1 N v b→Ext Non Non s s1→Q v s1):W (Ay envS (runF envS n) 65 [.slice none 0 0, .int .i64 (N:Nat)]) s Q:=by
 refine AM_ fun tm h0 h1=> ?_
 refine VP.w rfl (by omega) ?_
 simp -implicitDefEqProofs only[SY,Aa,W_mv,Ab]
 refine YK.w Vt (by omega) ?_
 simp -implicitDefEqProofs only[Pk,Ac,W_oS,Aa,W_mv,Ab,T.get_set,reduceIte,Nat.reduceEqDiff, ↓reduceIte,Bp,h1]
 refine W.cond (v:=false) Bm_ YF (by simp[T.get_set]) (by omega) (fun h=>by cases h) fun _=> ?_
 refine Yo.w U7 (by omega) ?_
 simp -implicitDefEqProofs only[OB,Ac,W_oS,Aa,W_mv,Ab,T.get_set,Ag,Af,Ae,reduceIte,Nat.reduceEqDiff,reduceCtorEq, ↓reduceIte,Cd,h0,h1,OG BU,Cw BU]
 refine FD_.w XP (by omega) ?_
 have e1:wrap64 ((N:Int)-wrap64 (((0:Nat):Int)-((0:Nat):Int)))=(N:Nat):=by
  rw[B6 (n:=((0:Nat):Int)-((0:Nat):Int)) (by simp) (by simp),B6]<;>simp<;>omega
 simp -implicitDefEqProofs only[Tj,Ac,W_oS,Aa,W_mv,Ab,T.get_set,reduceIte, ↓reduceIte,BZ,e1]
 refine W.cond (v:=true) Zp XE (by simp[T.get_set,hN]) (by omega) (fun _=> ?_) fun h=>by cases h
 refine Yg_.w Xc_ (by omega) ?_
 simp -implicitDefEqProofs only[Gf_,Ac,W_oS,W_on,Aa,W_mv,Ab,T.get_set,Ag,Af,Ae,reduceIte,Nat.reduceEqDiff,reduceCtorEq, ↓reduceIte,h0,OG BU,KZ_ (lo:=none) (hi:=some (.int .i64 ((0:Nat):Int))) BU rfl rfl,IJ]
 refine W.appNilT (s:=s.cxN cxN) hbd (n:=N) (l:=rep N [.int .u8 0]) JB_ (JU_ (by omega)) hN (by decide) (by decide) (by omega) (by rw[RL];simp) (by rw[RL];simp[oneCell]) fun s2 v b hf hT x2=> ?_
 obtain⟨rfl,hnew,hown,hlen,htok,hlt⟩:=hf
 have hc:=Mc (q:=(b+N*1)*1024+1) (Cn (n:=N) (by omega))
 simp -implicitDefEqProofs only[Cw BU,Ab_ (l:=0) (h:=0) (lo:=none) (hi:=some (.int .i64 ((0:Nat):Int))) BU rfl rfl (Nat.le_refl _) (Nat.zero_le _) (Ib (m:=b+N*1) (Cn (n:=N) (by omega)) (by decide)),reduceIte, ↓reduceIte,hc,hN]
 refine Bv_.w Qp_ (by omega) ?_
 simp -implicitDefEqProofs only[Tu,Aa,W_mv,Ab,T.get_set,reduceIte, ↓reduceIte]
 refine W.end' (rs:=[4]) (vs:=[.slice (some ⟨b,0,none⟩) 0 (capU*((b+N*1)*1024+1)+N)]) Zc (.inl Yy) (by omega) P9 Ac_ x2.cx (by simp[T.get_set]) ?_
 exact q _ _ b ⟨rfl,hnew,fun i v e=>(hown i v (by rw[RL];exact e)).same rfl rfl,by rw[Nat.mul_one]at hT;exact hT,by rw[Nat.mul_one]at hlt;exact hlt⟩ ⟨x2.nxt,x2.lim,rfl,x2.mem,x2.rd,x2.wr⟩
def tot (l:List (Value×List Nat)):Nat:=(l.map fun p=>p.2.length).sum
theorem UH_ {l:List (Value×List Nat)}{i:Nat}{p:Value×List Nat}(h:l[i]?=some p):tot (l.take (i+1))=tot (l.take i)+p.2.length:=by
 unfold tot
 rw[List.take_add_one,h]
 simp
theorem Rp {l:List (Value×List Nat)}(i:Nat):tot (l.take i)≤tot l:=by
 unfold tot
 have:(l.map fun p=>p.2.length).sum=((l.take i).map fun p=>p.2.length).sum+((l.drop i).map fun p=>p.2.length).sum:=by
  rw[←List.sum_append,←List.map_append,List.take_append_drop]
 omega
def C2 (b o:Nat)(l:List (Value×List Nat)):Nat→Prop:=fun x=>In b o l.length x∨ ∃p∈l,BsF p.1 x
structure Parts (s:St)(b o:Nat)(l:List (Value×List Nat)):Prop where
 row:Row s b o (l.map (·.1))
 bs: ∀p∈l,Bs s p.1 p.2
theorem Parts.same {s s':St}{b o:Nat}{l:List (Value×List Nat)}(h:Parts s b o l)(hm:s'.mem=s.mem)(hn:s'.next=s.next):Parts s' b o l:=
 ⟨fun i v e=>(h.row i v e).same hm hn,fun p hp=>(h.bs p hp).same hm hn⟩
theorem Parts.ext0 {F:Nat→Prop}{s s':St}{b o:Nat}{l:List (Value×List Nat)}(h:Parts s b o l)(e:Ext F Non s s'):Parts s' b o l:=⟨h.row.ext0 e,fun p hp=>(h.bs p hp).ext0 e⟩
section
variable {b o c:Nat}{parts:List (Value×List Nat)}
theorem Parts.get {s:St}(h:Parts s b o parts){i:Nat}(hi:i<parts.length):At s b (o+i*1) parts[i].1∧Bs s parts[i].1 parts[i].2:=by
 refine⟨?_,h.bs _ (List.getElem_mem hi)⟩
 rw[Nat.mul_one]
 exact h.row i _ (by simp[hi])
theorem Su {i:Nat}(hi:i<parts.length):tot (parts.take (i+1))=tot (parts.take i)+parts[i].2.length:=UH_ (List.getElem?_eq_getElem hi)
theorem BJ_ (ht:tot parts≤1000000)(hlen:parts.length≤4611686018427387904){F:Nat→Prop}(hF: ∀x,C2 b o parts x→F x){Q:Value×FrameMode→St→Prop}{s0:St}(hb0:s0.lim≤s0.next)(hp:Parts s0 b o parts): ∀(k i n:Nat) (tm:T Value) (s:St) (td:List Item),i+k=parts.length→7*k+7≤n→skim 64 td=GN→Ext F Non s0 s→s.mem=s0.mem→s.next=s0.next→
  T.get tm 0=some (.slice (some ⟨b,o,none⟩) parts.length c)→T.get tm 9=some (.slice (some ⟨b,o,none⟩) parts.length c)→T.get tm 10=some (.int .i64 (parts.length:Nat))→T.get tm 11=some (.int .i64 (i:Nat))→T.get tm 3=some (.int .i64 (tot (parts.take i):Nat))→
  (∀n' tm' s1 td',n≤n'+7*k+2→skim 64 td'=HY→Ext F Non s0 s1→s1.mem=s0.mem→s1.next=s0.next→T.get tm' 0=some (.slice (some ⟨b,o,none⟩) parts.length c)→T.get tm' 3=some (.int .i64 (tot parts:Nat))→W (runF envS n' ⟨43,He,BY,tm',td', .run, .normal,none⟩) s1 Q)→
  W (runF envS n ⟨43,He,BY,tm,td, .run, .normal,none⟩) s Q:=by
 intro k
 induction k with
 |zero=>
  intro i n tm s td hi hn hT hx hm hnx h0 h9 h10 h11 h3 q
  refine U9.w hT (by omega) ?_
  simp -implicitDefEqProofs only[QT,Ac,W_oS,Aa,Ab,Bp,h10,h11]
  refine W.cond (v:=false) Ct_ Un (by simp[T.get_set];omega) (by omega) (fun h=>by cases h) fun _=> ?_
  have e:tot (parts.take i)=tot parts:=by rw[show i=parts.length by omega,List.take_length]
  rw[e]at h3
  exact q _ _ _ _ (by omega) ZJ_ hx hm hnx (by simp[T.get_set,h0]) (by simp[T.get_set,h3])
 |succ k ih=>
  intro i n tm s td hi hn hT hx hm hnx h0 h9 h10 h11 h3 q
  have hil:i<parts.length:=by omega
  obtain⟨g1,g2⟩:=hp.get hil
  have hlt:=Su hil
  have htl:=Rp (l:=parts) (i+1)
  refine U9.w hT (by omega) ?_
  simp -implicitDefEqProofs only[QT,Ac,W_oS,Aa,Ab,Bp,h10,h11]
  refine W.cond (v:=true) Ct_ Un (by simp[T.get_set];omega) (by omega) (fun _=> ?_) fun h=>by cases h
  refine Rj_.w KE_ (by omega) ?_
  simp -implicitDefEqProofs only[Z8,Ac,W_oS,Aa,W_mv,Ab,T.get_set,reduceIte,Nat.reduceEqDiff, ↓reduceIte,h9,h11,C4 E4 hil]
  refine W.load1 Eg (g1.same hm hnx) ?_
  refine Ze_.w Aek_ (by omega) ?_
  have ew:wrap64 ((tot (parts.take i):Nat)+(parts[i].2.length:Nat):Int)=(tot (parts.take (i+1)):Nat):=by
   rw[B6 (by omega) (by omega),hlt];simp
  have ei:wrap64 ((i:Nat)+1:Int)=((i+1:Nat):Int):=by
   have:parts.length≤4611686018427387904:=hlen
   rw[B6 (by omega) (by omega)];simp
  have hx1:Ext F Non s0 (s.rdN (b+(o+i*1))):=hx.trans (Ext.rdN (F:=F) s _ fun _=>hF _ (.inl ⟨by omega,by omega⟩)) hb0 (fun _ _ h=>h) fun _ _ h=>h
  simp -implicitDefEqProofs only[X4,Ac,W_oS,Aa,W_mv,Ab,T.get_set,Ag,Af,Ae,reduceIte,Nat.reduceEqDiff, ↓reduceIte,BC,h3,Bs.len (s:=s.rdN (b+(o+i*1))) (g2.same hm hnx) BU,ew]
  refine Yt_.w Om_ (by omega) ?_
  simp -implicitDefEqProofs only[WJ,Ac,W_oS,Aa,W_mv,Ab,T.get_set,reduceIte, ↓reduceIte,Bp]
  refine W.cond (v:=false) Xh_ SJ_ (by simp[T.get_set]) (by omega) (fun h=>by cases h) fun _=> ?_
  refine Aaq_.w Pa_ (by omega) ?_
  simp -implicitDefEqProofs only[XN,Ac,W_oS,Aa,W_mv,Ab,T.get_set,reduceIte,Nat.reduceEqDiff, ↓reduceIte,BC,h11,ei]
  exact ih (i+1) _ _ _ _ (by omega) (by omega) MK_ hx1 hm hnx (by simp[T.get_set,h0]) (by simp[T.get_set,h9]) (by simp[T.get_set,h10]) (by simp[T.get_set]) (by simp[T.get_set]) fun n' tm' s1 td' e=>q n' tm' s1 td' (by omega)
end
section
variable {b o c:Nat}{parts:List (Value×List Nat)}
def fl (l:List (Value×List Nat)):List Nat:=(l.map (·.2)).flatten
theorem Ed (l:List (Value×List Nat)):(fl l).length=tot l:=by
 unfold fl tot
 rw[List.length_flatten,List.map_map]
 rfl
theorem XW_ {l:List (Value×List Nat)}{i:Nat}(h:i<l.length):fl (l.take (i+1))=fl (l.take i)++l[i].2:=by
 unfold fl
 rw[List.take_add_one,List.getElem?_eq_getElem h,List.map_append,List.flatten_append]
 simp
theorem Abb_ (ht:tot parts≤1000000)(hlen:parts.length≤4611686018427387904){F:Nat→Prop}(hF: ∀x,C2 b o parts x→F x){Q:Value×FrameMode→St→Prop}{s0:St}(hb0:s0.lim≤s0.next)(hp:Parts s0 b o parts){nb cc:Nat}(hnb:s0.next≤nb)(hcc:cc%capU=tot parts){z:Nat}{ce:Cell}(hz:nb+tot parts≤z): ∀(k i n:Nat) (tm:T Value) (s:St) (td:List Item),i+k=parts.length→6*k+6≤n→skim 64 td=FI→Ext F Non s0 s→Fj s nb 0 (tot parts)→Bb s nb 0 (u8l (fl (parts.take i)))→(T.get s.mem z=some ce∧z<s.next)→
  T.get tm 25=some (.slice (some ⟨b,o,none⟩) parts.length c)→T.get tm 26=some (.int .i64 (parts.length:Nat))→T.get tm 27=some (.int .i64 (i:Nat))→T.get tm 6=some (.slice (some ⟨nb,0,none⟩) (tot (parts.take i)) cc)→
  (∀n' tm' s1 td',n≤n'+6*k+2→skim 64 td'=GQ→Ext F Non s0 s1→Bb s1 nb 0 (u8l (fl parts))→(T.get s1.mem z=some ce∧z<s1.next)→T.get tm' 6=some (.slice (some ⟨nb,0,none⟩) (tot parts) cc)→W (runF envS n' ⟨43,He,BY,tm',td', .run, .normal,none⟩) s1 Q)→
  W (runF envS n ⟨43,He,BY,tm,td, .run, .normal,none⟩) s Q:=by
 intro k
 induction k with
 |zero=>
  intro i n tm s td hi hn hT hx hown hrow hce h25 h26 h27 h6 q
  refine Lx.w hT (by omega) ?_
  simp -implicitDefEqProofs only[Ig,Ac,W_oS,Aa,Ab,Bp,h26,h27]
  refine W.cond (v:=false) Ng NB (by simp[T.get_set];omega) (by omega) (fun h=>by cases h) fun _=> ?_
  have e:parts.take i=parts:=by rw[show i=parts.length by omega,List.take_length]
  rw[e]at h6 hrow
  exact q _ _ _ _ (by omega) ZJ hx hrow hce (by simp[T.get_set,h6])
 |succ k ih=>
  intro i n tm s td hi hn hT hx hown hrow hce h25 h26 h27 h6 q
  have hil:i<parts.length:=by omega
  obtain⟨g1,g2⟩:=(hp.ext0 hx).get hil
  have hlt:=Su hil
  have htl:=Rp (l:=parts) (i+1)
  refine Lx.w hT (by omega) ?_
  simp -implicitDefEqProofs only[Ig,Ac,W_oS,Aa,Ab,Bp,h26,h27]
  refine W.cond (v:=true) Ng NB (by simp[T.get_set];omega) (by omega) (fun _=> ?_) fun h=>by cases h
  refine YT.w Fe_ (by omega) ?_
  simp -implicitDefEqProofs only[RH,Ac,W_oS,Aa,W_mv,Ab,T.get_set,reduceIte,Nat.reduceEqDiff, ↓reduceIte,h25,h27,C4 E4 hil]
  refine W.load1 Eg g1 ?_
  have hx1:Ext F Non s0 (s.rdN (b+(o+i*1))):=hx.trans (Ext.rdN (F:=F) s _ fun _=>hF _ (.inl ⟨by omega,by omega⟩)) hb0 (fun _ _ h=>h) fun _ _ h=>h
  refine Xh.w DJ_ (by omega) ?_
  simp -implicitDefEqProofs only[RS,Ac,W_oS,Aa,W_mv,Ab,T.get_set,Ag,Af,Ae,reduceIte,Nat.reduceEqDiff, ↓reduceIte,h6,IJ]
  refine W.appIn (s:=s.rdN (b+(o+i*1))) Jp (g2.same (s':=s.rdN (b+(o+i*1))) rfl rfl).src.g (by rw[hcc];omega) (by rw[Cq,Nat.mul_one]) (HW _) (fun j hj=> ?_) fun s2 n2 x2 r2=> ?_
  ·obtain⟨u,hu⟩:=hown (tot (parts.take i)+j) (by omega)
   exact⟨u,by rw[show 0+tot (parts.take i)*1+j=0+(tot (parts.take i)+j) by omega];exact hu⟩
  have ei:wrap64 ((i:Nat)+1:Int)=((i+1:Nat):Int):=by
   rw[B6 (by omega) (by omega)];simp
  have hx2:Ext F Non s0 s2:=hx1.step x2 hb0 (fun l hl h=>by
   rcases h with h|h
   ·exact hF _ (.inr ⟨_,List.getElem_mem hil,h⟩)
   ·exact absurd h.1 (by omega)) fun l h=>by have:=h.1;omega
  have el:parts[i].2.length*1=(u8l parts[i].2).length:=by rw[Cq,Nat.mul_one]
  rw[el]at x2
  have hown2:Fj s2 nb 0 (tot parts):=Fj.ext (s:=s.rdN (b+(o+i*1))) (fun j hj=>let ⟨u,hu⟩:=hown j hj;⟨u,hu.same rfl rfl⟩) x2 r2
  have hrow2:Bb s2 nb 0 (u8l (fl (parts.take (i+1)))):=by
   rw[XW_ hil]
   unfold u8l
   rw[List.map_append]
   refine Bb.append (Bb.ext (s:=s.rdN (b+(o+i*1))) (fun j v e=>(hrow j v e).same rfl rfl) x2 fun j hj=> ?_) ?_
   ·rw[Cq,Ed]at hj
    intro h
    have:=h.1
    omega
   ·rw[Cq,Ed]
    rw[Nat.mul_one]at r2
    exact r2
  refine EO_.w Z2 (by omega) ?_
  simp -implicitDefEqProofs only[RK,Ac,W_oS,Aa,W_mv,Ab,T.get_set,reduceIte,Nat.reduceEqDiff, ↓reduceIte,BC,h27,ei]
  exact ih (i+1) _ _ _ _ (by omega) (by omega) BU_ hx2 hown2 hrow2 ⟨by rw[x2.mem z hce.2 fun h=>by have h1:=h.2;rw[Cq]at h1;omega];exact hce.1,Nat.lt_of_lt_of_le hce.2 x2.nxt⟩ (by simp[T.get_set,h25]) (by simp[T.get_set,h26]) (by simp[T.get_set]) (by simp[T.get_set,hlt]) fun n' tm' s1 td' e=>q n' tm' s1 td' (by omega)
end
structure New (s s':St)(v:Value)(l:List Nat):Prop where
 bn:Bn s' v l
 new: ∀x,BsF v x→s.next≤x
theorem Bn.same {s s':St}{v:Value}{l:List Nat}(h:Bn s v l)(hm:s'.mem=s.mem)(hn:s'.next=s.next):Bn s' v l:=by
 obtain⟨b,o,c,h0,h1,h2,h3⟩:=h
 exact⟨b,o,c,h0,h1,h2,fun i v e=>(h3 i v e).same hm hn⟩
structure MkG (s:St)(v:Value)(l:List Nat)(b:Nat):Prop where
 val:v= .slice (some ⟨b,0,none⟩) l.length (capU*((b+l.length)*1024+1)+l.length)
 own:Bb s b 0 (u8l l)
 tok:T.get s.mem (b+l.length)=some (.O (.tok false 1025))
 lt:b+l.length<s.next
theorem MkG.same {s s':St}{v:Value}{l:List Nat}{b:Nat}(h:MkG s v l b)(hm:s'.mem=s.mem)(hn:s'.next=s.next):MkG s' v l b:=
 ⟨h.val,fun i u e=>(h.own i u e).same hm hn,by rw[hm];exact h.tok,by rw[hn];exact h.lt⟩
theorem MkG.ext {F G:Nat→Prop}{s s':St}{v:Value}{l:List Nat}{b:Nat}(h:MkG s v l b)(e:Ext F G s s')(hG: ∀x,In b 0 (l.length+1) x→ ¬G x):MkG s' v l b:=
 ⟨h.val,fun i u q=>(h.own i u q).ext e (hG _ ⟨by omega,by have:=(List.getElem?_eq_some_iff.1 q).1;rw[Cq]at this;omega⟩),by rw[e.mem _ h.lt (hG _ ⟨by omega,by omega⟩)];exact h.tok,Nat.lt_of_lt_of_le h.lt e.nxt⟩
theorem MkG.bn {s:St}{v:Value}{l:List Nat}{b:Nat}(h:MkG s v l b)(hl:l.length≤1073741824):Bn s v l:=
 ⟨b,0,_,h.val,by rw[Mc (Cn hl)];exact Nat.le_refl _,Ib (Cn hl) (by decide),h.own.row⟩
theorem MkG.new {s0 s:St}{v:Value}{l:List Nat}{b:Nat}(h:MkG s v l b)(hl:l.length≤1073741824)(hb:s0.next≤b):New s0 s v l:=
 ⟨h.bn hl,fun x hx=>by rw[h.val]at hx;have:=hx.1;omega⟩
theorem EE_ {n:Nat}{s:St}{b o c:Nat}{parts:List (Value×List Nat)}{Q:Value→St→Prop}(hbd:s.lim≤s.next)(hp:Parts s b o parts)(h0:0<tot parts)(ht:tot parts≤1000000)(hlen:parts.length≤4611686018427387904)(hn:13*parts.length+60≤n)
  (q: ∀s1 v nb,Ext (C2 b o parts) Non s s1→MkG s1 v (fl parts) nb→s.next≤nb→Q v s1):W (Ay envS (runF envS n) 43 [.slice (some ⟨b,o,none⟩) parts.length c]) s Q:=by
 refine AD_ fun tm hk0=> ?_
 have hpc:Parts (s.cxN cxN) b o parts:=hp.same rfl rfl
 refine FK_.w rfl (by omega) ?_
 simp -implicitDefEqProofs only[TQ,Aa,W_mv,Ab]
 refine Ek_.w CB_ (by omega) ?_
 simp -implicitDefEqProofs only[PA,Aa,W_mv,Ab]
 refine Z5.w FY_ (by omega) ?_
 simp -implicitDefEqProofs only[Po,Ac,W_oS,Aa,W_mv,Ab,T.get_set,Ag,Af,Ae,reduceIte,reduceCtorEq, ↓reduceIte,hk0,Cw E4]
 refine BJ_ (c:=c) ht hlen (F:=C2 b o parts) (fun _ h=>h) (s0:=s.cxN cxN) hbd hpc parts.length 0 _ _ _ _ (by omega) (by omega) Wu (Ext.refl _) rfl rfl (by simp[T.get_set,hk0]) (by simp[T.get_set]) (by simp[T.get_set]) (by simp[T.get_set]) (by simp[T.get_set,tot]) fun n1 tm1 s1 td1 hn1 hT1 hx1 hm1 hnx1 g0 g3=> ?_
 refine Bi_.w hT1 (by omega) ?_
 simp -implicitDefEqProofs only[PQ,Ac,W_on,Aa,W_mv,Ab,Ag,Af,Ae,Ah,g3]
 have hb1:s1.lim≤s1.next:=hx1.bnd hbd
 refine AeH_ hb1 (by omega) h0 ht fun s2 v nb hr x2=> ?_
 obtain⟨rfl,hnew,hown,htok,hlt⟩:=hr
 have hx2:Ext (C2 b o parts) Non (s.cxN cxN) s2:=hx1.step x2 hbd (fun _ _ h=>h.elim) fun _ h=>h.elim
 have hnb:s.next≤nb:=by
  have:s1.next=s.next:=hnx1
  omega
 have hcc:=Mc (q:=(nb+tot parts*1)*1024+1) (Cn (n:=tot parts) (by omega))
 have hok:=Ib (m:=nb+tot parts*1) (sz:=1) (Cn (n:=tot parts) (by omega)) (by decide)
 generalize hC:capU*((nb+tot parts*1)*1024+1)+tot parts=C at *
 refine Ag_.w Um (by omega) ?_
 simp -implicitDefEqProofs only[S8,Ac,W_oS,Aa,W_mv,Ab,T.get_set,Ag,Af,Ae,reduceIte,reduceCtorEq, ↓reduceIte,g0,Cw E4]
 refine Abb_ (c:=c) ht hlen (F:=C2 b o parts) (fun _ h=>h) (s0:=s.cxN cxN) hbd hpc (nb:=nb) (cc:=C) hnb hcc (z:=nb+tot parts) (Nat.le_refl _) parts.length 0 _ _ _ _ (by omega) (by omega) ED_ hx2 (by have:=hown.owned;rwa [List.length_replicate]at this) (fun i v e=>by simp[fl]at e) ⟨htok,hlt⟩ (by simp[T.get_set]) (by simp[T.get_set]) (by simp[T.get_set]) (by simp[T.get_set,tot]) fun n3 tm3 s3 td3 hn3 hT3 hx3 hrow hz3 g6=> ?_
 refine WT.w hT3 (by omega) ?_
 simp -implicitDefEqProofs only[Sg,Aa,W_mv,Ab,g6]
 refine W.end' (rs:=[2]) (vs:=[.slice (some ⟨nb,0,none⟩) (tot parts) C]) Zx (.inl Ev_) (by omega) QR XM hx3.cx (by simp[T.get_set]) ?_
 have hC':C=capU*((nb+(fl parts).length)*1024+1)+(fl parts).length:=by rw[←hC,Ed,Nat.mul_one]
 refine q _ (.slice (some ⟨nb,0,none⟩) (tot parts) C) nb hx3.cx' ⟨by rw[←hC',Ed],fun i u e=>(hrow i u e).same rfl rfl,by rw[Ed];exact hz3.1,by rw[Ed];exact hz3.2⟩ hnb
theorem AaU_ {n:Nat}{s:St}{b o c:Nat}{parts:List (Value×List Nat)}{Q:Value→St→Prop}(hbd:s.lim≤s.next)(hp:Parts s b o parts)(h0:0<tot parts)(ht:tot parts≤1000000)(hlen:parts.length≤4611686018427387904)(hn:13*parts.length+60≤n)
  (q: ∀s1 v,Ext (C2 b o parts) Non s s1→New s s1 v (fl parts)→Q v s1):W (Ay envS (runF envS n) 43 [.slice (some ⟨b,o,none⟩) parts.length c]) s Q:=
 EE_ hbd hp h0 ht hlen hn fun s1 v _ x h hn=>q s1 v x (h.new (by rw[Ed];omega) hn)
theorem Iw_ {n:Nat}{s:St}{Q:Value→St→Prop}(hbd:s.lim≤s.next)(hn:20≤n)(q: ∀s1,s1.mem=s.mem→s1.next=s.next→Ext Non Non s s1→Q (.slice none 0 0) s1):W (Ay envS (runF envS n) 65 [.slice none 0 0, .int .i64 ((0:Nat):Int)]) s Q:=by
 refine AM_ fun tm h0 h1=> ?_
 refine VP.w rfl (by omega) ?_
 simp -implicitDefEqProofs only[SY,Ac,W_oS,W_on,Aa,W_mv,Ab,Ap,T.get_set,Ag,Af,As,Aq,Ae,Ah,reduceIte,Ak,Ao,Av,Aw,Ar,Aj,An,Au,Al,Ai,Nat.reduceEqDiff,reduceCtorEq, ↓reduceIte]
 refine YK.w Vt (by omega) ?_
 simp -implicitDefEqProofs only[Pk,Ac,W_oS,W_on,Aa,W_mv,Ab,Ap,T.get_set,Ag,Af,As,Aq,Ae,Ah,reduceIte,Ak,Ao,Av,Aw,Ar,Aj,An,Au,Al,Ai,Nat.reduceEqDiff,reduceCtorEq, ↓reduceIte,BC,Cd,Bp,BZ,Cr,Ch,BS,By,h1]
 refine W.cond (v:=false) Bm_ YF (by simp[T.get_set]) (by omega) (fun h=>by cases h) fun _=> ?_
 refine Yo.w U7 (by omega) ?_
 simp -implicitDefEqProofs only[OB,Ac,W_oS,W_on,Aa,W_mv,Ab,Ap,T.get_set,Ag,Af,As,Aq,Ae,Ah,reduceIte,Ak,Ao,Av,Aw,Ar,Aj,An,Au,Al,Ai,Nat.reduceEqDiff,reduceCtorEq, ↓reduceIte,BC,Cd,Bp,BZ,Cr,Ch,BS,By,h0,h1,OG BU,Cw BU]
 refine FD_.w XP (by omega) ?_
 have e1:wrap64 (((0:Nat):Int)-wrap64 (((0:Nat):Int)-((0:Nat):Int)))=((0:Nat):Int):=by decide
 simp -implicitDefEqProofs only[Tj,Ac,W_oS,W_on,Aa,W_mv,Ab,Ap,T.get_set,Ag,Af,As,Aq,Ae,Ah,reduceIte,Ak,Ao,Av,Aw,Ar,Aj,An,Au,Al,Ai,Nat.reduceEqDiff,reduceCtorEq, ↓reduceIte,BC,Cd,Bp,BZ,Cr,Ch,BS,By,e1]
 refine W.cond (v:=false) Zp XE (by simp[T.get_set]) (by omega) (fun h=>by cases h) fun _=> ?_
 refine Bv_.w Afa_ (by omega) ?_
 simp -implicitDefEqProofs only[Tu,Ac,W_oS,W_on,Aa,W_mv,Ab,Ap,T.get_set,Ag,Af,As,Aq,Ae,Ah,reduceIte,Ak,Ao,Av,Aw,Ar,Aj,An,Au,Al,Ai,Nat.reduceEqDiff,reduceCtorEq, ↓reduceIte,h0]
 refine W.end' (rs:=[4]) (vs:=[.slice none 0 0]) Zc (.inl Yy) (by omega) P9 Ac_ rfl (by simp[T.get_set]) ?_
 exact q _ rfl rfl (Ext.refl _)
section
variable {b o c:Nat}{parts:List (Value×List Nat)}
theorem Sl_ (ht:tot parts=0)(hlen:parts.length≤4611686018427387904){F:Nat→Prop}(hF: ∀x,C2 b o parts x→F x){Q:Value×FrameMode→St→Prop}{s0:St}(hb0:s0.lim≤s0.next)(hp:Parts s0 b o parts): ∀(k i n:Nat) (tm:T Value) (s:St) (td:List Item),i+k=parts.length→6*k+6≤n→skim 64 td=FI→Ext F Non s0 s→
  T.get tm 25=some (.slice (some ⟨b,o,none⟩) parts.length c)→T.get tm 26=some (.int .i64 (parts.length:Nat))→T.get tm 27=some (.int .i64 (i:Nat))→T.get tm 6=some (.slice none 0 0)→
  (∀n' tm' s1 td',n≤n'+6*k+2→skim 64 td'=GQ→Ext F Non s0 s1→T.get tm' 6=some (.slice none 0 0)→W (runF envS n' ⟨43,He,BY,tm',td', .run, .normal,none⟩) s1 Q)→
  W (runF envS n ⟨43,He,BY,tm,td, .run, .normal,none⟩) s Q:=by
 intro k
 induction k with
 |zero=>
  intro i n tm s td hi hn hT hx h25 h26 h27 h6 q
  refine Lx.w hT (by omega) ?_
  simp -implicitDefEqProofs only[Ig,Ac,W_oS,W_on,Aa,W_mv,Ab,Ap,T.get_set,Ag,Af,As,Aq,Ae,Ah,reduceIte,Ak,Ao,Av,Aw,Ar,Aj,An,Au,Al,Ai,Nat.reduceEqDiff,reduceCtorEq, ↓reduceIte,BC,Cd,Bp,BZ,Cr,Ch,BS,By,h26,h27]
  refine W.cond (v:=false) Ng NB (by simp[T.get_set];omega) (by omega) (fun h=>by cases h) fun _=> ?_
  exact q _ _ _ _ (by omega) ZJ hx (by simp[T.get_set,h6])
 |succ k ih=>
  intro i n tm s td hi hn hT hx h25 h26 h27 h6 q
  have hil:i<parts.length:=by omega
  obtain⟨g1,g2⟩:=(hp.ext0 hx).get hil
  have hlt:=Su hil
  have htl:=Rp (l:=parts) (i+1)
  have hl0:parts[i].2.length=0:=by omega
  refine Lx.w hT (by omega) ?_
  simp -implicitDefEqProofs only[Ig,Ac,W_oS,W_on,Aa,W_mv,Ab,Ap,T.get_set,Ag,Af,As,Aq,Ae,Ah,reduceIte,Ak,Ao,Av,Aw,Ar,Aj,An,Au,Al,Ai,Nat.reduceEqDiff,reduceCtorEq, ↓reduceIte,BC,Cd,Bp,BZ,Cr,Ch,BS,By,h26,h27]
  refine W.cond (v:=true) Ng NB (by simp[T.get_set];omega) (by omega) (fun _=> ?_) fun h=>by cases h
  refine YT.w Fe_ (by omega) ?_
  simp -implicitDefEqProofs only[RH,Ac,W_oS,W_on,Aa,W_mv,Ab,Ap,T.get_set,Ag,Af,As,Aq,Ae,Ah,reduceIte,Ak,Ao,Av,Aw,Ar,Aj,An,Au,Al,Ai,Nat.reduceEqDiff,reduceCtorEq, ↓reduceIte,h25,h27,C4 E4 hil]
  refine W.load1 Eg g1 ?_
  have hx1:Ext F Non s0 (s.rdN (b+(o+i*1))):=hx.trans (Ext.rdN (F:=F) s _ fun _=>hF _ (.inl ⟨by omega,by omega⟩)) hb0 (fun _ _ h=>h) fun _ _ h=>h
  refine Xh.w DJ_ (by omega) ?_
  simp -implicitDefEqProofs only[RS,Ac,W_oS,W_on,Aa,W_mv,Ab,Ap,T.get_set,Ag,Af,As,Aq,Ae,Ah,reduceIte,Ak,Ao,Av,Aw,Ar,Aj,An,Au,Al,Ai,Nat.reduceEqDiff,reduceCtorEq, ↓reduceIte,h6,IJ]
  refine W.appV (s:=s.rdN (b+(o+i*1))) (hx1.bnd hb0) Jp (len:=0) (b:=0) (old:=[]) (.inl ⟨rfl,rfl,rfl⟩) (g2.same (s':=s.rdN (b+(o+i*1))) rfl rfl).src.g (by decide) (by decide) (by omega) (by rw[Cq,Nat.mul_one]) (HW _) fun s2 v2 b2 hb2 mk2 x2=> ?_
  have hv2:v2= .slice none 0 0:=by
   rcases mk2 with h|h
   ·exact h.1
   ·have:=h.2
    omega
  subst hv2
  have ei:wrap64 ((i:Nat)+1:Int)=((i+1:Nat):Int):=by
   rw[B6 (by omega) (by omega)];simp
  have hx2:Ext F Non s0 s2:=hx1.step x2 hb0 (fun l hl h=>by
   rcases h with h|h
   ·exact hF _ (.inr ⟨_,List.getElem_mem hil,h⟩)
   ·exact absurd h.1 (by omega)) fun l h=>by have:=h.1;omega
  refine EO_.w Z2 (by omega) ?_
  simp -implicitDefEqProofs only[RK,Ac,W_oS,W_on,Aa,W_mv,Ab,Ap,T.get_set,Ag,Af,As,Aq,Ae,Ah,reduceIte,Ak,Ao,Av,Aw,Ar,Aj,An,Au,Al,Ai,Nat.reduceEqDiff,reduceCtorEq, ↓reduceIte,BC,Cd,Bp,BZ,Cr,Ch,BS,By,h27,ei]
  exact ih (i+1) _ _ _ _ (by omega) (by omega) BU_ hx2 (by simp[T.get_set,h25]) (by simp[T.get_set,h26]) (by simp[T.get_set]) (by simp[T.get_set]) fun n' tm' s1 td' e=>q n' tm' s1 td' (by omega)
end
theorem Bs.nil0 (s:St):Bs s (.slice none 0 0) []:= .inl ⟨rfl,rfl⟩
theorem Abq_ {n:Nat}{s:St}{b o c:Nat}{parts:List (Value×List Nat)}{Q:Value→St→Prop}(hbd:s.lim≤s.next)(hp:Parts s b o parts)(ht:tot parts≤1000000)(hlen:parts.length≤4611686018427387904)(hn:13*parts.length+60≤n)
  (q: ∀s1 v,Ext (C2 b o parts) Non s s1→Bs s1 v (fl parts)→(∀x,BsF v x→s.next≤x)→Q v s1):W (Ay envS (runF envS n) 43 [.slice (some ⟨b,o,none⟩) parts.length c]) s Q:=by
 by_cases h0:tot parts=0
 ·refine AD_ fun tm hk0=> ?_
  have hpc:Parts (s.cxN cxN) b o parts:=hp.same rfl rfl
  refine FK_.w rfl (by omega) ?_
  simp -implicitDefEqProofs only[TQ,Ac,W_oS,W_on,Aa,W_mv,Ab,Ap,T.get_set,Ag,Af,As,Aq,Ae,Ah,reduceIte,Ak,Ao,Av,Aw,Ar,Aj,An,Au,Al,Ai,Nat.reduceEqDiff,reduceCtorEq, ↓reduceIte]
  refine Ek_.w CB_ (by omega) ?_
  simp -implicitDefEqProofs only[PA,Ac,W_oS,W_on,Aa,W_mv,Ab,Ap,T.get_set,Ag,Af,As,Aq,Ae,Ah,reduceIte,Ak,Ao,Av,Aw,Ar,Aj,An,Au,Al,Ai,Nat.reduceEqDiff,reduceCtorEq, ↓reduceIte]
  refine Z5.w FY_ (by omega) ?_
  simp -implicitDefEqProofs only[Po,Ac,W_oS,W_on,Aa,W_mv,Ab,Ap,T.get_set,Ag,Af,As,Aq,Ae,Ah,reduceIte,Ak,Ao,Av,Aw,Ar,Aj,An,Au,Al,Ai,Nat.reduceEqDiff,reduceCtorEq, ↓reduceIte,hk0,Cw E4]
  refine BJ_ (c:=c) ht hlen (F:=C2 b o parts) (fun _ h=>h) (s0:=s.cxN cxN) hbd hpc parts.length 0 _ _ _ _ (by omega) (by omega) Wu (Ext.refl _) rfl rfl (by simp[T.get_set,hk0]) (by simp[T.get_set]) (by simp[T.get_set]) (by simp[T.get_set]) (by simp[T.get_set,tot]) fun n1 tm1 s1 td1 hn1 hT1 hx1 hm1 hnx1 g0 g3=> ?_
  refine Bi_.w hT1 (by omega) ?_
  rw[h0]at g3
  simp -implicitDefEqProofs only[PQ,Ac,W_oS,W_on,Aa,W_mv,Ab,Ap,T.get_set,Ag,Af,As,Aq,Ae,Ah,reduceIte,Ak,Ao,Av,Aw,Ar,Aj,An,Au,Al,Ai,Nat.reduceEqDiff,reduceCtorEq, ↓reduceIte,g3]
  have hb1:s1.lim≤s1.next:=hx1.bnd hbd
  refine Iw_ hb1 (by omega) fun s2 m2 nx2 x2=> ?_
  have hx2:Ext (C2 b o parts) Non (s.cxN cxN) s2:=hx1.step x2 hbd (fun _ _ h=>h.elim) fun _ h=>h.elim
  refine Ag_.w Um (by omega) ?_
  simp -implicitDefEqProofs only[S8,Ac,W_oS,W_on,Aa,W_mv,Ab,Ap,T.get_set,Ag,Af,As,Aq,Ae,Ah,reduceIte,Ak,Ao,Av,Aw,Ar,Aj,An,Au,Al,Ai,Nat.reduceEqDiff,reduceCtorEq, ↓reduceIte,g0,Cw E4]
  refine Sl_ (c:=c) h0 hlen (F:=C2 b o parts) (fun _ h=>h) (s0:=s.cxN cxN) hbd hpc parts.length 0 _ _ _ _ (by omega) (by omega) ED_ hx2 (by simp[T.get_set]) (by simp[T.get_set]) (by simp[T.get_set]) (by simp[T.get_set]) fun n3 tm3 s3 td3 hn3 hT3 hx3 g6=> ?_
  refine WT.w hT3 (by omega) ?_
  simp -implicitDefEqProofs only[Sg,Ac,W_oS,W_on,Aa,W_mv,Ab,Ap,T.get_set,Ag,Af,As,Aq,Ae,Ah,reduceIte,Ak,Ao,Av,Aw,Ar,Aj,An,Au,Al,Ai,Nat.reduceEqDiff,reduceCtorEq, ↓reduceIte,g6]
  refine W.end' (rs:=[2]) (vs:=[.slice none 0 0]) Zx (.inl Ev_) (by omega) QR XM hx3.cx (by simp[T.get_set]) ?_
  have e0:fl parts=[]:=List.eq_nil_of_length_eq_zero (by rw[Ed];exact h0)
  refine q _ _ hx3.cx' ?_ fun x hx=>hx.elim
  rw[e0]
  exact Bs.nil0 _
 ·exact AaU_ hbd hp (by omega) ht hlen hn fun s1 v x1 h1=>q s1 v x1 h1.bn.bs h1.new
theorem Ai_:elT envS 114=some (1,24,[.slice none 0 0]):=by kernel_rfl
theorem Uq {va vb:Value}(ha: ∃p n c,va= .slice p n c)(hb: ∃p n c,vb= .slice p n c):C1 (fun k=>some (k*1,1)) [(0,va),(1,vb)] (rep 2 [.slice none 0 0])=some [va,vb]:=by
 obtain⟨p,n,c,rfl⟩:=ha
 obtain⟨p',n',c',rfl⟩:=hb
 rfl
theorem Vr {n b c:Nat}{s:St}{va vb:Value}{la lb:List Nat}{Q:Value→St→Prop}(hbd:s.lim≤s.next)(ra:Row s b 0 [va,vb])(ba:Bs s va la)(bb:Bs s vb lb)(ht:la.length+lb.length≤1000000)(hn:100≤n)(q: ∀s1 v,Ext Any Non s s1→Bs s1 v (la++lb)→(∀x,BsF v x→s.next≤x)→Q v s1):W (Ay envS (runF envS n) 43 [.slice (some ⟨b,0,none⟩) 2 c]) s Q:=by
 have hp:Parts s b 0 [(va,la),(vb,lb)]:=⟨ra,fun p hp=>by
  simp only[List.mem_cons,List.not_mem_nil,or_false]at hp
  rcases hp with rfl|rfl
  ·exact ba
  ·exact bb⟩
 have ef:fl [(va,la),(vb,lb)]=la++lb:=by
  show la++(lb++[])=_
  rw[List.append_nil]
 have et:tot [(va,la),(vb,lb)]=la.length+lb.length:=by
  rw[←Ed,ef,List.length_append]
 have el:[(va,la),(vb,lb)].length=2:=rfl
 generalize [(va,la),(vb,lb)]=ps at *
 have:=Abq_ (n:=n) (s:=s) (b:=b) (o:=0) (c:=c) (parts:=ps) (Q:=Q) hbd hp (by omega) (by omega) (by omega) fun s1 v x1 h1 h2=>q s1 v (x1.weak hbd (fun _ _ _=>trivial) fun _ _ h=>h) (by rw[←ef];exact h1) h2
 rwa [el]at this
section
variable {n D M:Nat}{s:St}{k:DkS}{col:Nat→Nat}{a:ByteArray}{Q:Value→St→Prop}
theorem Yf (hb:s.lim≤s.next)(hI:DkI s col D M k)(hlen:k.fs.length≤300)(hz:k.used≤1000000)(hn:400≤n)
  (q1:k.out=true→ ∀s1,Ext Any Non s s1→Q (.tuple #[.slice none 0 0, .int .i64 10]) s1)
  (q2:k.out=false→Bg k.fs a=none→ ∀s1,Ext Any Non s s1→Q (.tuple #[.slice none 0 0, .int .i64 6]) s1)
  (q3:k.out=false→ ∀j,Bg k.fs a=some j→ ∀hj:j<k.fs.length,∀s1 v,Ext Any Non s s1→Bs s1 v k.fs[j].all→(∀x,BsF v x→s.next≤x)→Q (.tuple #[v, .int .i64 0]) s1):
  W (Ay envS (runF envS n) 21 [.pointer (some ⟨D,0,none⟩), .string a]) s Q:=by
 have hb0:(s.cxN cxN).lim≤(s.cxN cxN).next:=hb
 have hI0:DkI (s.cxN cxN) col D M k:=hI.same rfl rfl
 refine YI_ fun tm t0 t1=> ?_
 refine AeZ_.w rfl (by omega) ?_
 simp only[ZP,Ac,W_oS,W_on,Aa,W_mv,Ab,Ap,T.get_set,Ag,Af,As,Aq,Ae,Ah,reduceIte,Ak,Ao,Av,Aw,Ar,Aj,An,Au,Al,Ai,Nat.reduceEqDiff,reduceCtorEq, ↓reduceIte]
 refine HF_.w XF_ (by omega) ?_
 simp only[VN,Ac,W_oS,W_on,Aa,W_mv,Ab,Ap,T.get_set,Ag,Af,As,Aq,Ae,Ah,reduceIte,Ak,Ao,Av,Aw,Ar,Aj,An,Au,Al,Ai,Nat.reduceEqDiff,reduceCtorEq, ↓reduceIte,t0]
 refine NR (o:=k.out) hb0 (hI0.d0.same rfl rfl) (hI0.d6.same rfl rfl) (by omega) fun s1 m1 n1 x1=> ?_
 have y1:=x1
 have n1':s1.next=s.next:=n1
 have hI1:DkI s1 col D M k:=hI0.same m1 n1
 try simp only[Ac,W_oS,W_on,Aa,W_mv,Ab,Ap,T.get_set,Ag,Af,As,Aq,Ae,Ah,reduceIte,Ak,Ao,Av,Aw,Ar,Aj,An,Au,Al,Ai,Nat.reduceEqDiff,reduceCtorEq, ↓reduceIte]
 refine Vj_.w AeS_ (by omega) ?_
 cases ho:k.out with
 |true=>
  simp only[Sv,Ac,W_oS,W_on,Aa,W_mv,Ab,Ap,T.get_set,Ag,Af,As,Aq,Ae,Ah,reduceIte,Ak,Ao,Av,Aw,Ar,Aj,An,Au,Al,Ai,Nat.reduceEqDiff,reduceCtorEq, ↓reduceIte,BC,Cd,Bp,BZ,Cr,Ch,BS,By]
  refine W.cond (v:=true) XH Ur (by simp[T.get_set]) (by omega) (fun _=> ?_) fun h=>by cases h
  refine IK_.w Pd_ (by omega) ?_
  simp only[Cj_,Ac,W_oS,W_on,Aa,W_mv,Ab,Ap,T.get_set,Ag,Af,As,Aq,Ae,Ah,reduceIte,Ak,Ao,Av,Aw,Ar,Aj,An,Au,Al,Ai,Nat.reduceEqDiff,reduceCtorEq, ↓reduceIte]
  refine W.end' (rs:=[4,5]) (vs:=[.slice none 0 0, .int .i64 10]) IU_ (.inl Od_) (by omega) Jr SS y1.cx (by simp[T.get_set]) ?_
  exact q1 ho _ y1.cx'
 |false=>
  simp only[Sv,Ac,W_oS,W_on,Aa,W_mv,Ab,Ap,T.get_set,Ag,Af,As,Aq,Ae,Ah,reduceIte,Ak,Ao,Av,Aw,Ar,Aj,An,Au,Al,Ai,Nat.reduceEqDiff,reduceCtorEq, ↓reduceIte,BC,Cd,Bp,BZ,Cr,Ch,BS,By]
  refine W.cond (v:=false) XH Ur (by simp[T.get_set]) (by omega) (fun h=>by cases h) fun _=> ?_
  refine Vs_.w HX_ (by omega) ?_
  simp only[Z3,Ac,W_oS,W_on,Aa,W_mv,Ab,Ap,T.get_set,Ag,Af,As,Aq,Ae,Ah,reduceIte,Ak,Ao,Av,Aw,Ar,Aj,An,Au,Al,Ai,Nat.reduceEqDiff,reduceCtorEq, ↓reduceIte,t0,t1,Bh Er (by decide)]
  refine W.load1 EA hI1.d1.at' ?_
  try simp only[Ac,W_oS,W_on,Aa,W_mv,Ab,Ap,T.get_set,Ag,Af,As,Aq,Ae,Ah,reduceIte,Ak,Ao,Av,Aw,Ar,Aj,An,Au,Al,Ai,Nat.reduceEqDiff,reduceCtorEq, ↓reduceIte]
  refine LO (fs:=k.fs) (mx:=k.mx) (hI1.om.same rfl rfl) ?_
  try simp only[Ac,W_oS,W_on,Aa,W_mv,Ab,Ap,T.get_set,Ag,Af,As,Aq,Ae,Ah,reduceIte,Ak,Ao,Av,Aw,Ar,Aj,An,Au,Al,Ai,Nat.reduceEqDiff,reduceCtorEq, ↓reduceIte]
  have y2:=(y1.thenRd hb0 (D+(0+1))).thenRd hb0 M
  have hI2:DkI ((s1.rdN (D+(0+1))).rdN M) col D M k:=hI1.same rfl rfl
  have n2:((s1.rdN (D+(0+1))).rdN M).next=s.next:=n1'
  generalize (s1.rdN (D+(0+1))).rdN M=s2 at *
  refine Xk_.w Sw_ (by omega) ?_
  cases hj:Bg k.fs a with
  |none=>
   have hv:BI k.fs a= .pointer none:=by unfold BI;rw[hj]
   rw[hv]
   simp only[RI,Ac,W_oS,W_on,Aa,W_mv,Ab,Ap,T.get_set,Ag,Af,As,Aq,Ae,Ah,reduceIte,Ak,Ao,Av,Aw,Ar,Aj,An,Au,Al,Ai,Nat.reduceEqDiff,reduceCtorEq, ↓reduceIte,MY]
   refine W.cond (v:=true) Dx_ Zd (by simp[T.get_set]) (by omega) (fun _=> ?_) fun h=>by cases h
   refine RG_.w GN_ (by omega) ?_
   simp only[FL_,Ac,W_oS,W_on,Aa,W_mv,Ab,Ap,T.get_set,Ag,Af,As,Aq,Ae,Ah,reduceIte,Ak,Ao,Av,Aw,Ar,Aj,An,Au,Al,Ai,Nat.reduceEqDiff,reduceCtorEq, ↓reduceIte]
   refine W.end' (rs:=[4,5]) (vs:=[.slice none 0 0, .int .i64 6]) VA_ (.inl GH_) (by omega) Jr SS y2.cx (by simp[T.get_set]) ?_
   exact q2 ho hj _ y2.cx'
  |some j=>
   have hlt:=Fo hj
   have hv:BI k.fs a= .pointer (some ⟨k.fs[j].blk,0,none⟩):=by
    unfold BI
    rw[hj]
    simp only[List.getElem?_eq_getElem hlt]
   rw[hv]
   simp only[RI,Ac,W_oS,W_on,Aa,W_mv,Ab,Ap,T.get_set,Ag,Af,As,Aq,Ae,Ah,reduceIte,Ak,Ao,Av,Aw,Ar,Aj,An,Au,Al,Ai,Nat.reduceEqDiff,reduceCtorEq, ↓reduceIte,DS Hz]
   refine W.cond (v:=false) Dx_ Zd (by simp[T.get_set]) (by omega) (fun h=>by cases h) fun _=> ?_
   have g:=hI2.fl j hlt
   have hused:=DkS.used_at hlt
   refine LQ_.w Kt_ (by omega) ?_
   simp only[Zf,T.get_set,Nat.reduceEqDiff,reduceIte,AP,D6,Ag,Af,As,Aq,Ae,E9,B0]
   rw[W_dq fun s Q=>Ai (s:=s) _ Q]
   dsimp only
   try simp only[AP]
   rw[W_dq fun s Q=>Bh (s:=s) Sn (by decide) Q]
   dsimp only
   try simp only[AP]
   refine W.dload DD ((g.o0.same (s':=dSt s2.mem s2.next) rfl rfl).at') fun rd3 hr3=> ?_
   try simp only[AP,B0]
   rw[W_dq fun s Q=>Ai (s:=s) _ Q]
   dsimp only
   try simp only[AP]
   rw[W_dq fun s Q=>Bh (s:=s) HJ (by decide) Q]
   dsimp only
   try simp only[AP]
   refine W.dload DD ((g.o1.same (s':=dSt s2.mem s2.next) rfl rfl).at') fun rd7 hr7=> ?_
   try simp only[AP,Ag,Af,As,Aq,Ae,D6]
   refine W.dop (W.buildS (s:=oSt s2.mem s2.next) (Nat.le_refl _) (r:=[k.fs[j].sv,k.fs[j].lv]) Ai_ (by decide) (Uq (g.ms.sl.imp fun p h=>⟨_,h⟩) (g.ml.sl.imp fun p h=>⟨_,h⟩)) (Cn (by decide)) fun sa na xa ra=>⟨Non,xa,fun rd8 hr8=> ?_⟩)
   obtain rfl:=Wt fun x hx=>(hr8 x hx).2
   try simp only[AP,Ag,Af,Ae,D6,E9]
   have bs:Bs s2 k.fs[j].sv k.fs[j].sb:=g.ms.bs (Nat.lt_of_le_of_lt (show _≤1000000 by omega) (by decide))
   have bl:Bs s2 k.fs[j].lv k.fs[j].lb:=g.ml.bs (Nat.lt_of_le_of_lt (show _≤1000000 by omega) (by decide))
   refine W.dop (Vr (s:=oSt sa.mem sa.next) (Nat.le_refl _) (fun i v e=>((ra i v e).same rfl rfl).at') (((bs.same (s':=oSt s2.mem s2.next) rfl rfl).ext0 xa).same rfl rfl) (((bl.same (s':=oSt s2.mem s2.next) rfl rfl).ext0 xa).same rfl rfl) (by omega) (by omega) fun sb v xb hbs hnw=>⟨_,xb,fun rd9 hr9=> ?_⟩)
   refine Eq.mpr (B0 v _ _ _ _) ?_
   dsimp only
   try simp only[Ap]
   have na':sa.next=s2.next+3:=na
   have nb':sa.next≤sb.next:=xb.nxt
   rw[Aa]
   refine⟨D8 ?_, ?_⟩
   ·simp only[List.reverse_cons,List.reverse_nil,List.nil_append,List.cons_append,allP,CH,List.take,Dv]
    have lts: ∀x,s2.next≤x→ ¬x<s2.next:=fun x h=>by omega
    simp+contextual [lts]
    exact .inl rfl
   ·refine W.cast (GI_ _ _ _ _ _ _ _ _ _ _ _ _ _ _ _ _) ?_
    simp only[Ac,W_oS,W_on,Aa,W_mv,Ab,Ap,T.get_set,Ag,Af,As,Aq,Ae,Ah,reduceIte,Ak,Ao,Av,Aw,Ar,Aj,An,Au,Al,Ai,Nat.reduceEqDiff,reduceCtorEq, ↓reduceIte]
    generalize hs':(⟨(dSt sb.mem sb.next).mem,(dSt sb.mem sb.next).next,s2.lim,_,_,s2.cx⟩:St)=s7
    have x7:Ext Any Non s2 s7:=by
     rw[←hs']
     exact Ext.draw (F:=Any) (by show s2.next≤sb.next;omega) (fun x hx=>(xb.mem x (by show x<sa.next;omega) id).trans (xa.mem x hx id)) (by simp) fun _ _ _ _ _=>trivial
    have m7:s7.mem=sb.mem:=by rw[←hs'];rfl
    have n7:s7.next=sb.next:=by rw[←hs'];rfl
    have y7:=y2.on x7 hb0 fun _ _ h=>h
    refine W.end' (rs:=[4,5]) (vs:=[v, .int .i64 0]) GQ_ (.inl QS_) (by omega) Jr SS y7.cx (by simp[T.get_set]) ?_
    refine q3 ho j hj hlt _ v y7.cx' (hbs.same m7 n7) fun x hx=> ?_
    have h1:=hnw x hx
    have h2:sa.next≤x:=h1
    omega
end
theorem VI_ (m:Nat):FZ envS 78 [(0, .bool true),(1, .map (some m))]=some [.bool true, .map (some m), .int .i64 0, .int .i64 0, .bool false, .int .i64 0, .bool false]:=by kernel_rfl
def newC (N:Nat):Nat→Nat:=fun x=>if x<N then 1000 else if x=N then 1 else 0
section
variable {D n:Nat}{s:St}{Q:Value→St→Prop}
theorem VY_ {r0:Int}{room:Nat}(hb:s.lim≤s.next)(h0:Own s D 0 (.bool true))(h2:Own s D 2 (.int .i64 r0))(hr:room≤16777216)(hn:60≤n)(q: ∀s1,s1.next=s.next→Ext Any (fun y=>y=D+2) s s1→Own s1 D 2 (.int .i64 (room:Nat))→Q (.int .i64 0) s1):W (Ay envS (runF envS n) 55 [.pointer (some ⟨D,0,none⟩), .int .i64 (room:Nat)]) s Q:=by
 have hb0:(s.cxN cxN).lim≤(s.cxN cxN).next:=hb
 refine AdO_ fun tm t0 t1=> ?_
 refine Ro_.w rfl (by omega) ?_
 simp only[Xd,Ac,W_oS,W_on,Aa,W_mv,Ab,Ap,T.get_set,Ag,Af,As,Aq,Ae,Ah,reduceIte,Ak,Ao,Av,Aw,Ar,Aj,An,Au,Al,Ai,Nat.reduceEqDiff,reduceCtorEq, ↓reduceIte]
 refine AcN_.w AaB_ (by omega) ?_
 simp only[Vp,Ac,W_oS,W_on,Aa,W_mv,Ab,Ap,T.get_set,Ag,Af,As,Aq,Ae,Ah,reduceIte,Ak,Ao,Av,Aw,Ar,Aj,An,Au,Al,Ai,Nat.reduceEqDiff,reduceCtorEq, ↓reduceIte,t0]
 refine NL hb0 (h0.same rfl rfl) (by omega) fun s1 m1 n1 x1=> ?_
 try simp only[Ac,W_oS,W_on,Aa,W_mv,Ab,Ap,T.get_set,Ag,Af,As,Aq,Ae,Ah,reduceIte,Ak,Ao,Av,Aw,Ar,Aj,An,Au,Al,Ai,Nat.reduceEqDiff,reduceCtorEq, ↓reduceIte]
 refine W.cond (v:=false) AeQ_ Vr_ (by simp[T.get_set]) (by omega) (fun h=>by cases h) fun _=> ?_
 refine Yw_.w MW_ (by omega) ?_
 have e1:decide (((room:Nat):Int)<0)=false:=decide_eq_false (by omega)
 have e2:decide ((16777216:Int)<((room:Nat):Int))=false:=decide_eq_false (by omega)
 simp only[At_,Ac,W_oS,W_on,Aa,W_mv,Ab,Ap,T.get_set,Ag,Af,As,Aq,Ae,Ah,reduceIte,Ak,Ao,Av,Aw,Ar,Aj,An,Au,Al,Ai,Nat.reduceEqDiff,reduceCtorEq, ↓reduceIte,BC,Cd,Bp,BZ,Cr,Ch,BS,By,t1,e1,e2]
 refine W.cond (v:=false) AbB_ ZH_ (by simp[T.get_set]) (by omega) (fun h=>by cases h) fun _=> ?_
 refine Xr_.w XK_ (by omega) ?_
 simp only[Zj,Ac,W_oS,W_on,Aa,W_mv,Ab,Ap,T.get_set,Ag,Af,As,Aq,Ae,Ah,reduceIte,Ak,Ao,Av,Aw,Ar,Aj,An,Au,Al,Ai,Nat.reduceEqDiff,reduceCtorEq, ↓reduceIte,t0,t1,Bh Vn (by decide)]
 have g2:Own s1 D 2 (.int .i64 r0):=(h2.same (s':=s.cxN cxN) rfl rfl).same m1 n1
 refine W.store1 BL rfl g2 fun s2 n2 x2 o2=> ?_
 have y2:Ext Any (fun y=>y=D+2) (s.cxN cxN) s2:=(x1.gw hb0 fun _ _ h=>h.elim).on x2 hb0 fun y _ hq=>by have h1:=hq.1;have h2:=hq.2;omega
 try simp only[Ac,W_oS,W_on,Aa,W_mv,Ab,Ap,T.get_set,Ag,Af,As,Aq,Ae,Ah,reduceIte,Ak,Ao,Av,Aw,Ar,Aj,An,Au,Al,Ai,Nat.reduceEqDiff,reduceCtorEq, ↓reduceIte]
 refine AcS_.w Yd_ (by omega) ?_
 simp only[Ud,Ac,W_oS,W_on,Aa,W_mv,Ab,Ap,T.get_set,Ag,Af,As,Aq,Ae,Ah,reduceIte,Ak,Ao,Av,Aw,Ar,Aj,An,Au,Al,Ai,Nat.reduceEqDiff,reduceCtorEq, ↓reduceIte]
 refine W.end' (rs:=[4]) (vs:=[.int .i64 0]) XL_ (.inl WO_) (by omega) Ue LV_ y2.cx (by simp[T.get_set]) ?_
 exact q _ (n2.trans n1) y2.cx' (o2.same rfl rfl)
theorem AeB_ {room:Nat}(hb:s.lim≤s.next)(hr:room≤16777216)(hn:100≤n)(q: ∀s1,Ext Any Non s s1→DkI s1 (newC s.next) (s.next+1) s.next ⟨[],0,room,0,false,0,false⟩→Q (.tuple #[.pointer (some ⟨s.next+1,0,none⟩), .int .i64 0]) s1):W (Ay envS (runF envS n) 23 [.int .i64 (room:Nat)]) s Q:=by
 have hb0:(s.cxN cxN).lim≤(s.cxN cxN).next:=hb
 refine AbE_ fun tm t0=> ?_
 refine KH_.w rfl (by omega) ?_
 simp only[Uu,Ac,W_oS,W_on,Aa,W_mv,Ab,Ap,T.get_set,Ag,Af,As,Aq,Ae,Ah,reduceIte,Ak,Ao,Av,Aw,Ar,Aj,An,Au,Al,Ai,Nat.reduceEqDiff,reduceCtorEq, ↓reduceIte]
 refine SN_.w Ok_ (by omega) ?_
 simp only[AZ_,Ac,W_oS,W_on,Aa,W_mv,Ab,Ap,T.get_set,Ag,Af,As,Aq,Ae,Ah,reduceIte,Ak,Ao,Av,Aw,Ar,Aj,An,Au,Al,Ai,Nat.reduceEqDiff,reduceCtorEq, ↓reduceIte]
 unfold Dr
 refine W.bind (W.newO fun s1 n1 x1 o1=> ?_)
 have ea:(s.cxN cxN).next=s.next:=rfl
 rw[ea]at o1 n1 ⊢
 have y1:Ext Any Non (s.cxN cxN) s1:=x1.weak hb0 (fun _ _ _=>trivial) fun _ _ h=>h
 simp only[Ac,W_oS,W_on,Aa,W_mv,Ab,Ap,T.get_set,Ag,Af,As,Aq,Ae,Ah,reduceIte,Ak,Ao,Av,Aw,Ar,Aj,An,Au,Al,Ai,Nat.reduceEqDiff,reduceCtorEq, ↓reduceIte,Fe (VI_ s.next)]
 refine W.box fun s2 n2 x2 r2=> ?_
 rw[QX]at n2 r2
 have n2':s2.next=s1.next+8:=n2
 rw[n1]at r2 n2' ⊢
 have y2:=y1.on x2 hb0 fun _ _ h=>h
 try simp only[Ac,W_oS,W_on,Aa,W_mv,Ab,Ap,T.get_set,Ag,Af,As,Aq,Ae,Ah,reduceIte,Ak,Ao,Av,Aw,Ar,Aj,An,Au,Al,Ai,Nat.reduceEqDiff,reduceCtorEq, ↓reduceIte]
 refine OX_.w AdN_ (by omega) ?_
 simp only[ZE,Ac,W_oS,W_on,Aa,W_mv,Ab,Ap,T.get_set,Ag,Af,As,Aq,Ae,Ah,reduceIte,Ak,Ao,Av,Aw,Ar,Aj,An,Au,Al,Ai,Nat.reduceEqDiff,reduceCtorEq, ↓reduceIte,t0]
 refine VY_ (y2.bnd hb0) (r2 0 _ rfl) (r2 2 _ rfl) hr (by omega) fun s3 n3 x3 o3=> ?_
 have y3:Ext Any Non (s.cxN cxN) s3:=y2.on x3 hb0 fun y hy h=>by have:y<s.next:=hy;omega
 try simp only[Ac,W_oS,W_on,Aa,W_mv,Ab,Ap,T.get_set,Ag,Af,As,Aq,Ae,Ah,reduceIte,Ak,Ao,Av,Aw,Ar,Aj,An,Au,Al,Ai,Nat.reduceEqDiff,reduceCtorEq, ↓reduceIte]
 refine AaZ_.w Nu_ (by omega) ?_
 simp only[Xc,Ac,W_oS,W_on,Aa,W_mv,Ab,Ap,T.get_set,Ag,Af,As,Aq,Ae,Ah,reduceIte,Ak,Ao,Av,Aw,Ar,Aj,An,Au,Al,Ai,Nat.reduceEqDiff,reduceCtorEq, ↓reduceIte,BC,Cd,Bp,BZ,Cr,Ch,BS,By,decide_true,Bool.not_true]
 refine W.cond (v:=false) TR_ On_ (by simp[T.get_set]) (by omega) (fun h=>by cases h) fun _=> ?_
 refine Qh_.w Pm_ (by omega) ?_
 simp only[Er_,Ac,W_oS,W_on,Aa,W_mv,Ab,Ap,T.get_set,Ag,Af,As,Aq,Ae,Ah,reduceIte,Ak,Ao,Av,Aw,Ar,Aj,An,Au,Al,Ai,Nat.reduceEqDiff,reduceCtorEq, ↓reduceIte]
 refine W.end' (rs:=[2,3]) (vs:=[.pointer (some ⟨s.next+1,0,none⟩), .int .i64 0]) SW_ (.inl Abx_) (by omega) VQ Ox_ y3.cx (by simp[T.get_set]) ?_
 refine q _ y3.cx' ?_
 have k: ∀i u,i≠2→Own s2 (s.next+1) i u→Own (s3.cxN s.cx) (s.next+1) i u:=fun i u hi h=>(h.ext x3 fun hq=>by omega).same rfl rfl
 have oM:Obj (s3.cxN s.cx) s.next (.map [] 0):=((Obj.ext (Obj.ext o1 x2 id) x3 fun hq=>by omega)).same rfl rfl
 exact⟨k 0 _ (by decide) (r2 0 _ rfl),k 1 _ (by decide) (r2 1 _ rfl),o3.same rfl rfl,k 3 _ (by decide) (r2 3 _ rfl),k 4 _ (by decide) (r2 4 _ rfl),k 5 _ (by decide) (r2 5 _ rfl),k 6 _ (by decide) (r2 6 _ rfl),fun x h1 h2=>by unfold newC;rw[if_neg (by omega),if_neg (by omega)],oM,by unfold newC;rw[if_neg (by omega),if_pos rfl],rfl,fun i hi=>absurd hi (Nat.not_lt_zero i)⟩
end
theorem MkS.lenq {E:Env}{s s':St}{t z sz n:Nat}{l:List Value}{v:Value}{b:Nat}(h:MkS s sz n l v b)(ht:slN E t=some z)(Q:Value→St→Prop):W (A9 E .len [t] [v]) s' Q=Q (.int .i64 (n:Nat)) s':=h.len ht Q
section
variable {D M n:Nat}{k:DkS}{ks:List Int}{kv:Value}{col:Nat→Nat}{s:St}{a:ByteArray}{Q:Value→St→Prop}
theorem ZE_ (hb:s.lim≤s.next)(hI:DkI s col D M k)(hn:100≤n)(q: ∀s1,Ext Any Non s s1→Q (.bool (!k.out)) s1):W (Ay envS (runF envS n) 28 [.pointer (some ⟨D,0,none⟩)]) s Q:=by
 have hb0:(s.cxN cxN).lim≤(s.cxN cxN).next:=hb
 have hI0:DkI (s.cxN cxN) col D M k:=hI.same rfl rfl
 refine Zr_ fun tm t0=> ?_
 refine Su_.w rfl (by omega) ?_
 simp only[Bc_,Ac,W_oS,W_on,Aa,W_mv,Ab,Ap,T.get_set,Ag,Af,As,Aq,Ae,Ah,reduceIte,Ak,Ao,Av,Aw,Ar,Aj,An,Au,Al,Ai,Nat.reduceEqDiff,reduceCtorEq, ↓reduceIte]
 refine Wf_.w GK_ (by omega) ?_
 simp only[XJ,Ac,W_oS,W_on,Aa,W_mv,Ab,Ap,T.get_set,Ag,Af,As,Aq,Ae,Ah,reduceIte,Ak,Ao,Av,Aw,Ar,Aj,An,Au,Al,Ai,Nat.reduceEqDiff,reduceCtorEq, ↓reduceIte,t0]
 refine NL hb0 hI0.d0 (by omega) fun s1 m1 n1 x1=> ?_
 have hI1:=hI0.same m1 n1
 simp only[Ac,W_oS,W_on,Aa,W_mv,Ab,Ap,T.get_set,Ag,Af,As,Aq,Ae,Ah,reduceIte,Ak,Ao,Av,Aw,Ar,Aj,An,Au,Al,Ai,Nat.reduceEqDiff,reduceCtorEq, ↓reduceIte,DB,Bool.not_false,Bh TD (by decide)]
 refine W.load1 DC hI1.d6.at' ?_
 have y1:=x1.thenRd hb0 (D+(0+6))
 simp only[Ac,W_oS,W_on,Aa,W_mv,Ab,Ap,T.get_set,Ag,Af,As,Aq,Ae,Ah,reduceIte,Ak,Ao,Av,Aw,Ar,Aj,An,Au,Al,Ai,Nat.reduceEqDiff,reduceCtorEq, ↓reduceIte,BC,Cd,Bp,BZ,Cr,Ch,BS,By,DB]
 refine W.end' (rs:=[2]) (vs:=[.bool (!k.out)]) Vd_ (.inl St_) (by omega) Cc_ Ut_ y1.cx (by simp[T.get_set]) ?_
 exact q _ y1.cx'
end
end Go.Proofs.YtndednnianphoaaGreatDoor.Am
end
