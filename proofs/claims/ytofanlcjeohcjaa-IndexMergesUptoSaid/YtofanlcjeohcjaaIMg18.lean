import Derived.Test.YtofanlcjeohcjaaIMg17
namespace Go.Proofs.Ytofanlcjeohcjaa.Am
open Go.RowKit
theorem AU_ {id:List Nat}(h:id.length=16)(a b:Nat):C5 (λk=>some (k*18,18)) [(0, .agg (A2 (id,a,b)).toArray)] (rep 1 (List.replicate 16 (.int .u8 0)++[.int .i64 0, .int .i64 0]))=some (A2 (id,a,b)):=by
 match id,h with
 |[x0,x1,x2,x3,x4,x5,x6,x7,x8,x9,x10,x11,x12,x13,x14,x15],_=>rfl
theorem Alc_ {A D R n at':Nat}{h:Hd}{g:Bool}{r:Int}{tm tm':T Value}{td:List Item}{s:St}{hs:List Hd}{bad size rest:Nat}{Q:Value×FrameMode->St->Prop}(hb:s.lim<=s.next)(hI:ScI A D tm .busy s hs bad size rest)(hF:ScF A R at' tm')(h16:h.1.length=16)(hR:Aa s R 0 (recC h g r))(hRD:D+2<=R)(hmany:hs.length<=10000)(hT:skim 64 td=OE)(hn:10<=n)
  (q: ∀s1,ScI A D tm .ready s1 (hs++[h]) bad size rest->Ext (ScZ A D) (ScZ A D) s s1->Q (.bool true, .run) s1):W (runF envS n ⟨24,Ez,Br,tm',td, .run, .normal,some (D+1)⟩) s Q:=by
 have sep:=hI.sep
 have hRl:(recC h g r).length=20:=MJ_ h16 g r
 have hRn:R+19<s.next:=by
  have:=(hR 19 _ (List.getElem?_eq_getElem (show 19<(recC h g r).length by omega))).1
  omega
 refine AfC_.u ?_ hT
 obtain⟨v,c1,c2⟩:=hI.c2
 simp -implicitDefEqProofs only[Va,RR,SS,hF.t2,hF.t7]
 refine aB Cn c1.at' ?_
 have hx1:Ext (ScZ A D) (ScZ A D) s (s.rdN (A+0)):=Ext.rdN s _ λ_=>⟨by omega, .inl (by omega)⟩
 have hI1:ScI A D tm .busy (s.rdN (A+0)) hs bad size rest:=hI.same rfl rfl
 have c11:Own (s.rdN (A+0)) A 0 v:=c1.same rfl rfl
 have c21:CJ (s.rdN (A+0)) D v hs:=c2.same rfl rfl
 have hR1:Aa (s.rdN (A+0)) R 0 (recC h g r):=λi v e=>(hR i v e).same rfl rfl
 have hs1:(s.rdN (A+0)).next=s.next:=rfl
 generalize s.rdN (A+0)=s1 at hx1 hI1 c11 c21 hR1 hs1
 rw[Au AbV_ (by decide)]
 have hl18:(A2 h).length=18:=E8 h16
 have hRh:Aa s1 R (0+0) (A2 h):=by
  have:=hR1.take (n:=18)
  have e:(recC h g r).take 18=A2 h:=by
   unfold recC
   rw[<-hl18,List.take_left]
  rw[e]at this
  exact this
 refine aG Kd hRh.row hl18 λs2 m2 n2 x2=> ?_
 have hx2:Ext (ScZ A D) (ScZ A D) s s2:=hx1.trans x2 hb (λx _ h=>⟨by have:=h.1;omega, .inr (by have:=h.1;omega)⟩) λ_ _ h=>h.elim
 have hI2:ScI A D tm .busy s2 hs bad size rest:=hI1.same m2 n2
 have c12:Own s2 A 0 v:=c11.same m2 n2
 have c22:CJ s2 D v hs:=c21.same m2 n2
 have hb2:s2.lim<=s2.next:=hx2.bnd hb
 have n2':s2.next=s.next:=n2.trans hs1
 obtain⟨id,ha,hz⟩:=h
 refine aK hb2 (r:=A2 (id,ha,hz)) Ho (by decide) (AU_ h16 ha hz) (Az (by decide)) λs3 n3 x3 o3=> ?_
 have n3':s3.next=s.next+19:=by rw[n3,hl18,n2']
 have hx3:Ext (ScZ A D) (ScZ A D) s s3:=hx2.trans x3 hb (λ_ _ h=>h.elim) λ_ _ h=>h.elim
 have hI3:ScI A D tm .busy s3 hs bad size rest:=hI2.ext0 x3
 have c13:Own s3 A 0 v:=c12.ext0 x3
 have c23:CJ s3 D v hs:=c22.ext x3 λ_ _ _ h=>h
 have hb3:s3.lim<=s3.next:=hx3.bnd hb
 simp -implicitDefEqProofs only[CC]
 have hsrc:SrcG s3 18 32 false (List.replicate 16 (.int .u8 0)++[.int .i64 0, .int .i64 0]) (.slice (some ⟨s2.next,0,none⟩) 1 1) 1 (A2 (id,ha,hz)) (In s2.next 0 (1*18)):=(Ej o3.row (by rw[hl18])).g
 have hDs:D+2<=s.next:=by have:=hI.lo.1;omega
 have fin: ∀(s4:St) (v2:Value) (b2:Nat) (n':Nat) (td':List Item) (tm9:T Value),Fresh1 s3 s4 18 (hs.length+1) (AV hs++A2 (id,ha,hz)) v2 b2->Ext (ScZ A D) (ScZ A D) s s4->(∀b o u,b+o<D+2->Own s3 b o u->Own s4 b o u)->(∀l o,l<D+2->Obj s3 l o->Obj s4 l o)->2<=n'->skim 64 td'=Hx->
   W (Ao envS 36 (.pointer (some ⟨A,0,none⟩)) v2) s4 λ_ s5=>W (runF envS n' ⟨24,Ez,Br,tm9,td', .run, .normal,some (D+1)⟩) s5 Q:=λs4 v2 b2 n' td' tm9 hf x4 own obj hn' hT'=>by
  have hb4:s4.lim<=s4.next:=x4.bnd hb
  have hv2:oneCell v2=true:=by rw[hf.val];rfl
  refine aL Cn hv2 (own _ _ _ (by omega) c13) λs5 n5 x5 o5=> ?_
  have own5: ∀b o u,b+o<D+2->b+o≠A->Own s3 b o u->Own s5 b o u:=λb o u h1 h2 hu=>(own b o u h1 hu).ext x5 λh=>h2 (In1.1 h)
  have hI5:ScI A D tm .busy s5 (hs++[(id,ha,hz)]) bad size rest:=by
   refine⟨(obj _ _ (by omega) hI3.lo).ext x5 λh=>by have:=In1.1 h;omega,(obj _ _ (by omega) hI3.de).ext x5 λh=>by have:=In1.1 h;omega, ?_,own5 _ _ _ (by omega) (by omega) hI3.c3,own5 _ _ _ (by omega) (by omega) hI3.c4,own5 _ _ _ (by omega) (by omega) hI3.c5, ?_,sep⟩
   ·refine⟨v2,o5, .inr ⟨b2,by have:=hf.new;omega, ?_,by simp⟩⟩
    rw[List.length_append,MM]
    exact hf.marked.ext x5 λx hx h=>by
     have h1:=In1.1 h
     have h2:=hx.1
     have h3:=hf.new
     omega
   ·intro y hy
    rcases List.mem_append.1 hy with hy|hy
    ·exact hI.all16 y hy
    ·rw[List.mem_singleton.1 hy];exact h16
  have hx5:Ext (ScZ A D) (ScZ A D) s s5:=x4.trans x5 hb (λx _ h=>⟨by have:=In1.1 h;omega, .inl (by have:=In1.1 h;omega)⟩) λx _ h=>⟨by have:=In1.1 h;omega, .inl (by have:=In1.1 h;omega)⟩
  refine NO hI5 hT' (by omega) λs6 hI6 x6 _=> ?_
  exact q s6 hI6 (hx5.trans x6 hb (λ_ _ h=>h) λ_ _ h=>h)
 rcases c23 with⟨rfl,rfl⟩|⟨b,g1,g2,g3⟩
 ·refine W.appNil hb3 Gk hsrc (by decide) (by decide) (by decide) (by decide) (by rw[hl18]) (JV _) λs4 v2 b2 hf x4=> ?_
  refine fin s4 v2 b2 _ _ _ hf ?_ ?_ ?_ (by omega) Xi
  ·exact hx3.trans x4 hb (λx _ h=>⟨by have:=h.1;omega, .inr (by have:=h.1;omega)⟩) λ_ _ h=>h.elim
  ·exact λb o u _ hu=>hu.ext0 x4
  ·exact λl o _ ho=>ho.ext x4 λh=>h
 ·have hpos:0<hs.length:=by
   cases hs with
   |nil=>exact absurd rfl g3
   |cons _ _=>simp
  refine W.appMark hb3 Gk g2 hsrc (by decide) hpos (by decide) (by decide) (by omega) (by rw[hl18]) (JV _) λs4 v2 b2 hf x4=> ?_
  have hG: ∀x,In b 0 (hs.length*18+1) x->D+2<=x:=λx h=>by have:=h.1;omega
  refine fin s4 v2 b2 _ _ _ hf ?_ ?_ ?_ (by omega) Xi
  ·refine hx3.trans x4 hb (λx _ h=> ?_) λx _ h=> ?_
   ·rcases h with h|h
    ·exact⟨by have:=h.1;omega, .inr (by have:=h.1;omega)⟩
    ·have:=hG x h
     exact⟨by omega, .inr (by omega)⟩
   ·have:=hG x h
    exact⟨by omega, .inr (by omega)⟩
  ·exact λb o u h1 hu=>hu.ext x4 λh=>by have:=hG _ h;omega
  ·exact λl o h1 ho=>ho.ext x4 λh=>by have:=hG _ h;omega
def ED (hs:List Hd)(bad size rest:Nat)(at':Nat)(h:Hd)(g:Bool)(r:Int):List Hd×Nat×Nat×Nat:=
 if 0<=r then(hs,bad,at',r.toNat)else if g then(hs++[h],bad,size,rest)else(hs,bad+1,size,rest)
theorem Jd_ {A D n at':Nat}{h:Hd}{g:Bool}{r:Int}{tm:T Value}{s:St}{hs:List Hd}{bad size rest:Nat}{Q:Value->St->Prop}(hb:s.lim<=s.next)(hI:ScI A D tm .ready s hs bad size rest)(h2:T.get tm 2=some (.pointer (some ⟨A,0,none⟩)))(h3:T.get tm 3=some (.pointer (some ⟨A+2,0,none⟩)))(h4:T.get tm 4=some (.pointer (some ⟨A+4,0,none⟩)))(h5:T.get tm 5=some (.pointer (some ⟨A+6,0,none⟩)))
  (h16:h.1.length=16) (hmany:hs.length<=10000) (hbad:bad<=1000000) (hr1: -10<=r) (hr2:r<=10) (hn:60<=n)
  (q: ∀s1,ScI A D tm .ready s1 (ED hs bad size rest at' h g r).1 (ED hs bad size rest at' h g r).2.1 (ED hs bad size rest at' h g r).2.2.1 (ED hs bad size rest at' h g r).2.2.2->Ext (ScZ A D) (ScZ A D) s s1->Q (.bool true) s1):
  W (By (runF envS n) (D+1) [.int .i64 (at':Nat), .agg (recC h g r).toArray]) s Q:=by
 have sep:=hI.sep
 refine W.round hI.lo rfl (by rfl) ?_
 rw[AgG_]
 have hx0:Ext (ScZ A D) (ScZ A D) s (s.rdN (D+1)):=Ext.rdN s _ λ_=>⟨by omega, .inr (by omega)⟩
 refine NY_.u ?_ AeN_
 simp -implicitDefEqProofs only[Tn,RR,SS,Nat.reduceEqDiff, ↓reduceIte]
 refine Ajc_.u ?_
 simp -implicitDefEqProofs only[IL_,RR,SS,Nat.reduceEqDiff, ↓reduceIte]
 refine W.alloc AeS_ λs2 n2 x2 o2=> ?_
 have hI0:ScI A D tm .ready ((s.rdN (D+1)).cxN cxR) hs bad size rest:=hI.same rfl rfl
 have hn0:((s.rdN (D+1)).cxN cxR).next=s.next:=rfl
 have hx0':Ext (ScZ A D) (ScZ A D) (s.cxN cxR) ((s.rdN (D+1)).cxN cxR):=Ext.rdN (s.cxN cxR) _ λ_=>⟨by omega, .inr (by omega)⟩
 generalize (s.rdN (D+1)).cxN cxR=s1 at *
 have hb0:(s.cxN cxR).lim<=(s.cxN cxR).next:=hb
 have hx2:Ext (ScZ A D) (ScZ A D) (s.cxN cxR) s2:=hx0'.trans x2 hb0 (λ_ _ h=>h.elim) λ_ _ h=>h.elim
 have hb2:s2.lim<=s2.next:=hx2.bnd hb0
 have hI2:=hI0.ext0 x2
 have hD:D+2<=s.next:=by have:=hI.lo.1;omega
 rw[hn0]at o2 n2
 rw[hn0]
 refine W.store Ain_ (MJ_ h16 g r) (QV_ h g r) (λi hi=>(Aa.owned o2) i (by simpa using hi)) λs3 n3 x3 o3=> ?_
 have hG: ∀x,In s.next 0 20 x->s.next<=x:=λx h=>by have:=h.1;omega
 have hx3:Ext (ScZ A D) (ScZ A D) (s.cxN cxR) s3:=hx2.trans x3 hb0 (λx _ h=>⟨by have:=hG x h;omega, .inr (by have:=hG x h;omega)⟩) λx _ h=>⟨by have:=hG x h;omega, .inr (by have:=hG x h;omega)⟩
 have hlt: ∀(b o:Nat) (u:Value),b+o<s.next->Own s2 b o u->Own s3 b o u:=λb o u h1 hu=>hu.ext x3 λh=>by have:=hG _ h;omega
 have hI3:ScI A D tm .ready s3 hs bad size rest:=by
  obtain⟨v,c1,c2⟩:=hI0.c2
  refine⟨hI2.lo.ext x3 λh=>by have:=hG _ h;omega,hI2.de.ext x3 λh=>by have:=hG _ h;omega,⟨v,hlt _ _ _ (by omega) (c1.ext0 x2), ?_⟩,hlt _ _ _ (by omega) hI2.c3,hlt _ _ _ (by omega) hI2.c4,hlt _ _ _ (by omega) hI2.c5,hI.all16,sep⟩
  rcases c2 with c2|⟨b,g1,g2,g3⟩
  ·exact .inl c2
  ·refine .inr ⟨b,g1,(g2.ext x2 λ_ _ h=>h).ext x3 λx hx h=> ?_,g3⟩
   have e1:=hG x h
   have e2:=g2.lt
   have e3:x<b+0+(hs.length*18+1):=hx.2
   omega
 refine W.begR (k:=Kw.tail) (rfl.trans SY_) hI3.lo (by omega) ?_
 have hI4:ScI A D tm .busy _ hs bad size rest:=hI3.turn (st':= .busy)
 have x4:=OC (A:=A) (D:=D) (s:=s3) (.O (CU tm .busy D)) sep
 have o4:Aa ((s3.rdN (D+1)).wrN (D+1) (.O (CU tm .busy D))) s.next 0 (recC h g r):=λi v e=>by
  have:=o3 i v e
  refine⟨this.1, ?_⟩
  show T.get (T.set s3.mem (D+1) _) _=_
  rw[T.get_set,if_neg (by omega)]
  exact this.2
 have hx4:Ext (ScZ A D) (ScZ A D) (s.cxN cxR) ((s3.rdN (D+1)).wrN (D+1) (.O (CU tm .busy D))):=hx3.trans x4 hb0 (λ_ _ h=>h) λ_ _ h=>h
 show W (runF envS _ _) ((s3.rdN (D+1)).wrN (D+1) (.O (CU tm .busy D))) _
 generalize (s3.rdN (D+1)).wrN (D+1) (.O (CU tm .busy D))=s4 at *
 refine QU_.u ?_
 simp -implicitDefEqProofs only[Hi_,RR,SS, ↓reduceIte,Au Mm_ (by decide:0<1)]
 have hr19:Own s4 s.next (0+19) (.int .i64 r):=o4 19 _ (Qh h16 g r).2
 refine aB AT hr19.at' ?_
 simp -implicitDefEqProofs only[Gv]
 have hR5:s.next+20<=s4.next:=by have:=hr19.1;omega
 have hx5:Ext (ScZ A D) (ScZ A D) (s.cxN cxR) (s4.rdN (s.next+(0+19))):=hx4.trans (Ext.rdN (F:=ScZ A D) (G:=ScZ A D) s4 _ λ_=>⟨by omega, .inr (by omega)⟩) hb0 (λ_ _ h=>h) λ_ _ h=>h
 have hI5:ScI A D tm .busy (s4.rdN (s.next+(0+19))) hs bad size rest:=hI4.same rfl rfl
 have o5:Aa (s4.rdN (s.next+(0+19))) s.next 0 (recC h g r):=λi v e=>(o4 i v e).same rfl rfl
 generalize s4.rdN (s.next+(0+19))=s5 at *
 have hb5:s5.lim<=s5.next:=hx5.bnd hb0
 have ends: ∀s6,Ext (ScZ A D) (ScZ A D) s5 s6->Ext (ScZ A D) (ScZ A D) s (s6.cxN s.cx):=λs6 x6=>(hx5.trans x6 hb0 (λ_ _ h=>h) λ_ _ h=>h).cx'
 unfold ED at q
 by_cases hr:0<=r
 ·rw[if_pos hr]at q
  refine aI AX_ ?_ rfl (by simp[T.get_set,hr])
  obtain⟨m,rfl⟩: ∃m:Nat,r=(m:Int):=⟨r.toNat,by omega⟩
  refine YZ_ (R:=s.next) (at':=at') (h:=h) (g:=g) (r:=m) hb5 hI5 ⟨by simp[T.get_set,h2],by simp[T.get_set,h3],by simp[T.get_set,h4],by simp[T.get_set,h5],by simp[T.get_set],by simp[T.get_set]⟩ h16 o5 hD rfl (by omega) λs6 hI6 x6=> ?_
  exact q _ (hI6.same rfl rfl) (ends s6 x6)
 ·rw[if_neg hr]at q
  refine aH AX_ ?_
  refine ZG_.u ?_
  simp -implicitDefEqProofs only[Dn_,RR,SS,Nat.reduceEqDiff, ↓reduceIte,Au Wo_ (by decide:0<1)]
  have hr18:Own s5 s.next (0+18) (.bool g):=o5 18 _ (Qh h16 g r).1
  refine aB WA_ hr18.at' ?_
  have hx6:Ext (ScZ A D) (ScZ A D) s5 (s5.rdN (s.next+(0+18))):=Ext.rdN (F:=ScZ A D) (G:=ScZ A D) s5 _ λ_=>⟨by omega, .inr (by omega)⟩
  have hI6:ScI A D tm .busy (s5.rdN (s.next+(0+18))) hs bad size rest:=hI5.same rfl rfl
  have o6:Aa (s5.rdN (s.next+(0+18))) s.next 0 (recC h g r):=λi v e=>(o5 i v e).same rfl rfl
  have hb6:(s5.rdN (s.next+(0+18))).lim<=(s5.rdN (s.next+(0+18))).next:=hb5
  generalize s5.rdN (s.next+(0+18))=s6 at *
  cases g with
  |true=>
   rw[if_pos rfl]at q
   refine aI XG ?_
   refine Alc_ (R:=s.next) (at':=at') (h:=h) (g:=true) (r:=r) hb6 hI6 ⟨by simp[T.get_set,h2],by simp[T.get_set,h3],by simp[T.get_set,h4],by simp[T.get_set,h5],by simp[T.get_set],by simp[T.get_set]⟩ h16 o6 hD hmany rfl (by omega) λs7 hI7 x7=> ?_
   exact q _ (hI7.same rfl rfl) (ends s7 (hx6.trans x7 hb5 (λ_ _ h=>h) λ_ _ h=>h))
  |false=>
   rw[if_neg (by decide)]at q
   refine aH XG ?_
   refine XJ_ (R:=s.next) (at':=at') hb6 hI6 ⟨by simp[T.get_set,h2],by simp[T.get_set,h3],by simp[T.get_set,h4],by simp[T.get_set,h5],by simp[T.get_set],by simp[T.get_set]⟩ hbad rfl (by omega) λs7 hI7 x7=> ?_
   exact q _ (hI7.same rfl rfl) (ends s7 (hx6.trans x7 hb5 (λ_ _ h=>h) λ_ _ h=>h))
theorem OP_:UF_=[]:=by kernel_rfl
theorem AbD_ (r:Nat):Cv envS 97 [(2, .int .i64 (r:Nat))]=some [.int .u8 0, .int .u8 0, .int .u8 0, .int .u8 0, .int .u8 0, .int .u8 0, .int .u8 0, .int .u8 0, .int .u8 0, .int .u8 0, .int .u8 0, .int .u8 0, .int .u8 0, .int .u8 0, .int .u8 0, .int .u8 0, .int .i64 0, .int .i64 0, .bool false, .int .i64 (r:Nat)]:=by kernel_rfl
abbrev IV:List Nat:=List.replicate 16 0
theorem Agt_ (r:Nat):recC (IV,0,0) false (r:Nat)=[.int .u8 0, .int .u8 0, .int .u8 0, .int .u8 0, .int .u8 0, .int .u8 0, .int .u8 0, .int .u8 0, .int .u8 0, .int .u8 0, .int .u8 0, .int .u8 0, .int .u8 0, .int .u8 0, .int .u8 0, .int .u8 0, .int .i64 0, .int .i64 0, .bool false, .int .i64 (r:Nat)]:=rfl
theorem UH_ (x0 x1 x2 x3 x4 x5 x6 x7 x8 x9 x10 x11 x12 x13 x14 x15 a b:Nat):Cv envS 35 [(0, .agg #[u8 x0,u8 x1,u8 x2,u8 x3,u8 x4,u8 x5,u8 x6,u8 x7,u8 x8,u8 x9,u8 x10,u8 x11,u8 x12,u8 x13,u8 x14,u8 x15]),(1, .int .i64 (a:Nat)),(2, .int .i64 (b:Nat))]=some [u8 x0,u8 x1,u8 x2,u8 x3,u8 x4,u8 x5,u8 x6,u8 x7,u8 x8,u8 x9,u8 x10,u8 x11,u8 x12,u8 x13,u8 x14,u8 x15, .int .i64 (a:Nat), .int .i64 (b:Nat)]:=by kernel_rfl
theorem AkL_ (x0 x1 x2 x3 x4 x5 x6 x7 x8 x9 x10 x11 x12 x13 x14 x15 a b:Nat)(g:Bool):Cv envS 97 [(0, .agg #[u8 x0,u8 x1,u8 x2,u8 x3,u8 x4,u8 x5,u8 x6,u8 x7,u8 x8,u8 x9,u8 x10,u8 x11,u8 x12,u8 x13,u8 x14,u8 x15, .int .i64 (a:Nat), .int .i64 (b:Nat)]),(1, .bool g),(2, .int .i64 (-1))]=some [u8 x0,u8 x1,u8 x2,u8 x3,u8 x4,u8 x5,u8 x6,u8 x7,u8 x8,u8 x9,u8 x10,u8 x11,u8 x12,u8 x13,u8 x14,u8 x15, .int .i64 (a:Nat), .int .i64 (b:Nat), .bool g, .int .i64 (-1)]:=by kernel_rfl
theorem DG_ {id:List Nat}(h:id.length=16)(a b:Nat):Cv envS 35 [(0, .agg (u8l id).toArray),(1, .int .i64 (a:Nat)),(2, .int .i64 (b:Nat))]=some (A2 (id,a,b)):=by
 match id,h with
 |[x0,x1,x2,x3,x4,x5,x6,x7,x8,x9,x10,x11,x12,x13,x14,x15],_=>exact UH_ x0 x1 x2 x3 x4 x5 x6 x7 x8 x9 x10 x11 x12 x13 x14 x15 a b
theorem AhY_ {id:List Nat}(h:id.length=16)(a b:Nat)(g:Bool):Cv envS 97 [(0, .agg (A2 (id,a,b)).toArray),(1, .bool g),(2, .int .i64 (-1))]=some (recC (id,a,b) g (-1)):=by
 match id,h with
 |[x0,x1,x2,x3,x4,x5,x6,x7,x8,x9,x10,x11,x12,x13,x14,x15],_=>exact AkL_ x0 x1 x2 x3 x4 x5 x6 x7 x8 x9 x10 x11 x12 x13 x14 x15 a b g
abbrev LF (A:Nat)(v:Value):Nat->Prop:=λx=>BsF v x\/A<=x
structure ScT (A:Nat)(tm:T Value):Prop where
 t2:T.get tm 2=some (.pointer (some ⟨A,0,none⟩))
 t3:T.get tm 3=some (.pointer (some ⟨A+2,0,none⟩))
 t4:T.get tm 4=some (.pointer (some ⟨A+4,0,none⟩))
 t5:T.get tm 5=some (.pointer (some ⟨A+6,0,none⟩))
theorem J4 {A D n k r:Nat}{v:Value}{tm tmS:T Value}{td:List Item}{s s0:St}{hs:List Hd}{bad:Nat}{Q:Value->St->Prop}(hb:s.lim<=s.next)(hcx:s.cx=cxN)(hI:ScI A D tmS .ready s hs bad 0 0)(hS:ScT A tmS)(h0:T.get tm 0=some (.func (.yield (D+1)) #[] #[]))(h3:T.get tm 3=some (.int .i64 (k:Nat)))(h6:T.get tm 6=some (.int .i64 (r:Nat)))(hr:r<=2)
  (hmany:hs.length<=10000) (hbad:bad<=1000000) (hT:skim 64 td=Ie) (hn:100<=n)
  (q: ∀s1,ScI A D tmS .ready s1 hs bad k r->Ext (LF A v) (ScZ A D) s s1->Q (.tuple #[]) (s1.cxN s0.cx)):W (runF envS n ⟨109,DT,Bz,tm,td, .run, .normal,none⟩) s λp s1=>Q p.1 (s1.cxN s0.cx):=by
 refine Xu_.u ?_ hT
 simp -implicitDefEqProofs only[UC,RR,SS,h0,h3,h6,CA (AbD_ r)]
 rw[<-Agt_ r]
 refine W.yield (Jd_ hb hI hS.t2 hS.t3 hS.t4 hS.t5 rfl hmany hbad (by omega) (by omega) (by omega) λs1 hI1 x1=> ?_)
 have hsn:ED hs bad 0 0 k (IV,0,0) false (r:Nat)=(hs,bad,k,r):=by
  unfold ED
  rw[if_pos (by omega)]
  rfl
 rw[hsn]at hI1
 refine aF (rs:=[]) (vs:=[]) rfl (.inr OP_) (by omega) BR_ SV_ (x1.cx.trans hcx) rfl ?_
 exact q s1 hI1 (x1.weak hb (λx _ h=> .inr h.1) λ_ _ h=>h)
theorem ZI_ {A D C7 n k m:Nat}{v:Value}{g:Bool}{id:List Nat}{tm tmS:T Value}{td:List Item}{s:St}{hs:List Hd}{bad:Nat}{Q:Value×FrameMode->St->Prop}(hb:s.lim<=s.next)(hI:ScI A D tmS .ready s hs bad 0 0)(hS:ScT A tmS)(h0:T.get tm 0=some (.func (.yield (D+1)) #[] #[]))(h1:T.get tm 1=some v)(h3:T.get tm 3=some (.int .i64 (k:Nat)))(h4:T.get tm 4=some (.int .i64 (m:Nat)))(h7:T.get tm 7=some (.pointer (some ⟨C7,0,none⟩)))(h9:T.get tm 9=some (.bool g))
  (h16:id.length=16) (ho7:Aa s C7 0 (u8l id)) (hC7:A<=C7) (hm1:1<=m) (hm2:m<=1024) (hk:k<=1000000) (hmany:hs.length<=10000) (hbad:bad<=1000000) (hT:skim 64 td=Qa) (hn:200<=n)
  (q: ∀n' s1 tm' td',n<=n'+10->skim 64 td'=Gc->ScI A D tmS .ready s1 (if g then hs++[(id,k,m)]else hs) (if g then bad else bad+1) 0 0->Ext (λx=>A<=x) (ScZ A D) s s1->T.get tm' 0=some (.func (.yield (D+1)) #[] #[])->T.get tm' 1=some v->T.get tm' 3=some (.int .i64 (k+26+m:Nat))->W (runF envS n' ⟨109,DT,Bz,tm',td', .run, .normal,none⟩) s1 Q):
  W (runF envS n ⟨109,DT,Bz,tm,td, .run, .normal,none⟩) s Q:=by
 refine Wn_.u ?_ hT
 have hIl:(u8l id).length=16:=by rw[Av];exact h16
 simp -implicitDefEqProofs only[Jw_,RR,SS,h0,h3,h4,h7,h9]
 refine aG BB ho7.row hIl λs1 m1 n1 x1=> ?_
 have hb1:s1.lim<=s1.next:=x1.bnd hb
 have hI1:ScI A D tmS .ready s1 hs bad 0 0:=hI.same m1 n1
 have hx1:Ext (λx=>A<=x) (ScZ A D) s s1:=x1.weak hb (λx _ h=>by have:=h.1;omega) λ_ _ h=>h.elim
 rw[CA (DG_ h16 k m)]
 rw[CA (AhY_ h16 k m g)]
 refine W.yield (Jd_ hb1 hI1 hS.t2 hS.t3 hS.t4 hS.t5 h16 hmany hbad (by omega) (by omega) (by omega) λs2 hI2 x2=> ?_)
 have hsn:ED hs bad 0 0 k (id,k,m) g (-1)=(if g then hs++[(id,k,m)]else hs,if g then bad else bad+1,0,0):=by
  unfold ED
  rw[if_neg (by omega)]
  cases g<;>rfl
 rw[hsn]at hI2
 have hx2:Ext (λx=>A<=x) (ScZ A D) s s2:=hx1.trans x2 hb (λx _ h=>h.1) λ_ _ h=>h
 simp -implicitDefEqProofs only[D5,Bool.not_true]
 refine aH AiN_ ?_
 refine Zw_.u ?_
 simp -implicitDefEqProofs only[Dx_,RR,SS,Nat.reduceEqDiff, ↓reduceIte,h3,h4]
 refine JN _ (by omega) ?_
 rw[Im hm1 hm2]
 have e1:wrap64 (((k:Nat):Int)+((m+26:Nat):Int))=((k+26+m:Nat):Int):=by
  rw[Ax (by omega) (by omega)];omega
 simp -implicitDefEqProofs only[Aw,e1]
 exact q _ s2 _ _ (by omega) Aio_ hI2 hx2 (by simp[T.get_set,h0]) (by simp[T.get_set,h1]) (by simp[T.get_set])
theorem AkH_ {B n k N:Nat}{is:Bool}{v:Value}{l:List Nat}{tm:T Value}{td:List Item}{s:St}{Q:Value×FrameMode->St->Prop}(hB:Own s B 0 v)(hbs:Bs s v l)(hz:l.length<=900000)(hk:k<=l.length)(hN:is=true->1<=N/\N<=1024)(h1:T.get tm 1=some (.pointer (some ⟨B,0,none⟩)))(h3:T.get tm 3=some (.int .i64 (k:Nat)))(h4:T.get tm 4=some (.int .i64 (N:Nat)))(h5:T.get tm 5=some (.bool is))(hT:skim 64 td=JF)(hn:60<=n)
  (q: ∀n' s1 tm' td',n<=n'+2->skim 64 td'=H8->s1.mem=s.mem->s1.next=s.next->Ext (λx=>x=B) Non s s1->(∀j,j≠21->T.get tm' j=T.get tm j)->T.get tm' 21=some (.bool (is&&decide (l.length<k+26+N)))->W (runF envS n' ⟨109,DT,Bz,tm',td', .run, .normal,none⟩) s1 Q):
  W (runF envS n ⟨109,DT,Bz,tm,td, .run, .normal,none⟩) s Q:=by
 refine Xl_.u ?_ hT
 cases is with
 |false=>
  simp -implicitDefEqProofs only[Qv,RR,h1,h3,h4,h5,AJ,Cw,B5,B8,BU,DW,Ag,Cs,El,Fj,if_f]
  rw[W_dq λs Q=>CO (s:=s) _ _ _ _]
  simp -implicitDefEqProofs only[Bool.false_eq_true,reduceIte,AK]
  refine⟨CI (by simp) (by simp), ?_⟩
  refine aJ (Fb_ _ _ _ _ _ _ _ _ _ _ _ _ _ _ _) ?_
  simp -implicitDefEqProofs only[SS]
  refine q _ _ _ _ (by omega) FZ_ rfl rfl (aP (Nat.le_refl _) (λ_ _ _=>rfl) (by simp) (by simp)) (λj hj=>by rw[T.get_set,if_neg hj]) (by rw[T.get_set,if_pos rfl];rfl)
 |true=>
  obtain⟨g1,g2⟩:=hN rfl
  simp -implicitDefEqProofs only[Qv,RR,h1,h3,h4,h5,AJ,Cw,B5,B8,BU,DW,Ag,Cs,El,Ha,if_t]
  have hB':Own (dSt s.mem s.next) B 0 v:=hB.same rfl rfl
  have hb': ∀s',s'.mem=s.mem->s'.next=s.next->Bs s' v l:=λs' e1 e2=>hbs.same e1 e2
  refine aC BW hB'.at' λrd1 hr1=> ?_
  obtain⟨p,c,rfl⟩:=hbs.sl
  rw[W_dq λs Q=>AP (s:=s) Al Q]
  have e1:wrap64 (((l.length:Nat):Int)-((k:Nat):Int))=((l.length-k:Nat):Int):=by
   rw[Ax (by omega) (by omega)];omega
  simp -implicitDefEqProofs only[Ag]
  rw[W_dq λs Q=>Cq (s:=s) _ _,e1]
  simp -implicitDefEqProofs only[Ag]
  refine bA (JN _ (by omega) ⟨rfl, ?_⟩)
  rw[Im g1 g2,W_dq λs Q=>Ak (s:=s) _ _]
  have e2:decide (((l.length-k:Nat):Int)<((N+26:Nat):Int))=decide (l.length<k+26+N):=by
   rw[decide_eq_decide];omega
  rw[e2,W_dq λs Q=>CO (s:=s) _ _ _ _]
  simp -implicitDefEqProofs only[reduceIte,AK]
  have hBn:B+0<s.next:=hB.1
  refine⟨SU (by simp) (by
   simp -implicitDefEqProofs only[List.reverse_cons,List.reverse_nil,List.nil_append,List.cons_append,List.mem_cons,List.not_mem_nil,or_false]
   rintro m (rfl|rfl|rfl|rfl|rfl|rfl|rfl|rfl|rfl|rfl)<;>refine⟨rfl,λx hx=> ?_⟩<;>first|(cases hx;done)|(have:=hr1 _ hx;omega)), ?_⟩
  refine aJ (Fb_ _ _ _ _ _ _ _ _ _ _ _ _ _ _ _) ?_
  simp -implicitDefEqProofs only[SS]
  refine q _ _ _ _ (by omega) FZ_ rfl rfl (aP (Nat.le_refl _) (λ_ _ _=>rfl) ?_ ?_) (λj hj=>by rw[T.get_set,if_neg hj]) (by rw[T.get_set,if_pos rfl];rfl)
  ·simp -implicitDefEqProofs only[List.mem_cons,List.not_mem_nil,or_false]
   rintro m (rfl|rfl|rfl|rfl|rfl|rfl|rfl|rfl|rfl|rfl) x hx _<;>cases hx
  ·simp -implicitDefEqProofs only[List.mem_cons,List.not_mem_nil,or_false]
   rintro m (rfl|rfl|rfl|rfl|rfl|rfl|rfl|rfl|rfl|rfl) x hx _<;>first|(cases hx;done)|(have:=hr1 _ hx;omega)
def Bu (l:List Nat)(k n:Nat):List Nat:=if GOk (Cc l k n)then A9 l k n else IV
def Bt (l:List Nat)(k n:Nat):Bool:=decide (GOk (Cc l k n))&&decide (idB (BM l k n)=A9 l k n)
theorem Ix {l:List Nat}{k n:Nat}(h:k+26+n<=l.length):(Bu l k n).length=16:=by
 unfold Bu
 split
 ·exact Iu h
 ·rfl
theorem Xa_ {A B D n k N:Nat}{v:Value}{l:List Nat}{tm tmS:T Value}{td:List Item}{s:St}{hs:List Hd}{bad:Nat}{Q:Value×FrameMode->St->Prop}(hb:s.lim<=s.next)(hI:ScI A D tmS .ready s hs bad 0 0)(hS:ScT A tmS)(hB:Own s B 0 v)(hAB:A+8<=B)(hbs:Bs s v l)(hby:Byt l)(hz:l.length<=900000)(hg1:1<=N)(hg2:N<=1024)(hlen:k+26+N<=l.length)
  (h0:T.get tm 0=some (.func (.yield (D+1)) #[] #[])) (h1:T.get tm 1=some (.pointer (some ⟨B,0,none⟩))) (h3:T.get tm 3=some (.int .i64 (k:Nat))) (h4:T.get tm 4=some (.int .i64 (N:Nat))) (hmany:hs.length<=10000) (hbad:bad<=1000000) (hT:skim 64 td=LJ) (hn:50000<=n)
  (q: ∀n' s1 tm' td',n<=n'+20->skim 64 td'=Gc->ScI A D tmS .ready s1 (if Bt l k N then hs++[(Bu l k N,k,N)]else hs) (if Bt l k N then bad else bad+1) 0 0->Ext (LF A v) (ScZ A D) s s1->T.get tm' 0=some (.func (.yield (D+1)) #[] #[])->T.get tm' 1=some (.pointer (some ⟨B,0,none⟩))->T.get tm' 3=some (.int .i64 (k+26+N:Nat))->W (runF envS n' ⟨109,DT,Bz,tm',td', .run, .normal,none⟩) s1 Q):
  W (runF envS n ⟨109,DT,Bz,tm,td, .run, .normal,none⟩) s Q:=by
 refine AbU_.u ?_ hT
 simp -implicitDefEqProofs only[JQ_,RR,SS,h1,h3,h4]
 refine aB BW hB.at' ?_
 have hx1:Ext (LF A v) (ScZ A D) s (s.rdN (B+0)):=Ext.rdN s _ λ_=> .inr (by omega)
 have hI1:ScI A D tmS .ready (s.rdN (B+0)) hs bad 0 0:=hI.same rfl rfl
 have hbs1:Bs (s.rdN (B+0)) v l:=hbs.same rfl rfl
 have hb1:(s.rdN (B+0)).lim<=(s.rdN (B+0)).next:=hb
 have hsn:(s.rdN (B+0)).next=s.next:=rfl
 generalize s.rdN (B+0)=s1 at *
 have hAs:A<=s.next:=by have h5:=hI.lo.1;have h6:=hI.sep;omega
 have rest: ∀(s2:St) (w:Value) (id:List Nat) (g:Bool),Ext (BsF v) Non s1 s2->id.length=16->id=Bu l k N->g=Bt l k N->
   W (kExt 0 (.tuple #[.agg (u8l id).toArray,w, .bool g])) s2 λv44 s3=>W (kExt 1 (.tuple #[.agg (u8l id).toArray,w, .bool g])) s3 λv45 s4=>W (kExt 2 (.tuple #[.agg (u8l id).toArray,w, .bool g])) s4 λv46 s5=>W (AI envS 26) s5 λv7 s6=>W (Ao envS 26 v7 v44) s6 λ_ s7=>W (runF envS (n-1) ⟨109,DT,Bz,T.set (T.set tm 7 v7) 9 v46,LJ.tail, .run, .normal,none⟩) s7 Q:=λs2 w id g x2 h16 hid hg=>by
  rw[AX (k:=0) rfl,AX (k:=1) rfl,AX (k:=2) rfl]
  have hx2:Ext (LF A v) (ScZ A D) s s2:=hx1.trans x2 hb (λ_ _ h=> .inl h) λ_ _ h=>h.elim
  have hIl:(u8l id).length=16:=by rw[Av];exact h16
  refine W.alloc Ei λs3 n3 x3 o3=> ?_
  have n12:s1.next<=s2.next:=x2.nxt
  have hx3:Ext (LF A v) (ScZ A D) s s3:=hx2.trans x3 hb (λ_ _ h=>h.elim) λ_ _ h=>h.elim
  refine W.store BB hIl (Bx _) (λi hi=>(Aa.owned o3) i (by simpa using hi)) λs4 n4 x4 o4=> ?_
  have hG: ∀x,In s2.next 0 16 x->s2.next<=x:=λx h=>by have:=h.1;omega
  have hI3:ScI A D tmS .ready s3 hs bad 0 0:=(hI1.ext0 x2).ext0 x3
  have hI2:ScI A D tmS .ready s2 hs bad 0 0:=hI1.ext0 x2
  have keep: ∀b o u,Own s2 b o u->Own s4 b o u:=λb o u hu=>(hu.ext0 x3).ext x4 λh=>by have:=hG _ h;have:=hu.1;omega
  have keepO: ∀l o,Obj s2 l o->Obj s4 l o:=λl o hu=>(hu.ext x3 λh=>h).ext x4 λh=>by have:=hG _ h;have:=hu.1;omega
  have hI4:ScI A D tmS .ready s4 hs bad 0 0:=by
   obtain⟨u,c1,c2⟩:=hI2.c2
   refine⟨keepO _ _ hI2.lo,keepO _ _ hI2.de,⟨u,keep _ _ _ c1, ?_⟩,keep _ _ _ hI2.c3,keep _ _ _ hI2.c4,keep _ _ _ hI2.c5,hI.all16,hI.sep⟩
   rcases c2 with c2|⟨b,p1,p2,p3⟩
   ·exact .inl c2
   ·refine .inr ⟨b,p1,(p2.ext x3 λ_ _ h=>h).ext x4 λx hx h=> ?_,p3⟩
    have e1:=hG x h
    have e2:=p2.lt
    have e3:x<b+0+(hs.length*18+1):=hx.2
    omega
  have hx4:Ext (LF A v) (ScZ A D) s s4:=hx3.trans x4 hb (λx _ h=> .inr (by have:=hG x h;omega)) λx hx h=>by have:=hG x h;omega
  have hb4:s4.lim<=s4.next:=hx4.bnd hb
  subst hid hg
  refine ZI_ (C7:=s2.next) (k:=k) (m:=N) hb4 hI4 hS (by simp[T.get_set,h0]) (by simp[T.get_set,h1];rfl) (by simp[T.get_set,h3]) (by simp[T.get_set,h4]) (by simp[T.get_set]) (by simp[T.get_set];rfl) h16 o4 (by omega) hg1 hg2 (by omega) hmany hbad rfl (by omega) λn' s5 tm' td' hn' hT' hI5 x5 h0' h1' h3'=> ?_
  exact q n' s5 tm' td' (by omega) hT' hI5 (hx4.trans x5 hb (λ_ _ h=> .inr h) λ_ _ h=>h) h0' h1' h3'
 refine Afi_ hb1 hbs1 hby hz hg1 hg2 hlen (by omega) (λhg s2 w1 x2 _ _=> ?_) λhg s2 x2=> ?_
 ·have e1:Bu l k N=A9 l k N:=if_pos hg
  have e2:Bt l k N=decide (idB (BM l k N)=A9 l k N):=by unfold Bt;rw[decide_eq_true hg,Bool.true_and]
  exact rest s2 w1 _ _ x2 (Iu hlen) e1.symm e2.symm
 ·have e1:Bu l k N=IV:=if_neg hg
  have e2:Bt l k N=false:=by unfold Bt;rw[decide_eq_false hg,Bool.false_and]
  exact rest s2 _ _ _ x2 rfl e1.symm e2.symm
def BR (l:List Nat)(k:Nat):Bool:=decide (k+6<=l.length)&&Ct l k&&decide (k+26+AE l k<=l.length)
def B6 (l:List Nat)(k:Nat):Nat:=if k=l.length then 0 else if l.length<k+6 then 1 else if Ct l k then 1 else 2
theorem YF (l:List Nat)(k:Nat):B6 l k<=2:=by
 unfold B6
 split
 ·omega
 ·split
  ·omega
  ·split<;>omega
def A4 (l:List Nat):Nat->Nat->List Hd->Nat->List Hd×Nat×Nat×Nat
 |0,k,hs,bad=>(hs,bad,k,B6 l k)
 |f+1,k,hs,bad=>if BR l k then A4 l f (k+26+AE l k) (if Bt l k (AE l k)then hs++[(Bu l k (AE l k),k,AE l k)]else hs) (if Bt l k (AE l k)then bad else bad+1)else(hs,bad,k,B6 l k)
theorem QZ {l:List Nat}{k:Nat}(h:Ct l k=true):1<=AE l k/\AE l k<=1024:=by
 unfold Ct at h
 rw[Bool.and_eq_true]at h
 exact of_decide_eq_true h.1
theorem Yc_ {A B D:Nat}{v:Value}{l:List Nat}{tmS:T Value}{s0:St}{Q:Value->St->Prop}(hAB:A+8<=B)(hBD:B<D)(hvA: ∀x,BsF v x->x<A)(hby:Byt l)(hz:l.length<=200000)(hS:ScT A tmS): ∀(f k n:Nat) (hs:List Hd) (bad:Nat) (tm:T Value) (td:List Item) (s:St),k<=l.length->l.length<=k+f->27*(hs.length+bad)<=k->60000+60*f<=n->skim 64 td=Gc->
  s.lim<=s.next->s.cx=cxN->ScI A D tmS .ready s hs bad 0 0->Own s B 0 v->Bs s v l->T.get tm 0=some (.func (.yield (D+1)) #[] #[])->T.get tm 1=some (.pointer (some ⟨B,0,none⟩))->T.get tm 3=some (.int .i64 (k:Nat))->
  (∀s1,ScI A D tmS .ready s1 (A4 l f k hs bad).1 (A4 l f k hs bad).2.1 (A4 l f k hs bad).2.2.1 (A4 l f k hs bad).2.2.2->Ext (LF A v) (ScZ A D) s s1->Q (.tuple #[]) (s1.cxN s0.cx))->
  W (runF envS n ⟨109,DT,Bz,tm,td, .run, .normal,none⟩) s λp s1=>Q p.1 (s1.cxN s0.cx):=by
 intro f
 induction f with
 |zero=>
  intro k n hs bad tm td s hk hf hcnt hn hT hb hcx hI hB hbs h0 h1 h3 q
  have hkl:k=l.length:=by omega
  refine ZU.u ?_ hT
  simp -implicitDefEqProofs only[RH,RR,SS,h1,h3]
  refine aB BW hB.at' ?_
  have hx1:Ext (LF A v) (ScZ A D) s (s.rdN (B+0)):=Ext.rdN s _ λ_=> .inr (by omega)
  have hI1:ScI A D tmS .ready (s.rdN (B+0)) hs bad 0 0:=hI.same rfl rfl
  have hB1:Own (s.rdN (B+0)) B 0 v:=hB.same rfl rfl
  have hbs1:Bs (s.rdN (B+0)) v l:=hbs.same rfl rfl
  have hb1:(s.rdN (B+0)).lim<=(s.rdN (B+0)).next:=hb
  generalize s.rdN (B+0)=s1 at *
  refine UI hb1 hbs1 hby (by omega) (by omega) λs2 x2=> ?_
  rw[AX (k:=0) rfl,AX (k:=1) rfl]
  have hx2:Ext (LF A v) (ScZ A D) s s2:=hx1.trans x2 hb (λ_ _ h=> .inl h) λ_ _ h=>h.elim
  have hI2:=hI1.ext0 x2
  have hB2:=hB1.ext0 x2
  have hbs2:=hbs1.ext0 x2
  refine Td.u ?_
  simp -implicitDefEqProofs only[O1,RR,SS]
  refine Tx.u ?_
  simp -implicitDefEqProofs only[N5,RR,SS,Nat.reduceEqDiff, ↓reduceIte,h1,h3]
  refine aB BW hB2.at' ?_
  have hx3:Ext (LF A v) (ScZ A D) s (s2.rdN (B+0)):=hx2.trans (Ext.rdN (F:=LF A v) (G:=ScZ A D) s2 _ λ_=> .inr (by omega)) hb (λ_ _ h=>h) λ_ _ h=>h
  have hI3:ScI A D tmS .ready (s2.rdN (B+0)) hs bad 0 0:=hI2.same rfl rfl
  have hbs3:Bs (s2.rdN (B+0)) v l:=hbs2.same rfl rfl
  generalize s2.rdN (B+0)=s3 at *
  simp -implicitDefEqProofs only[Di,hbs3.len Al]
  refine aI Ol ?_ rfl (by simp[T.get_set,hkl])
  refine SP.u ?_
  simp -implicitDefEqProofs only[Nm,RR,SS]
  refine J4 (k:=k) (r:=0) (v:=v) (hx3.bnd hb) (hx3.cx.trans hcx) hI3 hS (by simp[T.get_set,h0]) (by simp[T.get_set,h3]) (by simp[T.get_set]) (by omega) (by omega) (by omega) rfl (by omega) λs4 hI4 x4=> ?_
  have e:A4 l 0 k hs bad=(hs,bad,k,0):=by
   unfold A4 B6
   rw[if_pos hkl]
  rw[e]at q
  exact q s4 hI4 (hx3.trans x4 hb (λ_ _ h=>h) λ_ _ h=>h)
 |succ f ih=>
  intro k n hs bad tm td s hk hf hcnt hn hT hb hcx hI hB hbs h0 h1 h3 q
  refine ZU.u ?_ hT
  simp -implicitDefEqProofs only[RH,RR,SS,h1,h3]
  refine aB BW hB.at' ?_
  have hx1:Ext (LF A v) (ScZ A D) s (s.rdN (B+0)):=Ext.rdN s _ λ_=> .inr (by omega)
  have hI1:ScI A D tmS .ready (s.rdN (B+0)) hs bad 0 0:=hI.same rfl rfl
  have hB1:Own (s.rdN (B+0)) B 0 v:=hB.same rfl rfl
  have hbs1:Bs (s.rdN (B+0)) v l:=hbs.same rfl rfl
  have hb1:(s.rdN (B+0)).lim<=(s.rdN (B+0)).next:=hb
  generalize s.rdN (B+0)=s1 at *
  refine UI hb1 hbs1 hby (by omega) (by omega) λs2 x2=> ?_
  rw[AX (k:=0) rfl,AX (k:=1) rfl]
  have hx2:Ext (LF A v) (ScZ A D) s s2:=hx1.trans x2 hb (λ_ _ h=> .inl h) λ_ _ h=>h.elim
  have hI2:=hI1.ext0 x2
  have hB2:=hB1.ext0 x2
  have hbs2:=hbs1.ext0 x2
  refine Td.u ?_
  simp -implicitDefEqProofs only[O1,RR,SS]
  refine Tx.u ?_
  simp -implicitDefEqProofs only[N5,RR,SS,Nat.reduceEqDiff, ↓reduceIte,h1,h3]
  refine aB BW hB2.at' ?_
  have hx3:Ext (LF A v) (ScZ A D) s (s2.rdN (B+0)):=hx2.trans (Ext.rdN (F:=LF A v) (G:=ScZ A D) s2 _ λ_=> .inr (by omega)) hb (λ_ _ h=>h) λ_ _ h=>h
  have hI3:ScI A D tmS .ready (s2.rdN (B+0)) hs bad 0 0:=hI2.same rfl rfl
  have hbs3:Bs (s2.rdN (B+0)) v l:=hbs2.same rfl rfl
  have hB3:Own (s2.rdN (B+0)) B 0 v:=hB2.same rfl rfl
  generalize s2.rdN (B+0)=s3 at *
  simp -implicitDefEqProofs only[Di,hbs3.len Al]
  have over:BR l k=false-> ∀r,B6 l k=r-> ∀s4,ScI A D tmS .ready s4 hs bad k r->Ext (LF A v) (ScZ A D) s s4->Q (.tuple #[]) (s4.cxN s0.cx):=λhno r hr s4 hI4 x4=>by
   have e:A4 l (f+1) k hs bad=(hs,bad,k,r):=by
    unfold A4
    rw[hno,hr]
    rfl
   rw[e]at q
   exact q s4 hI4 x4
  by_cases hkl:k=l.length
  ·refine aI Ol ?_ rfl (by simp[T.get_set,hkl])
   refine SP.u ?_
   simp -implicitDefEqProofs only[Nm,RR,SS]
   refine J4 (k:=k) (r:=0) (v:=v) (hx3.bnd hb) (hx3.cx.trans hcx) hI3 hS (by simp[T.get_set,h0]) (by simp[T.get_set,h3]) (by simp[T.get_set]) (by omega) (by omega) (by omega) rfl (by omega) λs4 hI4 x4=> ?_
   refine over ?_ 0 (by unfold B6;rw[if_pos hkl]) s4 hI4 (hx3.trans x4 hb (λ_ _ h=>h) λ_ _ h=>h)
   unfold BR
   rw[decide_eq_false (by omega)]
   rfl
  ·refine aH Ol ?_
   refine AlE_.u ?_
   simp -implicitDefEqProofs only[MH_,RR,SS,Nat.reduceEqDiff, ↓reduceIte,h1,h3]
   refine aB BW hB3.at' ?_
   have hx4:Ext (LF A v) (ScZ A D) s (s3.rdN (B+0)):=hx3.trans (Ext.rdN (F:=LF A v) (G:=ScZ A D) s3 _ λ_=> .inr (by omega)) hb (λ_ _ h=>h) λ_ _ h=>h
   have hI4:ScI A D tmS .ready (s3.rdN (B+0)) hs bad 0 0:=hI3.same rfl rfl
   have hbs4:Bs (s3.rdN (B+0)) v l:=hbs3.same rfl rfl
   have hB4:Own (s3.rdN (B+0)) B 0 v:=hB3.same rfl rfl
   generalize s3.rdN (B+0)=s4 at *
   have e1:wrap64 (((l.length:Nat):Int)-((k:Nat):Int))=((l.length-k:Nat):Int):=by
    rw[Ax (by omega) (by omega)];omega
   simp -implicitDefEqProofs only[Cq,Ak,hbs4.len Al,e1]
   have torn: ∀(n':Nat) (s5:St) (tm':T Value) (td':List Item),1000<=n'->Ext (LF A v) (ScZ A D) s s5->ScI A D tmS .ready s5 hs bad 0 0->skim 64 td'=MC->T.get tm' 0=some (.func (.yield (D+1)) #[] #[])->T.get tm' 3=some (.int .i64 (k:Nat))->BR l k=false->B6 l k=1->
     W (runF envS n' ⟨109,DT,Bz,tm',td', .run, .normal,none⟩) s5 λp s1=>Q p.1 (s1.cxN s0.cx):=λn' s5 tm' td' hn' x5 hI5 hT' h0' h3' hno hr=>by
    refine AcY_.u ?_ hT'
    simp -implicitDefEqProofs only[IX_,RR,SS]
    refine J4 (k:=k) (r:=1) (v:=v) (x5.bnd hb) (x5.cx.trans hcx) hI5 hS (by simp[T.get_set,h0']) (by simp[T.get_set,h3']) (by simp[T.get_set]) (by omega) (by omega) (by omega) AeG_ (by omega) λs6 hI6 x6=> ?_
    exact over hno 1 hr s6 hI6 (x5.trans x6 hb (λ_ _ h=>h) λ_ _ h=>h)
   by_cases h6:l.length<k+6
   ·refine aI Ly_ ?_
    refine aI J3 ?_
    refine torn _ s4 _ _ (by omega) hx4 hI4 rfl (by simp[T.get_set,h0]) (by simp[T.get_set,h3]) ?_ ?_
    ·unfold BR
     rw[decide_eq_false (by omega)]
     rfl
    ·unfold B6
     rw[if_neg hkl,if_pos h6]
   ·refine aH Ly_ ?_
    have hsb:GP l k=(AE l k,Ct l k):=if_pos (by omega)
    rw[hsb]
    have hin:=λh=>QZ (l:=l) (k:=k) h
    refine AkH_ (B:=B) (k:=k) (N:=AE l k) (is:=Ct l k) hB4 hbs4 (by omega) hk hin (by simp[T.get_set,h1]) (by simp[T.get_set,h3]) (by simp[T.get_set]) (by simp[T.get_set]) rfl (by omega) λn' s5 tm' td' hn' hT' m5 n5 x5 hkeep h21=> ?_
    have hx5:Ext (LF A v) (ScZ A D) s s5:=hx4.trans x5 hb (λx _ h=> .inr (by omega)) λ_ _ h=>h.elim
    have hI5:ScI A D tmS .ready s5 hs bad 0 0:=hI4.same m5 n5
    have hbs5:Bs s5 v l:=hbs4.same m5 n5
    have hB5:Own s5 B 0 v:=hB4.same m5 n5
    have k0:T.get tm' 0=some (.func (.yield (D+1)) #[] #[]):=by rw[hkeep 0 (by decide)];simp[T.get_set,h0]
    have k1:T.get tm' 1=some (.pointer (some ⟨B,0,none⟩)):=by rw[hkeep 1 (by decide)];simp[T.get_set,h1]
    have k3:T.get tm' 3=some (.int .i64 (k:Nat)):=by rw[hkeep 3 (by decide)];simp[T.get_set,h3]
    have k4:T.get tm' 4=some (.int .i64 (AE l k:Nat)):=by rw[hkeep 4 (by decide)];simp[T.get_set]
    have k5:T.get tm' 5=some (.bool (Ct l k)):=by rw[hkeep 5 (by decide)];simp[T.get_set]
    have k6:T.get tm' 6=some (.int .i64 2):=by rw[hkeep 6 (by decide)];simp[T.get_set]
    cases hok:Ct l k with
    |false=>
     rw[hok]at h21 k5
     refine aH J3 ?_ hT' (by rw[h21];rfl)
     refine XT.u ?_
     simp -implicitDefEqProofs only[Px,RR,SS,k5]
     refine aH Wl ?_
     refine J4 (k:=k) (r:=2) (v:=v) (hx5.bnd hb) (hx5.cx.trans hcx) hI5 hS (by simp[T.get_set,k0]) (by simp[T.get_set,k3]) (by simp[T.get_set,k6]) (by omega) (by omega) (by omega) Th_ (by omega) λs6 hI6 x6=> ?_
     refine over ?_ 2 ?_ s6 hI6 (hx5.trans x6 hb (λ_ _ h=>h) λ_ _ h=>h)
     ·unfold BR
      rw[hok,Bool.and_false]
      rfl
     ·unfold B6
      rw[if_neg hkl,if_neg h6,hok]
      rfl
    |true=>
     obtain⟨g1,g2⟩:=hin hok
     rw[hok,Bool.true_and]at h21
     rw[hok]at k5
     by_cases hlen:l.length<k+26+AE l k
     ·refine aI J3 ?_ hT' (by rw[h21,decide_eq_true hlen])
      refine torn _ s5 _ _ (by omega) hx5 hI5 rfl k0 k3 ?_ ?_
      ·unfold BR
       rw[decide_eq_false (show ¬k+26+AE l k<=l.length by omega),Bool.and_false]
      ·unfold B6
       rw[if_neg hkl,if_neg h6,hok]
       rfl
     ·refine aH J3 ?_ hT' (by rw[h21,decide_eq_false hlen])
      refine XT.u ?_
      simp -implicitDefEqProofs only[Px,RR,SS,k5]
      refine aI Wl ?_
      have hyes:BR l k=true:=by
       unfold BR
       rw[hok,decide_eq_true (show k+6<=l.length by omega),decide_eq_true (show k+26+AE l k<=l.length by omega)]
       rfl
      refine Xa_ (B:=B) (l:=l) (k:=k) (N:=AE l k) (hx5.bnd hb) hI5 hS hB5 hAB hbs5 hby (by omega) g1 g2 (by omega) (by simp[T.get_set,k0]) (by simp[T.get_set,k1]) (by simp[T.get_set,k3]) (by simp[T.get_set,k4]) (by omega) (by omega) rfl (by omega) λn6 s6 tm6 td6 hn6 hT6 hI6 x6 p0 p1 p3=> ?_
      have hx6:Ext (LF A v) (ScZ A D) s s6:=hx5.trans x6 hb (λ_ _ h=>h) λ_ _ h=>h
      have e:A4 l (f+1) k hs bad=A4 l f (k+26+AE l k) (if Bt l k (AE l k)then hs++[(Bu l k (AE l k),k,AE l k)]else hs) (if Bt l k (AE l k)then bad else bad+1):=by
       rw[A4,hyes]
       rfl
      rw[e]at q
      refine ih (k+26+AE l k) n6 _ _ tm6 td6 s6 (by omega) (by omega) ?_ (by omega) hT6 (hx6.bnd hb) (hx6.cx.trans hcx) hI6 (hB5.ext x6 (by omega)) (hbs5.ext x6 λx hx h=>by have:=hvA x hx;have:=h.1;omega) p0 p1 p3 λs7 hI7 x7=> ?_
      ·cases Bt l k (AE l k)with
       |true=>simp -implicitDefEqProofs only[reduceIte,List.length_append,List.length_singleton];omega
       |false=>simp -implicitDefEqProofs only[Bool.false_eq_true,reduceIte];omega
      ·exact q s7 hI7 (hx6.trans x7 hb (λ_ _ h=>h) λ_ _ h=>h)
theorem XH_ {n:Nat}{v:Value}{s:St}{Q:Value->St->Prop}(hv:oneCell v=true)(hn:20<=n)(q: ∀s1,Ext Non Non s s1->s1.next=s.next+2->Own s1 s.next 0 v->Q (.func (.func 109) #[] #[.pointer (some ⟨s.next,0,none⟩)]) s1):W (Ab envS (runF envS n) 68 [v]) s Q:=by
 refine YI_ λtm h0=> ?_
 refine VA_.u ?_
 simp -implicitDefEqProofs only[Lm_,RR,SS,h0]
 refine W.box λsa na xa oa=> ?_
 rw[Jw hv]at na oa
 refine YT_.u ?_
 simp -implicitDefEqProofs only[Fa_,RR,SS,Nat.reduceEqDiff, ↓reduceIte]
 refine aF (rs:=[2]) (vs:=[.func (.func 109) #[] #[.pointer (some ⟨s.next,0,none⟩)]]) rfl (.inl AiO_) (by omega) FD_ NX_ xa.cx (by simp[T.get_set];rfl) ?_
 exact q _ xa.cx' na ((oa 0 v rfl).same rfl rfl)
def Es (s s':St)(v:Value)(hs:List Hd):Prop:=(v= .slice none 0 0/\hs=[])\/ ∃b,s.next<=b/\Marked s' 18 hs.length (AV hs) v b/\hs≠[]
theorem Qt_ {A D n:Nat}{tm tmS:T Value}{td:List Item}{s s0:St}{st:LoopState}{hs:List Hd}{bad size rest:Nat}{Q:Value->St->Prop}(hb:s.lim<=s.next)(hcx:s.cx= .cx none (some [Cm D]))(hI:ScI A D tmS st s hs bad size rest)(hS:ScT A tm)(hT:skim 64 td=Ls)(hn:10<=n)
  (q: ∀s1 v,Ext (λx=>A<=x) (λx=>A<=x) (s.cxN cxN) s1->CJ s1 D v hs->Q (.tuple #[v, .int .i64 (size:Nat), .int .i64 (bad:Nat), .int .i64 (rest:Nat)]) (s1.cxN s0.cx)):W (runF envS n ⟨24,Ez,Br,tm,td, .run, .normal,none⟩) s λp s1=>Q p.1 (s1.cxN s0.cx):=by
 have sep:=hI.sep
 have hD:=hI.lo.1
 obtain⟨v,c2,hh⟩:=hI.c2
 have hv1:oneCell v=true:=by
  rcases hh with⟨rfl,_⟩|⟨b,_,hm,_⟩
  ·rfl
  ·rw[hm.val];rfl
 refine Agz_.u ?_ hT
 simp -implicitDefEqProofs only[MG_,RR,hS.t2,hS.t3,hS.t4,hS.t5,AJ]
 have o2:Own (dSt s.mem s.next) A 0 v:=c2.same rfl rfl
 have o3:Own (dSt s.mem s.next) (A+2) 0 (.int .i64 (size:Nat)):=hI.c3.same rfl rfl
 have o4:Own (dSt s.mem s.next) (A+4) 0 (.int .i64 (bad:Nat)):=hI.c4.same rfl rfl
 have o5:Own (dSt s.mem s.next) (A+6) 0 (.int .i64 (rest:Nat)):=hI.c5.same rfl rfl
 refine aC Cn o2.at' λrd0 hr0=> ?_
 refine aC AT o3.at' λrd1 hr1=> ?_
 refine aC AT o4.at' λrd2 hr2=> ?_
 refine aC AT o5.at' λrd3 hr3=> ?_
 refine W.dopG (aL Cn hv1 (o2.same rfl rfl) λs4 n4 x4 w4=>⟨In A 0 1,In A 0 1,x4,λrd4 wr4 hr4 hw4=> ?_⟩)
 have n4':s4.next=s.next:=n4
 have p3:Own s4 (A+2) 0 (.int .i64 (size:Nat)):=(o3.same (s':=oSt s.mem s.next) rfl rfl).ext x4 λh=>by have:=In1.1 h;omega
 refine W.dopG (aL (s:=oSt s4.mem s4.next) AT rfl (p3.same rfl rfl) λs5 n5 x5 w5=>⟨In (A+2) 0 1,In (A+2) 0 1,x5,λrd5 wr5 hr5 hw5=> ?_⟩)
 have n5':s5.next=s4.next:=n5
 have p4:Own s5 (A+4) 0 (.int .i64 (bad:Nat)):=(((o4.same (s':=oSt s.mem s.next) rfl rfl).ext x4 λh=>by have:=In1.1 h;omega).same (s':=oSt s4.mem s4.next) rfl rfl).ext x5 λh=>by have:=In1.1 h;omega
 refine W.dopG (aL (s:=oSt s5.mem s5.next) AT rfl (p4.same rfl rfl) λs6 n6 x6 w6=>⟨In (A+4) 0 1,In (A+4) 0 1,x6,λrd6 wr6 hr6 hw6=> ?_⟩)
 have n6':s6.next=s5.next:=n6
 rw[AK]
 refine⟨D3 ?_, ?_⟩
 ·simp -implicitDefEqProofs only[List.reverse_cons,List.reverse_nil,List.nil_append,List.cons_append,allP,CF,List.take,DB,n4',n5',n6']
  have e0: ∀x,x∈rd0->x=A:=λx h=>by have:=hr0 x h;omega
  have e1: ∀x,x∈rd1->x=A+2:=λx h=>by have:=hr1 x h;omega
  have e2: ∀x,x∈rd2->x=A+4:=λx h=>by have:=hr2 x h;omega
  have e3: ∀x,x∈rd3->x=A+6:=λx h=>by have:=hr3 x h;omega
  have e4: ∀x,x∈rd4->x=A:=λx h=>In1.1 (hr4 x h).2
  have g4: ∀x,x∈wr4->x=A:=λx h=>In1.1 (hw4 x h).2
  have e5: ∀x,x∈rd5->x=A+2:=λx h=>In1.1 (hr5 x h).2
  have g5: ∀x,x∈wr5->x=A+2:=λx h=>In1.1 (hw5 x h).2
  have e6: ∀x,x∈rd6->x=A+4:=λx h=>In1.1 (hr6 x h).2
  have g6: ∀x,x∈wr6->x=A+4:=λx h=>In1.1 (hw6 x h).2
  have nn: ∀x,s.next<=x-> ¬x<s.next:=λx h=>by omega
  have ne: ∀(l m:List Nat) (a b:Nat),a≠b->(∀x,x∈l->x=a)->(∀x,x∈m->x=b)-> ∀x,x∈l-> ¬x∈m:=λl m a b hab hl hm x hx hy=>hab ((hl x hx).symm.trans (hm x hy))
  have no: ∀(l:List Nat),∀x,x∈l->s.next<=x->s.next<=x-> ¬x<s.next:=λ_ x _ h _=>nn x h
  have d1:=ne wr4 rd1 _ _ (by omega) g4 e1
  have d2:=ne wr4 rd2 _ _ (by omega) g4 e2
  have d3:=ne wr4 rd3 _ _ (by omega) g4 e3
  have d4:=ne wr5 rd2 _ _ (by omega) g5 e2
  have d5:=ne wr5 rd3 _ _ (by omega) g5 e3
  have d6:=ne wr6 rd3 _ _ (by omega) g6 e3
  have d7:=ne wr5 rd0 _ _ (by omega) g5 e0
  have d8:=ne wr6 rd0 _ _ (by omega) g6 e0
  have d9:=ne wr6 rd1 _ _ (by omega) g6 e1
  simp+contextual [nn,d1,d2,d3,d4,d5,d6,d7,d8,d9]
  exact⟨⟨.inl rfl, .inl rfl⟩, .inl rfl, .inl rfl, .inl rfl⟩
 ·refine aJ (AgF_ _ _ _ _ _ _ _ _ _) ?_
  simp -implicitDefEqProofs only[hS.t5,AJ]
  generalize hs':(⟨(dSt s6.mem s6.next).mem,(dSt s6.mem s6.next).next,s.lim,_,_,s.cx⟩:St)=s7
  have hZ: ∀(b x:Nat),A<=b->In b 0 1 x->A<=x:=λb x h h2=>by have:=In1.1 h2;omega
  have hx7:Ext (λx=>A<=x) (λx=>A<=x) s s7:=by
   rw[<-hs']
   refine aP (by show s.next<=s6.next;omega) (λx hx hg=> ?_) ?_ ?_
   ·exact(x6.mem x (by show x<s5.next;omega) λh=>hg (hZ _ x (by omega) h)).trans ((x5.mem x (by show x<s4.next;omega) λh=>hg (hZ _ x (by omega) h)).trans (x4.mem x hx λh=>hg (hZ _ x (by omega) h)))
   ·simp -implicitDefEqProofs only[List.mem_cons,List.not_mem_nil,or_false]
    rintro m (rfl|rfl|rfl|rfl|rfl|rfl|rfl) x hx _<;>first|(cases hx;done)|(exact hZ _ x (by omega) (hw4 x hx).2)|(exact hZ _ x (by omega) (hw5 x hx).2)|(exact hZ _ x (by omega) (hw6 x hx).2)
   ·simp -implicitDefEqProofs only[List.mem_cons,List.not_mem_nil,or_false]
    rintro m (rfl|rfl|rfl|rfl|rfl|rfl|rfl) x hx _<;>first|(cases hx;done)|(exact hZ _ x (by omega) (hr4 x hx).2)|(exact hZ _ x (by omega) (hr5 x hx).2)|(exact hZ _ x (by omega) (hr6 x hx).2)|(have:=hr0 x hx;show A<=x;omega)|(have:=hr1 x hx;show A<=x;omega)|(have:=hr2 x hx;show A<=x;omega)|(have:=hr3 x hx;show A<=x;omega)
  have m7:s7.mem=s6.mem:=by rw[<-hs'];rfl
  have n7:s7.next=s6.next:=by rw[<-hs'];rfl
  have keep: ∀b o u,b+o≠A->b+o≠A+2->b+o≠A+4->Own s b o u->Own s7 b o u:=λb o u h1 h2 h3 hu=>(((((hu.same (s':=oSt s.mem s.next) rfl rfl).ext x4 λh=>h1 (In1.1 h)).same (s':=oSt s4.mem s4.next) rfl rfl).ext x5 λh=>h2 (In1.1 h)).same (s':=oSt s5.mem s5.next) rfl rfl).ext x6 (λh=>h3 (In1.1 h)) |>.same m7 n7
  have keepO: ∀l o,l≠A->l≠A+2->l≠A+4->Obj s l o->Obj s7 l o:=λl o h1 h2 h3 hu=>(((((hu.same (s':=oSt s.mem s.next) rfl rfl).ext x4 λh=>h1 (In1.1 h)).same (s':=oSt s4.mem s4.next) rfl rfl).ext x5 λh=>h2 (In1.1 h)).same (s':=oSt s5.mem s5.next) rfl rfl).ext x6 (λh=>h3 (In1.1 h)) |>.same m7 n7
  have k2:Own s7 A 0 v:=((((w4.same (s':=oSt s4.mem s4.next) rfl rfl).ext x5 λh=>by have:=In1.1 h;omega).same (s':=oSt s5.mem s5.next) rfl rfl).ext x6 λh=>by have:=In1.1 h;omega).same m7 n7
  have k3:Own s7 (A+2) 0 (.int .i64 (size:Nat)):=((w5.same (s':=oSt s5.mem s5.next) rfl rfl).ext x6 λh=>by have:=In1.1 h;omega).same m7 n7
  have k4:Own s7 (A+4) 0 (.int .i64 (bad:Nat)):=w6.same m7 n7
  have k5:Own s7 (A+6) 0 (.int .i64 (rest:Nat)):=keep _ _ _ (by omega) (by omega) (by omega) hI.c5
  have kd:Obj s7 D (.deferred (some [])):=keepO _ _ (by omega) (by omega) (by omega) hI.de
  have kh:CJ s7 D v hs:=(((((hh.same (s':=oSt s.mem s.next) rfl rfl).ext x4 λx hx _ h=>by have:=In1.1 h;omega).same (s':=oSt s4.mem s4.next) rfl rfl).ext x5 λx hx _ h=>by have:=In1.1 h;omega).same (s':=oSt s5.mem s5.next) rfl rfl).ext x6 (λx hx _ h=>by have:=In1.1 h;omega) |>.same m7 n7
  have hb7:s7.lim<=s7.next:=hx7.bnd hb
  refine W.bind (aL AT rfl k5 λs8 n8 x8 w8=>W.pure ?_)
  have hx8:Ext (λx=>A<=x) (λx=>A<=x) s s8:=hx7.trans x8 hb (λx _ h=>hZ _ x (by omega) h) λx _ h=>hZ _ x (by omega) h
  have q2:Own s8 A 0 v:=k2.ext x8 λh=>by have:=In1.1 h;omega
  have q3:Own s8 (A+2) 0 (.int .i64 (size:Nat)):=k3.ext x8 λh=>by have:=In1.1 h;omega
  have q4:Own s8 (A+4) 0 (.int .i64 (bad:Nat)):=k4.ext x8 λh=>by have:=In1.1 h;omega
  have qd:Obj s8 D (.deferred (some [])):=kd.ext x8 λh=>by have:=In1.1 h;omega
  have qh:CJ s8 D v hs:=kh.ext x8 λx hx _ h=>by have:=In1.1 h;omega
  refine W.endK rfl (.inl QY_) (by omega) Y8 XO_ (hx8.cx.trans hcx) qd ?_
  have x9:Ext (λx=>A<=x) (λx=>A<=x) (s.cxN cxN) (((s8.cxN cxN).rdN D).wrN D (.O (.deferred none))):=by
   have y1:Ext (λx=>A<=x) (λx=>A<=x) (s.cxN cxN) (s8.cxN cxN):=⟨hx8.nxt,hx8.lim,rfl,hx8.mem,hx8.rd,hx8.wr⟩
   have y2:=y1.trans (Ext.rdN (F:=λx=>A<=x) (G:=λx=>A<=x) (s8.cxN cxN) D λ_=>by omega) hb (λ_ _ h=>h) λ_ _ h=>h
   exact y2.trans (Ext.wrN (F:=λx=>A<=x) (G:=λx=>A<=x) ((s8.cxN cxN).rdN D) D _ (by omega)) hb (λ_ _ h=>h) λ_ _ h=>h
  have own9: ∀b o u,b+o<D->Own s8 b o u->Own (((s8.cxN cxN).rdN D).wrN D (.O (.deferred none))) b o u:=λb o u h hu=>by
   refine⟨hu.1, ?_⟩
   show T.get (T.set s8.mem D _) _=_
   rw[T.get_set,if_neg (by omega)]
   exact hu.2
  have h9:CJ (((s8.cxN cxN).rdN D).wrN D (.O (.deferred none))) D v hs:=by
   have e:Ext (λ_=>True) (λx=>x=D) (s8.cxN cxN) (((s8.cxN cxN).rdN D).wrN D (.O (.deferred none))):=by
    have y2:=Ext.rdN (F:=λ_=>True) (G:=λx=>x=D) (s8.cxN cxN) D λ_=>trivial
    exact y2.trans (Ext.wrN (F:=λ_=>True) (G:=λx=>x=D) ((s8.cxN cxN).rdN D) D _ rfl) (hx8.bnd hb) (λ_ _ h=>h) λ_ _ h=>h
   exact(qh.same (s':=s8.cxN cxN) rfl rfl).ext e λx hx _ h=>by omega
  show W (resL envS tm _) (((s8.cxN cxN).rdN D).wrN D (.O (.deferred none))) _
  generalize ((s8.cxN cxN).rdN D).wrN D (.O (.deferred none))=s9 at *
  have step: ∀(b:Nat) (u:Value) (sa:St),A<=b->Ext (λx=>A<=x) (λx=>A<=x) (s.cxN cxN) sa->Ext (λx=>A<=x) (λx=>A<=x) (s.cxN cxN) (sa.rdN (b+0)):=λb u sa hA x=>x.trans (Ext.rdN (F:=λx=>A<=x) (G:=λx=>A<=x) sa _ λ_=>by omega) hb (λ_ _ h=>h) λ_ _ h=>h
  refine aO hS.t2 (aB Cn (own9 _ _ _ (by omega) q2).at' ?_)
  refine aO hS.t3 (aB AT ((own9 _ _ _ (by omega) q3).same rfl rfl).at' ?_)
  refine aO hS.t4 (aB AT ((own9 _ _ _ (by omega) q4).same rfl rfl).at' ?_)
  refine aO hS.t5 (aB AT ((own9 _ _ _ (by omega) w8).same rfl rfl).at' ?_)
  refine aZ ?_
  exact q _ v (step _ v _ (by omega) (step _ v _ (by omega) (step _ v _ (by omega) (step _ v _ (by omega) x9)))) (h9.same rfl rfl)
theorem Abq_:envS.ext.get 109=none:=by kernel_rfl
theorem Bs.one {s:St}{v:Value}{l:List Nat}(h:Bs s v l):oneCell v=true:=by
 obtain⟨p,c,rfl⟩:=h.sl
 cases p<;>rfl
def A6 (l:List Nat):List Hd×Nat×Nat×Nat:=A4 l l.length 0 [] 0
theorem QP_ {n:Nat}{v:Value}{l:List Nat}{s:St}{Q:Value->St->Prop}(hbd:s.lim<=s.next)(hbs:Bs s v l)(hvA: ∀x,BsF v x->x<s.next)(hby:Byt l)(hz:l.length<=200000)(hn:70000+60*l.length<=n)
  (q: ∀s1 w,Ext (BsF v) Non s s1->Es s s1 w (A6 l).1->Q (.tuple #[w, .int .i64 ((A6 l).2.2.1:Nat), .int .i64 ((A6 l).2.1:Nat), .int .i64 ((A6 l).2.2.2:Nat)]) s1):W (Ab envS (runF envS n) 24 [v]) s Q:=by
 refine Ajo_ λtm h0=> ?_
 have hbs0:Bs (s.cxN cxN) v l:=hbs.same rfl rfl
 refine Rf_.u ?_
 simp -implicitDefEqProofs only[Nw_,RR,SS]
 refine W.alloc Xq_ λsa na xa oa=> ?_
 have na':sa.next=s.next+2:=na
 refine W.alloc MD λsb nb xb ob=> ?_
 have nb':sb.next=s.next+4:=by rw[nb,na'];rfl
 refine W.alloc MD λsc nc xc oc=> ?_
 have nc':sc.next=s.next+6:=by rw[nc,nb'];rfl
 refine W.alloc MD λsd nd xd od=> ?_
 have nd':sd.next=s.next+8:=by rw[nd,nc'];rfl
 rw[na']at ob ⊢
 rw[nb']at oc ⊢
 rw[nc']at od ⊢
 have hxd:Ext (BsF v) Non (s.cxN cxN) sd:=((((Ext.refl _).step xa hbd (λ_ _ h=>h.elim) λ_ h=>h.elim).step xb hbd (λ_ _ h=>h.elim) λ_ h=>h.elim).step xc hbd (λ_ _ h=>h.elim) λ_ h=>h.elim).step xd hbd (λ_ _ h=>h.elim) λ_ h=>h.elim
 refine Ajw_.u ?_
 simp -implicitDefEqProofs only[XL,RR,SS,reduceCtorEq, ↓reduceIte,h0]
 refine XH_ hbs.one (by omega) λse xe ne oe=> ?_
 rw[nd']at ne oe ⊢
 have hxe:Ext (BsF v) Non (s.cxN cxN) se:=hxd.step xe hbd (λ_ _ h=>h.elim) λ_ h=>h.elim
 have hbe:se.lim<=se.next:=hxe.bnd hbd
 have hbse:Bs se v l:=hbs0.ext0 hxe
 have c2:Own se s.next 0 (.slice none 0 0):=((((oa 0 _ rfl).ext0 xb).ext0 xc).ext0 xd).ext0 xe
 have c3:Own se (s.next+2) 0 (.int .i64 0):=(((ob 0 _ rfl).ext0 xc).ext0 xd).ext0 xe
 have c4:Own se (s.next+4) 0 (.int .i64 0):=((oc 0 _ rfl).ext0 xd).ext0 xe
 have c5:Own se (s.next+6) 0 (.int .i64 0):=(od 0 _ rfl).ext0 xe
 have H: ∀(n':Nat) (tmS:T Value) (td:List Item),65000+60*l.length<=n'->skim 64 td=EY->ScT s.next tmS->T.get tmS 9=some (.func (.func 109) #[] #[.pointer (some ⟨s.next+8,0,none⟩)])->W (runF envS n' ⟨24,Ez,Br,tmS,td, .run, .normal,none⟩) se λp s1=>Q p.1 (s1.cxN s.cx):=λn' tmS td hn' hT hS h9=>by
  refine W.rangeFunc hT So_ h9 Abq_ hxe.cx (by omega) ?_
  rw[ne]
  intro s1 n1 x1 d1 l1
  have hx1:Ext (BsF v) Non (s.cxN cxN) s1:=hxe.step x1 hbd (λ_ _ h=>h.elim) λ_ h=>h.elim
  have hb1:s1.lim<=s1.next:=hx1.bnd hbd
  refine Xy_ λtm2 g0 g1=> ?_
  refine VI_.u ?_
  simp -implicitDefEqProofs only[IU_,RR,SS]
  have hbs1:Bs ((s1.cxN (.cx none (some (Cm (s.next+8+2)::[])))).cxN cxN) v l:=(hbse.ext0 x1).same rfl rfl
  have I1:ScI s.next (s.next+8+2) _ .ready ((s1.cxN (.cx none (some (Cm (s.next+8+2)::[])))).cxN cxN) [] 0 0 0:=
   ⟨l1.same rfl rfl,d1.same rfl rfl,⟨_,(c2.ext0 x1).same rfl rfl, .inl ⟨rfl,rfl⟩⟩,(c3.ext0 x1).same rfl rfl,(c4.ext0 x1).same rfl rfl,(c5.ext0 x1).same rfl rfl,λh hh=>by simp at hh,by omega⟩
  have oB:Own ((s1.cxN (.cx none (some (Cm (s.next+8+2)::[])))).cxN cxN) (s.next+8) 0 v:=(oe.ext0 x1).same rfl rfl
  refine Yc_ (Q:=λ_ s2=>Obj s2 (s.next+8+2+1) (CU tmS .ready (s.next+8+2))/\W (runF envS (n'-1) ⟨24,Ez,Br,tmS,EY.tail, .run, .normal,none⟩) ((s2.rdN (s.next+8+2+1)).wrN (s.next+8+2+1) (.O (CU tmS .exhausted (s.next+8+2)))) λp s1=>Q p.1 (s1.cxN s.cx)) (s0:=s1.cxN (.cx none (some (Cm (s.next+8+2)::[])))) (A:=s.next) (B:=s.next+8) (D:=s.next+8+2) (v:=v) (l:=l) (by omega) (by omega) hvA hby hz hS l.length 0 _ [] 0 _ _ ((s1.cxN (.cx none (some (Cm (s.next+8+2)::[])))).cxN cxN) (Nat.zero_le _) (by omega) (by simp) (by omega) rfl hb1 rfl I1 oB hbs1 (by simp[T.get_set,g0]) (by simp[T.get_set,g1]) (by simp[T.get_set]) λs2 I2 x2=> ?_
  refine⟨(I2.lo).same rfl rfl, ?_⟩
  have I3:=(ScI.turn (st':= .exhausted) (I2.same (s':=s2.cxN (.cx none (some [Cm (s.next+8+2)]))) rfl rfl))
  have x3:=OC (A:=s.next) (D:=s.next+8+2) (s:=s2.cxN (.cx none (some [Cm (s.next+8+2)]))) (.O (CU tmS .exhausted (s.next+8+2))) I2.sep
  have hb2:s2.lim<=s2.next:=x2.bnd hb1
  refine Qt_ (A:=s.next) (D:=s.next+8+2) (s0:=s) (x3.bnd hb2) rfl I3 hS rfl (by omega) λs4 w x4 hw=> ?_
  have y1:Ext (BsF v) Non (s.cxN cxN) (s1.cxN cxN):=⟨hx1.nxt,hx1.lim,rfl,hx1.mem,hx1.rd,hx1.wr⟩
  have y2:Ext (BsF v) Non (s.cxN cxN) (s2.cxN cxN):=by
   have x2':Ext (LF s.next v) (ScZ s.next (s.next+8+2)) (s1.cxN cxN) (s2.cxN cxN):=⟨x2.nxt,x2.lim,rfl,x2.mem,x2.rd,x2.wr⟩
   refine y1.step x2' hbd (λx hx h=> ?_) λx h=>h.1
   rcases h with h|h
   ·exact h
   ·have h2:x<s.lim:=hx
    omega
  have y3:Ext (BsF v) Non (s.cxN cxN) ((((s2.cxN (.cx none (some [Cm (s.next+8+2)]))).rdN (s.next+8+2+1)).wrN (s.next+8+2+1) (.O (CU tmS .exhausted (s.next+8+2)))).cxN cxN):=by
   have x3':=x3
   refine y2.step (F':=ScZ s.next (s.next+8+2)) (G':=ScZ s.next (s.next+8+2)) ⟨x3.nxt,x3.lim,rfl,x3.mem,x3.rd,x3.wr⟩ hbd (λx hx h=> ?_) λx h=>h.1
   have h2:x<s.lim:=hx
   have:=h.1
   omega
  have y4:Ext (BsF v) Non (s.cxN cxN) s4:=y3.step x4 hbd (λx hx h=>by
   have h2:x<s.lim:=hx
   have h3:s.next<=x:=h
   omega) λx h=>h
  refine q _ w y4.cx' ?_
  rcases hw with hw|⟨b,g1,g2,g3⟩
  ·exact .inl hw
  ·exact .inr ⟨b,by omega,g2.same rfl rfl,g3⟩
 exact H _ _ _ (by omega) rfl ⟨by simp[T.get_set];rfl,by simp[T.get_set],by simp[T.get_set],by simp[T.get_set]⟩ (by simp[T.get_set])
def LV_ (l:List Nat)(h:Hd):Bool:= !((GP l h.2.1).2&&decide (AE l h.2.1=h.2.2)&&decide (h.2.1+26+h.2.2<=l.length))
section
variable {P:Program}{E:Env}{s:St}{t:Nat}
def Fq (P:Program)(t:Nat):Bool:=match P.underlying t with
 |some (.struct fs)=>(match fs.toList with
  | [f0, f1, f2] => f0.name != "_" && f1.name != "_" && f2.name != "_" && Nat.beq f0.offset 0 && Nat.beq f1.offset 16 && Nat.beq f2.offset 17 && !P.stoodInHeld t && !P.eqGuardType P.depth t &&
   (match P.underlying f0.type,P.info? f0.type,P.underlying f1.type,P.underlying f2.type with
   |some (.array 16 e),some i0,some (.int .i64),some (.int .i64)=>Nat.beq i0.size 16&&(match P.underlying e,P.info? e with|some (.int .u8),some i=>Nat.beq i.size 1|_,_=>false)
   |_,_,_,_=>false)
  |_=>false)
 |_=>false
theorem Pp_ {cs:Array Value}{off e:Nat}{i:TypeInfo}(hu:P.underlying t=some (.array 16 e))(hi:P.info? t=some i)(hz:i.size=16):semP P (part t cs off)=some (.agg (cs.extract off (off+16))):=by
 unfold part isAgg
 rw[BS,BS,G7 hu]
 simp -implicitDefEqProofs only[Option.bind_some,Dz,if_true,BS,Mi_ hi,hz]
theorem Yb {d:Nat}{a:Int}(hu:P.underlying t=some (.int .i64)):semP P (Op.equalIn (d+1) t (.int .i64 a) (.int .i64 a))=some true:=by
 simp -implicitDefEqProofs only[Op.equalIn,BS,G7 hu,Option.bind_some,if_true,Dz,beq_self_eq_true]
theorem AfZ_ {xo yo:Operand}{cs cs':Array Value}(hg:P.eqGuardType P.depth t=false):semP P (eqGuard .neq t xo yo (.agg cs) (.agg cs'))=some ():=by
 have hp:semP P program=some P:=rfl
 unfold eqGuard
 simp -implicitDefEqProofs only[Bool.not_true,Bool.not_false,Bool.false_eq_true,if_false,if_true,BS,hp,Option.bind_some,hg,Dz]
theorem Tt_ (h:Fq P t=true):P.eqGuardType P.depth t=false:=by
 unfold Fq at h
 split at h
 ·split at h
  ·simp -implicitDefEqProofs only[Bool.and_eq_true,bne_iff_ne,ne_eq,Bool.not_eq_true']at h
   exact h.1.2
  ·cases h
 ·cases h
end
theorem AdM_:Fq envS.P 35=true:=by kernel_rfl
