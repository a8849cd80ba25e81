import Derived.Test.YtofanlcjeohcjaaIBk23
import Derived.Test.YtofanlcjeohcjaaIBk08
namespace Go.Proofs.Ytofanlcjeohcjaa.Am
open Go.RowKit
theorem OU (lo hi:Nat)(r:List Nat):rInt lo hi (some r)=match bndR lo hi r with|none=>(0,none)|some (m,r')=>(m,some r'):=by
 unfold rInt bndR
 simp only
 cases numR r with
 |none=>rfl
 |some p=>
  obtain⟨m,r'⟩:=p
  simp only
  split<;>rfl
def RdSt (s:St)(R:Nat)(l:List Nat):Rd->Prop
 |some r=>Own s R 2 (.int .i64 (l.length-r.length:Nat))/\Own s R 3 (.int .i64 0)/\(∃p:Int,Own s R 4 (.int .i64 p))/\r=l.drop (l.length-r.length)/\r.length<=l.length
 |none=> ∃at0 e p:Int,Own s R 2 (.int .i64 at0)/\Own s R 3 (.int .i64 e)/\Own s R 4 (.int .i64 p)/\e≠0
structure RdI (s:St)(R:Nat)(v:Value)(l:List Nat)(st:Rd):Prop where
 o0:Own s R 0 (.bool true)
 o1:Own s R 1 v
 st:RdSt s R l st
 bs:Bs s v l
 dj: ∀x,BsF v x-> ¬(R<=x/\x<R+5)
 lt: ∀x,BsF v x->x<s.next
 rt:R+4<s.next
theorem RdSt.ext {F G:Nat->Prop}{s s':St}{R:Nat}{l:List Nat}{st:Rd}(h:RdSt s R l st)(x:Ext F G s s')(hG: ∀y,R<=y/\y<R+5-> ¬G y):RdSt s' R l st:=by
 cases st with
 |some r=>
  obtain⟨h2,h3,⟨p,h4⟩,h5⟩:=h
  exact⟨h2.ext x (hG _ (by omega)),h3.ext x (hG _ (by omega)),⟨p,h4.ext x (hG _ (by omega))⟩,h5⟩
 |none=>
  obtain⟨a,e,p,h2,h3,h4,he⟩:=h
  exact⟨a,e,p,h2.ext x (hG _ (by omega)),h3.ext x (hG _ (by omega)),h4.ext x (hG _ (by omega)),he⟩
theorem RdSt.same {s s':St}{R:Nat}{l:List Nat}{st:Rd}(h:RdSt s R l st)(hm:s'.mem=s.mem)(hn:s'.next=s.next):RdSt s' R l st:=by
 cases st with
 |some r=>
  obtain⟨h2,h3,⟨p,h4⟩,h5⟩:=h
  exact⟨h2.same hm hn,h3.same hm hn,⟨p,h4.same hm hn⟩,h5⟩
 |none=>
  obtain⟨a,e,p,h2,h3,h4,he⟩:=h
  exact⟨a,e,p,h2.same hm hn,h3.same hm hn,h4.same hm hn,he⟩
theorem RdI.ext {F G:Nat->Prop}{s s':St}{R:Nat}{v:Value}{l:List Nat}{st:Rd}(h:RdI s R v l st)(x:Ext F G s s')(hG: ∀y,(R<=y/\y<R+5)\/BsF v y-> ¬G y):RdI s' R v l st:=
 ⟨h.o0.ext x (hG _ (.inl (by omega))),h.o1.ext x (hG _ (.inl (by omega))),h.st.ext x λy hy=>hG y (.inl hy),h.bs.ext x λy hy=>hG y (.inr hy),h.dj,λy hy=>Nat.lt_of_lt_of_le (h.lt y hy) x.nxt,Nat.lt_of_lt_of_le h.rt x.nxt⟩
theorem RdI.ext0 {F:Nat->Prop}{s s':St}{R:Nat}{v:Value}{l:List Nat}{st:Rd}(h:RdI s R v l st)(x:Ext F Non s s'):RdI s' R v l st:=h.ext x λ_ _=>id
theorem RdI.same {s s':St}{R:Nat}{v:Value}{l:List Nat}{st:Rd}(h:RdI s R v l st)(hm:s'.mem=s.mem)(hn:s'.next=s.next):RdI s' R v l st:=
 ⟨h.o0.same hm hn,h.o1.same hm hn,h.st.same hm hn,h.bs.same hm hn,h.dj,λy hy=>by rw[hn];exact h.lt y hy,by rw[hn];exact h.rt⟩
section
variable {R n:Nat}{v:Value}{l:List Nat}{s:St}{Q:Value->St->Prop}{RR:List PanicEntry->St->Prop}
theorem Acb_ {B L H N at0 lo hi:Nat}(hb:s.lim<=s.next)(hB:Own s B 0 (.pointer (some ⟨R,0,none⟩)))(hL:Own s L 0 (.int .i64 (lo:Nat)))(hH:Own s H 0 (.int .i64 (hi:Nat)))(hN:Own s N 0 (.int .i64 0))(hNR:N≠R+2)
  (h1:Own s R 1 v) (hBs:Bs s v l) (h2:Own s R 2 (.int .i64 (at0:Nat))) (hat:at0<=l.length) (hz:l.length<=1000000000) (hby:Byt l) (hdj: ∀x,BsF v x->x≠R+2) (hn:400<=n)
  (q: ∀u m r s1,bndR lo hi (l.drop at0)=some (m,r)->Ext Any (λx=>x=R+2\/x=N) s s1->r=l.drop (l.length-r.length)->r.length<=l.length->Own s1 R 2 (.int .i64 (l.length-r.length:Nat))->Own s1 N 0 (.int .i64 (m:Nat))->Q u s1)
  (p: ∀e pos s1,bndR lo hi (l.drop at0)=none->e≠0->Ext Any (λx=>x=R+2\/x=N) s s1->(∃u,Own s1 R 2 u)->Own s1 N 0 (.int .i64 0)->RR (Ed e pos) s1):
  Wx (Ay envS (runF envS n) 139 [.pointer (some ⟨B,0,none⟩), .pointer (some ⟨L,0,none⟩), .pointer (some ⟨H,0,none⟩), .pointer (some ⟨N,0,none⟩)]) s Q RR:=by
 have hb0:(s.cxN cxN).lim<=(s.cxN cxN).next:=hb
 refine Vn_ λtm k0 k1 k2 k3=> ?_
 refine AgM_.wx (up:=none) rfl (by omega) ?_
 simp only[Z8,BH,Ck,BU,BK,BZ,Ag,Af,Ae,k0,k1,k2,k3]
 have x0:Ext Any (λx=>x=R+2\/x=N) (s.cxN cxN) (s.cxN cxN):=Ext.refl _
 refine Wx.of (aD Dq (hB.same (s':=s.cxN cxN) rfl rfl).at' ?_)
 have x1:=x0.thenRd' hb0 (B+(0+0))
 refine Wx.of (aD Be (hL.same rfl rfl).at' ?_)
 have x2:=x1.thenRd' hb0 (L+(0+0))
 refine Wx.of (aD Be (hH.same rfl rfl).at' ?_)
 have x3:=x2.thenRd' hb0 (H+(0+0))
 refine EX_ (at0:=at0) (by decide) (x3.bnd hb0) (h1.same rfl rfl) (hBs.same rfl rfl) (h2.same rfl rfl) hat hz hby hdj (by omega) (λm r s1 e x hr hl o=> ?_) (λe pos s1 er he x o=> ?_)
 ·have x4:Ext Any (λx=>x=R+2\/x=N) (s.cxN cxN) s1:=x3.trans x hb0 (λ_ _ _=>trivial) λ_ _ h=> .inl h
  have hN1:Own s1 N 0 (.int .i64 0):=(hN.same (s':=(((s.cxN cxN).rdN (B+(0+0))).rdN (L+(0+0))).rdN (H+(0+0))) rfl rfl).ext x λh=>hNR h
  refine Wx.of (aI Be rfl hN1 λs2 n2 x5 o5=> ?_)
  have x6:Ext Any (λx=>x=R+2\/x=N) (s.cxN cxN) s2:=x4.trans x5 hb0 (λ_ _ _=>trivial) λy _ hy=> .inr (by have h1:=hy.1;have h2:=hy.2;omega)
  refine Wx.of (W.endG KG_ (.inr (by kernel_rfl)) (by omega) CV_ St_ x6.cx (aM ?_))
  exact q _ m r _ e x6.cx' hr hl ((o.ext x5 λh=>by have h1:=h.1;have h2:=h.2;omega).same rfl rfl) (o5.same rfl rfl)
 ·have x4:Ext Any (λx=>x=R+2\/x=N) (s.cxN cxN) s1:=x3.trans x hb0 (λ_ _ _=>trivial) λ_ _ h=> .inl h
  have hN1:Own s1 N 0 (.int .i64 0):=(hN.same (s':=(((s.cxN cxN).rdN (B+(0+0))).rdN (L+(0+0))).rdN (H+(0+0))) rfl rfl).ext x λh=>hNR h
  exact⟨x4.cx,p e pos _ er he x4.cx' (o.imp λu h=>h.same rfl rfl) (hN1.same rfl rfl)⟩
theorem Ajl_ {B H N at0 hi:Nat}(hb:s.lim<=s.next)(hB:Own s B 0 (.pointer (some ⟨R,0,none⟩)))(hH:Own s H 0 (.int .i64 (hi:Nat)))(hN:Own s N 0 (.int .i64 0))(hNR:N≠R+2)
  (h1:Own s R 1 v) (hBs:Bs s v l) (h2:Own s R 2 (.int .i64 (at0:Nat))) (hat:at0<=l.length) (hz:l.length<=1000000000) (hby:Byt l) (hdj: ∀x,BsF v x->x≠R+2) (hn:400<=n)
  (q: ∀u m r s1,bndR 0 hi (l.drop at0)=some (m,r)->Ext Any (λx=>x=R+2\/x=N) s s1->r=l.drop (l.length-r.length)->r.length<=l.length->Own s1 R 2 (.int .i64 (l.length-r.length:Nat))->Own s1 N 0 (.int .i64 (m:Nat))->Q u s1)
  (p: ∀e pos s1,bndR 0 hi (l.drop at0)=none->e≠0->Ext Any (λx=>x=R+2\/x=N) s s1->(∃u,Own s1 R 2 u)->Own s1 N 0 (.int .i64 0)->RR (Ed e pos) s1):
  Wx (Ay envS (runF envS n) 119 [.pointer (some ⟨B,0,none⟩), .pointer (some ⟨H,0,none⟩), .pointer (some ⟨N,0,none⟩)]) s Q RR:=by
 have hb0:(s.cxN cxN).lim<=(s.cxN cxN).next:=hb
 refine QE_ λtm k0 k1 k2=> ?_
 refine SD_.wx (up:=none) rfl (by omega) ?_
 simp only[WL,BH,Ck,BU,BK,BZ,Ag,Af,Ae,k0,k1,k2]
 have x0:Ext Any (λx=>x=R+2\/x=N) (s.cxN cxN) (s.cxN cxN):=Ext.refl _
 refine Wx.of (aD Dq (hB.same (s':=s.cxN cxN) rfl rfl).at' ?_)
 have x1:=x0.thenRd' hb0 (B+(0+0))
 refine Wx.of (aD Be (hH.same rfl rfl).at' ?_)
 have x3:=x1.thenRd' hb0 (H+(0+0))
 refine EX_ (at0:=at0) (lo:=0) (by decide) (x3.bnd hb0) (h1.same rfl rfl) (hBs.same rfl rfl) (h2.same rfl rfl) hat hz hby hdj (by omega) (λm r s1 e x hr hl o=> ?_) (λe pos s1 er he x o=> ?_)
 ·have x4:Ext Any (λx=>x=R+2\/x=N) (s.cxN cxN) s1:=x3.trans x hb0 (λ_ _ _=>trivial) λ_ _ h=> .inl h
  have hN1:Own s1 N 0 (.int .i64 0):=(hN.same (s':=((s.cxN cxN).rdN (B+(0+0))).rdN (H+(0+0))) rfl rfl).ext x λh=>hNR h
  refine Wx.of (aI Be rfl hN1 λs2 n2 x5 o5=> ?_)
  have x6:Ext Any (λx=>x=R+2\/x=N) (s.cxN cxN) s2:=x4.trans x5 hb0 (λ_ _ _=>trivial) λy _ hy=> .inr (by have h1:=hy.1;have h2:=hy.2;omega)
  refine Wx.of (W.endG VB_ (.inr (by kernel_rfl)) (by omega) Xh AhT_ x6.cx (aM ?_))
  exact q _ m r _ e x6.cx' hr hl ((o.ext x5 λh=>by have h1:=h.1;have h2:=h.2;omega).same rfl rfl) (o5.same rfl rfl)
 ·have x4:Ext Any (λx=>x=R+2\/x=N) (s.cxN cxN) s1:=x3.trans x hb0 (λ_ _ _=>trivial) λ_ _ h=> .inl h
  have hN1:Own s1 N 0 (.int .i64 0):=(hN.same (s':=((s.cxN cxN).rdN (B+(0+0))).rdN (H+(0+0))) rfl rfl).ext x λh=>hNR h
  exact⟨x4.cx,p e pos _ er he x4.cx' (o.imp λu h=>h.same rfl rfl) (hN1.same rfl rfl)⟩
end
theorem RdI.adv {G:Nat->Prop}{s s':St}{R:Nat}{v:Value}{l r r':List Nat}(h:RdI s R v l (some r))(x:Ext Any G s s')(hG: ∀y,G y->y=R+2\/(¬(R<=y/\y<R+5)/\ ¬BsF v y))(o:Own s' R 2 (.int .i64 (l.length-r'.length:Nat)))(e1:r'=l.drop (l.length-r'.length))(e2:r'.length<=l.length):RdI s' R v l (some r'):=by
 obtain⟨g2,g3,⟨p,g4⟩,_,_⟩:=h.st
 have k: ∀j,j<5->j≠2-> ¬G (R+j):=λj hj hj2 g=>by
  rcases hG _ g with g|g
  ·omega
  ·exact g.1 (by omega)
 exact⟨h.o0.ext x (k 0 (by omega) (by omega)),h.o1.ext x (k 1 (by omega) (by omega)),⟨o,g3.ext x (k 3 (by omega) (by omega)),⟨p,g4.ext x (k 4 (by omega) (by omega))⟩,e1,e2⟩,h.bs.ext x λy hy g=>by
  rcases hG y g with g|g
  ·exact h.dj y hy (by omega)
  ·exact g.2 hy,h.dj,λy hy=>Nat.lt_of_lt_of_le (h.lt y hy) x.nxt,Nat.lt_of_lt_of_le h.rt x.nxt⟩
theorem RdI.flt {G:Nat->Prop}{s s':St}{R:Nat}{v:Value}{l r:List Nat}{a e p:Int}(h:RdI s R v l (some r))(x:Ext Any G s s')(hG: ∀y,G y->RdG R y\/(¬(R<=y/\y<R+5)/\ ¬BsF v y))(o2:Own s' R 2 (.int .i64 a))(o3:Own s' R 3 (.int .i64 e))(o4:Own s' R 4 (.int .i64 p))(he:e≠0):RdI s' R v l none:=by
 have k: ∀j,j<2-> ¬G (R+j):=λj hj g=>by
  rcases hG _ g with g|g
  ·omega
  ·exact g.1 (by omega)
 exact⟨h.o0.ext x (k 0 (by omega)),h.o1.ext x (k 1 (by omega)),⟨a,e,p,o2,o3,o4,he⟩,h.bs.ext x λy hy g=>by
  rcases hG y g with g|g
  ·exact h.dj y hy (by omega)
  ·exact g.2 hy,h.dj,λy hy=>Nat.lt_of_lt_of_le (h.lt y hy) x.nxt,Nat.lt_of_lt_of_le h.rt x.nxt⟩
section
variable {R n:Nat}{v:Value}{l:List Nat}{s:St}{Q:Value->St->Prop}{st:Rd}
theorem Le {lo hi:Nat}(hb:s.lim<=s.next)(h:RdI s R v l st)(hz:l.length<=1000000000)(hby:Byt l)(hn:600<=n)
  (q: ∀s1,Ext Any (RdG R) s s1->RdI s1 R v l (rInt lo hi st).2->Q (.int .i64 ((rInt lo hi st).1:Nat)) s1):W (Ay envS (runF envS n) 121 [.pointer (some ⟨R,0,none⟩), .int .i64 (lo:Nat), .int .i64 (hi:Nat)]) s Q:=by
 have hb0:(s.cxN cxN).lim<=(s.cxN cxN).next:=hb
 refine PG_ λtm k0 k1 k2=> ?_
 refine Yt_.w rfl (by omega) ?_
 simp only[Aa_,Ac,W_oS,Aa,Ab,aA,Nat.reduceEqDiff, ↓reduceIte,k0]
 refine W.box λs1 n1 x1 o1=> ?_
 have o1':Own s1 s.next 0 (.pointer (some ⟨R,0,none⟩)):=o1 0 _ rfl
 have n1':s1.next=s.next+2:=n1
 have y1:Ext Any Non (s.cxN cxN) s1:=x1.any hb0
 try simp only[W_oS,k1]
 refine W.box λs2 n2 x2 o2=> ?_
 have o2':Own s2 s1.next 0 (.int .i64 (lo:Nat)):=o2 0 _ rfl
 have n2':s2.next=s1.next+2:=n2
 have y2:=y1.then0 x2 hb0
 try simp only[W_oS,k2]
 refine W.box λs3 n3 x3 o3=> ?_
 have o3':Own s3 s2.next 0 (.int .i64 (hi:Nat)):=o3 0 _ rfl
 have n3':s3.next=s2.next+2:=n3
 have y3:=y2.then0 x3 hb0
 refine W.alloc Rz λs4 n4 x4 o4=> ?_
 have oN:Own s4 s3.next 0 (.int .i64 0):=o4 0 _ rfl
 have n4':s4.next=s3.next+2:=n4
 have y4:=y3.then0 x4 hb0
 have oB:Own s4 s.next 0 (.pointer (some ⟨R,0,none⟩)):=((o1'.ext0 x2).ext0 x3).ext0 x4
 have oL:Own s4 s1.next 0 (.int .i64 (lo:Nat)):=(o2'.ext0 x3).ext0 x4
 have oH:Own s4 s2.next 0 (.int .i64 (hi:Nat)):=o3'.ext0 x4
 have h4:RdI s4 R v l st:=(h.same (s':=s.cxN cxN) rfl rfl).ext0 y4
 have hb4:=y4.bnd hb0
 have hRt:R+4<s.next:=h.rt
 have fin: ∀(n':Nat) (tm':T Value) (s5:St) (td':List Item),10<=n'->skim 64 td'=JZ->Ext Any (RdG R) (s.cxN cxN) s5->RdI s5 R v l (rInt lo hi st).2->Own s5 s3.next 0 (.int .i64 ((rInt lo hi st).1:Nat))->T.get tm' 6=some (.pointer (some ⟨s3.next,0,none⟩))->
   W (runF envS n' ⟨121,AbD_,Kd,tm',td', .run, .normal,none⟩) s5 λp s1=>Q p.1 (s1.cxN s.cx):=by
  intro n' tm' s5 td' hn' hT' y5 h5 o5 g6
  refine Aay_.w hT' (by omega) ?_
  simp only[GS_,Ac,W_oS,Aa,g6]
  refine aD Be o5.at' ?_
  have y6:=y5.thenRd' hb0 (s3.next+(0+0))
  refine aI (b:=s3.next) (o:=0) Be rfl (o5.same rfl rfl) λs7 n7 x7 o7=> ?_
  have hnx:=y4.nxt
  have hs3:s.next<=s3.next:=y3.nxt
  have y7:Ext Any (RdG R) (s.cxN cxN) s7:=y6.trans x7 hb0 (λ_ _ _=>trivial) λy hy hh=>by
   have h1:=hh.1
   have h2:y<s.next:=hy
   omega
  have h7:RdI s7 R v l (rInt lo hi st).2:=(h5.same (s':=s5.rdN (s3.next+(0+0))) rfl rfl).ext x7 λy hy hh=>by
   have h1:=hh.1
   rcases hy with hy|hy
   ·omega
   ·have:=h.lt y hy
    omega
  refine W.endC NB_ (.inl Abs_) (by omega) DM_ Mj_ y7.cx (by simpa [aA]using g6) ?_
  refine aD (o:=0) Be o7.at' ?_
  exact q _ (y7.thenRd' hb0 (s3.next+0)).cx' (h7.same rfl rfl)
 refine YM_.w VW_ (by omega) ?_
 simp only[EQ_,Ac,W_oS,W_on,Aa,aA,Ag,Af,Ae,Ah,Nat.reduceEqDiff, ↓reduceIte]
 refine aD Dq oB.at' ?_
 have y5:=y4.thenRd hb0 (s.next+(0+0))
 have y5':Ext Any Non s4 (s4.rdN (s.next+(0+0))):=(Ext.refl (F:=Any) (G:=Non) s4).thenRd hb4 _
 obtain⟨s5,hs5⟩: ∃s5,s5=s4.rdN (s.next+(0+0)):=⟨_,rfl⟩
 have b5:s5.lim<=s5.next:=by rw[hs5];exact y5.bnd hb0
 have n5:s5.next=s4.next:=by rw[hs5];rfl
 have z5:Ext Any Non s4 s5:=by rw[hs5];exact y5'
 have y55:Ext Any Non (s.cxN cxN) s5:=by rw[hs5];exact y5
 have h5:=h4.ext0 z5
 have oB5:=oB.ext0 z5
 have oL5:=oL.ext0 z5
 have oH5:=oH.ext0 z5
 have oN5:=oN.ext0 z5
 rw[show((s4.rdN ((s.cxN cxN).next+(0+0))):St)=s5 from hs5.symm]
 cases st with
 |none=>
  obtain⟨a,e,p,g2,g3,g4,he⟩:=h5.st
  refine SY b5 h5.o0 g3 he (by omega) λu s6 x6=> ?_
  exact fin _ _ s6 _ (by omega) RJ ((y55.then0 x6 hb0).weak hb0 (λ_ _ h=>h) λ_ _ h=>h.elim) (h5.ext0 x6) (oN5.ext0 x6) (by simp[aA])
 |some r=>
  obtain⟨g2,g3,⟨p4,g4⟩,hr,hrl⟩:=h5.st
  refine Q2 (G:=λx=>x=R+2\/x=s3.next) (Φ:=λs7=> ∃m r',bndR lo hi r=some (m,r')/\r'=l.drop (l.length-r'.length)/\r'.length<=l.length/\Own s7 R 2 (.int .i64 (l.length-r'.length:Nat))/\Own s7 s3.next 0 (.int .i64 (m:Nat))) (Ψ:=λs7=>bndR lo hi r=none/\Own s7 s3.next 0 (.int .i64 0)) b5 h5.o0 g2 g3 ⟨_,g4⟩ (λx hx=>by omega) (by omega) (λn' s6 hn' b6 x6=> ?_) (λu s7 s8 hΦ m8 n8 x8=> ?_) λu s7 s8 e pos he hΨ x78 x8 o82 o83 o84=> ?_
  ·have z6:Ext Any Non s5 (s6.cxN s5.cx):=x6.cxs s5.cx s5.cx
   refine Acb_ (s:=s6) (B:=s.next) (L:=s1.next) (H:=s2.next) (N:=s3.next) (lo:=lo) (hi:=hi) (at0:=l.length-r.length) b6 ((oB5.ext0 z6).same rfl rfl) ((oL5.ext0 z6).same rfl rfl) ((oH5.ext0 z6).same rfl rfl) ((oN5.ext0 z6).same rfl rfl) (by omega) ((h5.o1.ext0 z6).same rfl rfl) ((h5.bs.ext0 z6).same rfl rfl) ((g2.ext0 z6).same rfl rfl) (by omega) hz hby (λx hx hx'=>h5.dj x hx (by omega)) (by omega) (λu m r' s7 e x7 e1 e2 o1 o2=> ?_) λe pos s7 e1 he x7 o1 o2=> ?_
   ·rw[<-hr]at e
    exact⟨x7,m,r',e,e1,e2,o1,o2⟩
   ·rw[<-hr]at e1
    exact⟨e,pos,rfl,he,x7,o1,e1,o2⟩
  ·obtain⟨m,r',e,e1,e2,o1,o2⟩:=hΦ
   have e3:rInt lo hi (some r)=(m,some r'):=by rw[OU,e]
   have hs3:s.next<=s3.next:=y3.nxt
   have y8:Ext Any (RdG R) (s.cxN cxN) s8:=(y55.weak hb0 (λ_ _ h=>h) λ_ _ h=>h.elim).trans x8 hb0 (λ_ _ _=>trivial) λy hy h=>by
    have h2:y<s.next:=hy
    rcases h with h|h
    ·exact .inl h
    ·omega
   have h8:RdI s8 R v l (some r'):=h5.adv x8 (λy hy=>by
    rcases hy with hy|hy
    ·exact .inl hy
    ·refine .inr ⟨λk=>by omega,λk=> ?_⟩
     have:=h.lt y k
     omega) (o1.same m8 n8) e1 e2
   exact fin _ _ s8 _ (by omega) RJ y8 (by rw[e3];exact h8) (by rw[e3];exact o2.same m8 n8) (by simp[aA])
  ·obtain⟨e1,o1⟩:=hΨ
   have e3:rInt lo hi (some r)=(0,none):=by rw[OU,e1]
   have hs3:s.next<=s3.next:=y3.nxt
   have y8:Ext Any (RdG R) (s.cxN cxN) s8:=(y55.weak hb0 (λ_ _ h=>h) λ_ _ h=>h.elim).trans x8 hb0 (λ_ _ _=>trivial) λy hy h=>by
    have h2:y<s.next:=hy
    rcases h with(h|h)|h
    ·exact .inl h
    ·omega
    ·exact h
   have h8:RdI s8 R v l none:=h5.flt x8 (λy hy=>by
    rcases hy with(hy|hy)|hy
    ·exact .inl (.inl hy)
    ·refine .inr ⟨λk=>by omega,λk=> ?_⟩
     have:=h.lt y k
     omega
    ·exact .inl hy) o82 o83 o84 he
   have o8:Own s8 s3.next 0 (.int .i64 0):=((o1.same (s':=s7.cxN cxN) rfl rfl).ext x78 λk=>by
    rcases k with k|k|k<;>omega).same rfl rfl
   exact fin _ _ s8 _ (by omega) RJ y8 (by rw[e3];exact h8) (by rw[e3];exact o8) (by simp[aA])
end
section
variable {R n:Nat}{v:Value}{l:List Nat}{s:St}{Q:Value->St->Prop}{st:Rd}
theorem YG {hi:Nat}(hb:s.lim<=s.next)(h:RdI s R v l st)(hz:l.length<=1000000000)(hby:Byt l)(hn:600<=n)
  (q: ∀s1,Ext Any (RdG R) s s1->RdI s1 R v l (rInt 0 hi st).2->Q (.int .i64 ((rInt 0 hi st).1:Nat)) s1):W (Ay envS (runF envS n) 83 [.pointer (some ⟨R,0,none⟩), .int .i64 (hi:Nat)]) s Q:=by
 have hb0:(s.cxN cxN).lim<=(s.cxN cxN).next:=hb
 refine Aao_ λtm k0 k1=> ?_
 refine Re_.w rfl (by omega) ?_
 simp only[Da_,Ac,W_oS,Aa,Ab,aA,Nat.reduceEqDiff, ↓reduceIte,k0]
 refine W.box λs1 n1 x1 o1=> ?_
 have o1':Own s1 s.next 0 (.pointer (some ⟨R,0,none⟩)):=o1 0 _ rfl
 have n1':s1.next=s.next+2:=n1
 have y1:Ext Any Non (s.cxN cxN) s1:=x1.any hb0
 try simp only[W_oS,k1]
 refine W.box λs3 n3 x3 o3=> ?_
 have o3':Own s3 s1.next 0 (.int .i64 (hi:Nat)):=o3 0 _ rfl
 have n3':s3.next=s1.next+2:=n3
 have y3:=y1.then0 x3 hb0
 refine W.alloc Rz λs4 n4 x4 o4=> ?_
 have oN:Own s4 s3.next 0 (.int .i64 0):=o4 0 _ rfl
 have n4':s4.next=s3.next+2:=n4
 have y4:=y3.then0 x4 hb0
 have oB:Own s4 s.next 0 (.pointer (some ⟨R,0,none⟩)):=(o1'.ext0 x3).ext0 x4
 have oH:Own s4 s1.next 0 (.int .i64 (hi:Nat)):=o3'.ext0 x4
 have h4:RdI s4 R v l st:=(h.same (s':=s.cxN cxN) rfl rfl).ext0 y4
 have hb4:=y4.bnd hb0
 have hRt:R+4<s.next:=h.rt
 have fin: ∀(n':Nat) (tm':T Value) (s5:St) (td':List Item),10<=n'->skim 64 td'=Js->Ext Any (RdG R) (s.cxN cxN) s5->RdI s5 R v l (rInt 0 hi st).2->Own s5 s3.next 0 (.int .i64 ((rInt 0 hi st).1:Nat))->T.get tm' 4=some (.pointer (some ⟨s3.next,0,none⟩))->
   W (runF envS n' ⟨83,KT_,Jv,tm',td', .run, .normal,none⟩) s5 λp s1=>Q p.1 (s1.cxN s.cx):=by
  intro n' tm' s5 td' hn' hT' y5 h5 o5 g6
  refine Adn_.w hT' (by omega) ?_
  simp only[Ah_,Ac,W_oS,Aa,g6]
  refine aD Be o5.at' ?_
  have y6:=y5.thenRd' hb0 (s3.next+(0+0))
  refine aI (b:=s3.next) (o:=0) Be rfl (o5.same rfl rfl) λs7 n7 x7 o7=> ?_
  have hnx:=y4.nxt
  have hs3:s.next<=s3.next:=y3.nxt
  have y7:Ext Any (RdG R) (s.cxN cxN) s7:=y6.trans x7 hb0 (λ_ _ _=>trivial) λy hy hh=>by
   have h1:=hh.1
   have h2:y<s.next:=hy
   omega
  have h7:RdI s7 R v l (rInt 0 hi st).2:=(h5.same (s':=s5.rdN (s3.next+(0+0))) rfl rfl).ext x7 λy hy hh=>by
   have h1:=hh.1
   rcases hy with hy|hy
   ·omega
   ·have:=h.lt y hy
    omega
  refine W.endC Akc_ (.inl XI_) (by omega) FF_ PD_ y7.cx (by simpa [aA]using g6) ?_
  refine aD (o:=0) Be o7.at' ?_
  exact q _ (y7.thenRd' hb0 (s3.next+0)).cx' (h7.same rfl rfl)
 refine Acn_.w Aae_ (by omega) ?_
 simp only[Xg,Ac,W_oS,W_on,Aa,aA,Ag,Af,Ae,Ah,Nat.reduceEqDiff, ↓reduceIte]
 refine aD Dq oB.at' ?_
 have y5:=y4.thenRd hb0 (s.next+(0+0))
 have y5':Ext Any Non s4 (s4.rdN (s.next+(0+0))):=(Ext.refl (F:=Any) (G:=Non) s4).thenRd hb4 _
 obtain⟨s5,hs5⟩: ∃s5,s5=s4.rdN (s.next+(0+0)):=⟨_,rfl⟩
 have b5:s5.lim<=s5.next:=by rw[hs5];exact y5.bnd hb0
 have n5:s5.next=s4.next:=by rw[hs5];rfl
 have z5:Ext Any Non s4 s5:=by rw[hs5];exact y5'
 have y55:Ext Any Non (s.cxN cxN) s5:=by rw[hs5];exact y5
 have h5:=h4.ext0 z5
 have oB5:=oB.ext0 z5
 have oH5:=oH.ext0 z5
 have oN5:=oN.ext0 z5
 rw[show((s4.rdN ((s.cxN cxN).next+(0+0))):St)=s5 from hs5.symm]
 cases st with
 |none=>
  obtain⟨a,e,p,g2,g3,g4,he⟩:=h5.st
  refine SY b5 h5.o0 g3 he (by omega) λu s6 x6=> ?_
  exact fin _ _ s6 _ (by omega) QM ((y55.then0 x6 hb0).weak hb0 (λ_ _ h=>h) λ_ _ h=>h.elim) (h5.ext0 x6) (oN5.ext0 x6) (by simp[aA])
 |some r=>
  obtain⟨g2,g3,⟨p4,g4⟩,hr,hrl⟩:=h5.st
  refine Q2 (G:=λx=>x=R+2\/x=s3.next) (Φ:=λs7=> ∃m r',bndR 0 hi r=some (m,r')/\r'=l.drop (l.length-r'.length)/\r'.length<=l.length/\Own s7 R 2 (.int .i64 (l.length-r'.length:Nat))/\Own s7 s3.next 0 (.int .i64 (m:Nat))) (Ψ:=λs7=>bndR 0 hi r=none/\Own s7 s3.next 0 (.int .i64 0)) b5 h5.o0 g2 g3 ⟨_,g4⟩ (λx hx=>by omega) (by omega) (λn' s6 hn' b6 x6=> ?_) (λu s7 s8 hΦ m8 n8 x8=> ?_) λu s7 s8 e pos he hΨ x78 x8 o82 o83 o84=> ?_
  ·have z6:Ext Any Non s5 (s6.cxN s5.cx):=x6.cxs s5.cx s5.cx
   refine Ajl_ (s:=s6) (B:=s.next) (H:=s1.next) (N:=s3.next) (hi:=hi) (at0:=l.length-r.length) b6 ((oB5.ext0 z6).same rfl rfl) ((oH5.ext0 z6).same rfl rfl) ((oN5.ext0 z6).same rfl rfl) (by omega) ((h5.o1.ext0 z6).same rfl rfl) ((h5.bs.ext0 z6).same rfl rfl) ((g2.ext0 z6).same rfl rfl) (by omega) hz hby (λx hx hx'=>h5.dj x hx (by omega)) (by omega) (λu m r' s7 e x7 e1 e2 o1 o2=> ?_) λe pos s7 e1 he x7 o1 o2=> ?_
   ·rw[<-hr]at e
    exact⟨x7,m,r',e,e1,e2,o1,o2⟩
   ·rw[<-hr]at e1
    exact⟨e,pos,rfl,he,x7,o1,e1,o2⟩
  ·obtain⟨m,r',e,e1,e2,o1,o2⟩:=hΦ
   have e3:rInt 0 hi (some r)=(m,some r'):=by rw[OU,e]
   have hs3:s.next<=s3.next:=y3.nxt
   have y8:Ext Any (RdG R) (s.cxN cxN) s8:=(y55.weak hb0 (λ_ _ h=>h) λ_ _ h=>h.elim).trans x8 hb0 (λ_ _ _=>trivial) λy hy h=>by
    have h2:y<s.next:=hy
    rcases h with h|h
    ·exact .inl h
    ·omega
   have h8:RdI s8 R v l (some r'):=h5.adv x8 (λy hy=>by
    rcases hy with hy|hy
    ·exact .inl hy
    ·refine .inr ⟨λk=>by omega,λk=> ?_⟩
     have:=h.lt y k
     omega) (o1.same m8 n8) e1 e2
   exact fin _ _ s8 _ (by omega) QM y8 (by rw[e3];exact h8) (by rw[e3];exact o2.same m8 n8) (by simp[aA])
  ·obtain⟨e1,o1⟩:=hΨ
   have e3:rInt 0 hi (some r)=(0,none):=by rw[OU,e1]
   have hs3:s.next<=s3.next:=y3.nxt
   have y8:Ext Any (RdG R) (s.cxN cxN) s8:=(y55.weak hb0 (λ_ _ h=>h) λ_ _ h=>h.elim).trans x8 hb0 (λ_ _ _=>trivial) λy hy h=>by
    have h2:y<s.next:=hy
    rcases h with(h|h)|h
    ·exact .inl h
    ·omega
    ·exact h
   have h8:RdI s8 R v l none:=h5.flt x8 (λy hy=>by
    rcases hy with(hy|hy)|hy
    ·exact .inl (.inl hy)
    ·refine .inr ⟨λk=>by omega,λk=> ?_⟩
     have:=h.lt y k
     omega
    ·exact .inl hy) o82 o83 o84 he
   have o8:Own s8 s3.next 0 (.int .i64 0):=((o1.same (s':=s7.cxN cxN) rfl rfl).ext x78 λk=>by
    rcases k with k|k|k<;>omega).same rfl rfl
   exact fin _ _ s8 _ (by omega) QM y8 (by rw[e3];exact h8) (by rw[e3];exact o8) (by simp[aA])
end
section
variable {R n:Nat}{v:Value}{l:List Nat}{s:St}{Q:Value->St->Prop}{RR:List PanicEntry->St->Prop}
theorem Fm_ {b:Nat}: ∀{l:List OpLog} {i:Nat},(∀m∈l,m.wr=[]/\m.lo=m.hi)->Ef b l i=true
 |[],_,_=>rfl
 |a::l,i,h=>by
  show((b.testBit i||(a.wr.isEmpty&&Nat.beq a.lo a.hi))&&Ef b l (Nat.succ i))=true
  obtain⟨h1,h2⟩:=h a (by simp)
  rw[Fm_ λm hm=>h m (by simp[hm]),h1,h2,Nat.beq_refl]
  simp
theorem TJ:arrN envS 26=some (16,1):=by kernel_rfl
theorem PW_ {B N at0:Nat}(hb:s.lim<=s.next)(hB:Own s B 0 (.pointer (some ⟨R,0,none⟩)))(hN:AC s N 0 (u8l (List.replicate 16 0)))(hNR: ∀i,i<16->N+i≠R+2)(hBR:B≠R+2)(hNB: ∀x,BsF v x-> ¬(N<=x/\x<N+16))
  (h1:Own s R 1 v) (hBs:Bs s v l) (h2:Own s R 2 (.int .i64 (at0:Nat))) (hat:at0<=l.length) (hz:l.length<=1000000000) (hdj: ∀x,BsF v x->x≠R+2) (hn:400<=n)
  (q:at0+16<=l.length-> ∀u s1,Ext Any (λx=>x=R+2\/(N<=x/\x<N+16)) s s1->Own s1 R 2 (.int .i64 (at0+16:Nat))->AC s1 N 0 (u8l ((l.take (at0+16)).drop at0))->Q u s1)
  (p:l.length<at0+16-> ∀e pos s1,e≠0->Ext Any (λx=>x=R+2\/(N<=x/\x<N+16)) s s1->(∃u,Own s1 R 2 u)->AC s1 N 0 (u8l (List.replicate 16 0))->RR (Ed e pos) s1):
  Wx (Ay envS (runF envS n) 140 [.pointer (some ⟨N,0,none⟩), .pointer (some ⟨B,0,none⟩)]) s Q RR:=by
 have hb0:(s.cxN cxN).lim<=(s.cxN cxN).next:=hb
 refine Wm_ λtm k0 k1=> ?_
 have hN0:AC (s.cxN cxN) N 0 (u8l (List.replicate 16 0)):=λi u e=>(hN i u e).same rfl rfl
 refine ZO_.wx (up:=none) rfl (by omega) ?_
 rw[BH]
 refine .inl (W.drawQ ?_)
 simp only[Df_,k0,k1,BW,Dz]
 rw[W_dq λs Q=>KU (s:=s) (lo:=none) (hi:=none) (l:=0) (h:=16) TJ (Ct (by decide)) rfl rfl (Nat.zero_le _) (Nat.le_refl _) Q]
 refine aH Dq (hB.same (s':=dSt (s.cxN cxN).mem (s.cxN cxN).next) rfl rfl).at' λrd1 _=> ?_
 rw[Aa]
 refine⟨D9 (by simp) (by simp),Fm_ (by simp), ?_⟩
 refine Wx.cast (UP_ _ _ _ _ _ _ _) ?_
 generalize hs1:(⟨(dSt (s.cxN cxN).mem (s.cxN cxN).next).mem,(dSt (s.cxN cxN).mem (s.cxN cxN).next).next,(s.cxN cxN).lim,_,_,(s.cxN cxN).cx⟩:St)=s1
 have m1:s1.mem=s.mem:=by rw[<-hs1];rfl
 have n1:s1.next=s.next:=by rw[<-hs1];rfl
 have x1:Ext Any Non (s.cxN cxN) s1:=by
  rw[<-hs1]
  exact Ext.drawR (s.cxN cxN) _ (by simp)
 have b1:=x1.bnd hb0
 simp only[BH,BU,BK,BZ,Ag,Af,Ae]
 refine DN_ (at0:=at0) b1 (h1.same m1 n1) (hBs.same m1 n1) (h2.same m1 n1) hat hz hdj (by omega) (λhc s2 b c x2 o2 hbn r2=> ?_) λhc e pos s2 he x2 o2=> ?_
 ·try simp only[BH,Ck,BU,BK,Ca,CU,CN,BZ,CK,CX,C1,C4,Ac,W_oS,W_on,Aa,W_mv,Ab,Ar,aA,Ag,Af,Aw,Av,Ae,Ah,Ai,Ap,As,Au,An,Ak,Al,Aq,Aj,Ao,Nat.reduceEqDiff,reduceCtorEq, ↓reduceIte]
  have x12:Ext Any (λx=>x=R+2) (s.cxN cxN) s2:=(x1.weak hb0 (λ_ _ h=>h) λ_ _ h=>h.elim).trans x2 hb0 (λ_ _ _=>trivial) λ_ _ h=>h
  have x12n:(s.cxN cxN).next<=s2.next:=x12.nxt
  have mE:(CB (s.cxN cxN) s2).mem=s.mem:=rfl
  have oN: ∀j,j<16-> ∃u,Own s N (0+j) u:=λj hj=>AC.owned hN j (by simpa using hj)
  have lt2: ∀k u,Own s N k u->Own (dSt s.mem s2.next) N k u:=λk u h=>⟨Nat.lt_of_lt_of_le h.1 x12n,h.2⟩
  simp only[Zz,k0,k1,BW,Dz]
  rw[W_dq λs Q=>KU (s:=s) (lo:=none) (hi:=none) (l:=0) (h:=16) TJ (Ct (by decide)) rfl rfl (Nat.zero_le _) (Nat.le_refl _) Q]
  have up: ∀{b k u},Own s b k u->Own (dSt s.mem s2.next) b k u:=λh=>⟨Nat.lt_of_lt_of_le h.1 x12n,h.2⟩
  have hBsU:Bs (oSt s.mem s2.next) v l:=by
   rcases hBs with h|⟨bb,oo,cc,e1,e2,e3,e4⟩
   ·exact .inl h
   ·exact .inr ⟨bb,oo,cc,e1,e2,e3,λi u e=>⟨Nat.lt_of_lt_of_le (e4 i u e).1 x12n,(e4 i u e).2⟩⟩
  refine aH Dq (up hB).at' λrd2 hr2=> ?_
  simp only[Ag,Af,Ae,Dz]
  refine W.dopG ?_
  rw[Ah]
  refine Wx.w (DN_ (s:=oSt s.mem s2.next) (at0:=at0) (Nat.le_refl _) ((up h1).same rfl rfl) hBsU ((up h2).same rfl rfl) hat hz hdj (by omega) (λ_ s4 b4 c4 x4 o4 hb4 r4=>⟨_,_,x4,λrd4 wr4 hr4 hw4=> ?_⟩) λh=>absurd hc (by omega))
  have n4:s2.next<=s4.next:=x4.nxt
  have hb4':s2.next<=b4:=hb4
  rw[Aa]
  refine⟨NV ?_, ?_⟩
  ·simp only[List.reverse_cons,List.reverse_nil,List.nil_append,List.cons_append,allP,E9,List.take,IZ]
   have w4: ∀x∈wr4,x<s2.next/\x=R+2:=hw4
   have r2': ∀x∈rd2,x=B+0:=hr2
   have lts: ∀x,s2.next<=x-> ¬x<s2.next:=λx h=>by omega
   refine⟨?_, ?_, ?_, ?_⟩<;>simp+contextual [lts]
   all_goals first
    |trivial
    |(repeat' first
     |exact .inl rfl
     |apply And.intro
     |(intro x hx;have:=w4 x hx;have:=r2';simp_all;omega)
     |(intro x hx hy;have:=w4 x;have:=r2' x;simp_all;omega))
  ·refine W.cast (Sl_ _ _ _ _ _ _ _ _) ?_
   simp only[Ac,W_oS,Aa,Ag,Af,Ae,reduceCtorEq, ↓reduceIte]
   obtain⟨sA,hsA⟩: ∃sA,sA=CB (s.cxN cxN) s2:=⟨_,rfl⟩
   have xA:Ext Any (λx=>x=R+2) (s.cxN cxN) sA:=by
    rw[hsA]
    exact⟨x12.nxt,rfl,rfl,λ_ _ _=>rfl,x12.rd,x12.wr⟩
   have nA:sA.next=s2.next:=by rw[hsA];rfl
   have mA:sA.mem=s.mem:=by rw[hsA];rfl
   generalize hsF:(⟨(dSt s4.mem s4.next).mem,(dSt s4.mem s4.next).next,(s.cxN cxN).lim,_,_,(s.cxN cxN).cx⟩:St)=sF
   have mF:sF.mem=s4.mem:=by rw[<-hsF];rfl
   have nF:sF.next=s4.next:=by rw[<-hsF];rfl
   have xF0:Ext (λ_=>True) (λx=>x=R+2) sA sF:=by
    rw[<-hsF,hsA]
    refine aU (s:=CB (s.cxN cxN) s2) n4 (λx hx hg=>x4.mem x hx hg) ?_ λ_ _ _ _ _=>trivial
    simp only[List.mem_cons,List.not_mem_nil,or_false]
    rintro m (rfl|rfl|rfl) x hx hl
    ·exact(hw4 x hx).2
    ·cases hx
    ·cases hx
   have xF:Ext Any (λx=>x=R+2) (s.cxN cxN) sF:=xA.trans xF0 hb0 (λ_ _ _=>trivial) λ_ _ h=>h
   have bF:=xF.bnd hb0
   have ifN:(if(16:Nat)=0 then 0 else 0+0*1)=0:=rfl
   have rowF:Row sF b4 0 (u8l ((l.take (at0+16)).drop at0)):=λi u e=>((r4 i u e).same mF nF).at'
   have hm16:((l.take (at0+16)).drop at0).length=16:=by rw[List.length_drop,List.length_take];omega
   have ownF: ∀i,i<16-> ∃u,Own sF N (0+i) u:=λi hi=>by
    obtain⟨u,hu⟩:=oN i hi
    exact⟨u,(hu.same (s':=s.cxN cxN) rfl rfl).ext xF λk=>hNR i hi (by omega)⟩
   refine W.copy (b:=N) (o:=0) (k:=16) (l:=u8l ((l.take (at0+16)).drop at0)) PY rfl (FY (n:=16) (c:=c4) rowF (by rw[Bu,hm16])).2 (by rw[Bu,hm16]) (DI _) (λi hi=>ownF i (by omega)) λsG nG xG rG=> ?_
   have xG':Ext Any (λx=>x=R+2\/(N<=x/\x<N+16)) (s.cxN cxN) sG:=(xF.weak hb0 (λ_ _ h=>h) λ_ _ h=> .inl h).trans xG hb0 (λ_ _ _=>trivial) λy _ hy=>by
    have h1:N+0<=y:=hy.1
    have h2:y<N+0+16*1:=hy.2
    exact .inr ⟨by omega,by omega⟩
   refine Wx.of (W.endG Px_ (.inr (by kernel_rfl)) (by omega) II_ ZW_ xG'.cx (aM ?_))
   refine q hc _ _ xG'.cx' (((o4.same mF nF).ext xG λk=> ?_).same rfl rfl) λi u e=>(rG i u e).same rfl rfl
   have h1:N+0<=R+2:=k.1
   have h2:R+2<N+0+16*1:=k.2
   exact hNR (R+2-N) (by omega) (by omega)
 ·have x12:Ext Any (λx=>x=R+2\/(N<=x/\x<N+16)) (s.cxN cxN) s2:=(x1.weak hb0 (λ_ _ h=>h) λ_ _ h=>h.elim).trans x2 hb0 (λ_ _ _=>trivial) λ_ _ h=> .inl h
  refine⟨x12.cx,p hc e pos _ he x12.cx' (o2.imp λu h=>h.same rfl rfl) λi u e=> ?_⟩
  have hi:i<16:=by
   have:=(List.getElem?_eq_some_iff.1 e).1
   simpa using this
  exact(((hN0 i u e).same m1 n1).ext x2 λk=>hNR i hi (by omega)).same rfl rfl
end
theorem AaY_:(List.replicate 16 (.int .u8 0):List Value)=u8l (List.replicate 16 0):=by simp
theorem Acu_ (p:Option Addr)(n c:Nat):GP envS 152 [(0, .bool true),(1, .slice p n c)]=some [.bool true, .slice p n c, .int .i64 0, .int .i64 0, .int .i64 0]:=by kernel_rfl
theorem R4:D8 envS 116=some [.int .i64 0, .int .i64 0]:=by kernel_rfl
section
variable {R n:Nat}{v:Value}{l:List Nat}{s:St}{Q:Value->St->Prop}{st:Rd}
theorem NN (st:Rd):(rID st).1.length=16:=by
 cases st with
 |none=>rfl
 |some r=>
  unfold rID
  simp only
  split
  ·rfl
  ·show(r.take 16).length=16
   rw[List.length_take]
   omega
theorem SP_ (hb:s.lim<=s.next)(h:RdI s R v l st)(hz:l.length<=1000000000)(hn:600<=n)
  (q: ∀s1,Ext Any (RdG R) s s1->RdI s1 R v l (rID st).2->Q (.agg (u8l (rID st).1).toArray) s1):W (Ay envS (runF envS n) 122 [.pointer (some ⟨R,0,none⟩)]) s Q:=by
 have hb0:(s.cxN cxN).lim<=(s.cxN cxN).next:=hb
 refine ME_ λtm k0=> ?_
 refine Lt_.w rfl (by omega) ?_
 simp only[Hb_,Ac,W_oS,Aa,Ab,k0]
 refine W.box λs1 n1 x1 o1=> ?_
 have o1':Own s1 s.next 0 (.pointer (some ⟨R,0,none⟩)):=o1 0 _ rfl
 have n1':s1.next=s.next+2:=n1
 have y1:Ext Any Non (s.cxN cxN) s1:=x1.any hb0
 refine W.alloc Afx_ λs4 n4 x4 o4=> ?_
 rw[AaY_]at o4
 have n4':s4.next=s1.next+17:=n4
 have y4:=y1.then0 x4 hb0
 have oB:Own s4 s.next 0 (.pointer (some ⟨R,0,none⟩)):=o1'.ext0 x4
 have h4:RdI s4 R v l st:=(h.same (s':=s.cxN cxN) rfl rfl).ext0 y4
 have hb4:=y4.bnd hb0
 have hRt:R+4<s.next:=h.rt
 have hs1:s.next<=s1.next:=y1.nxt
 have fin: ∀(n':Nat) (tm':T Value) (s5:St) (td':List Item),10<=n'->skim 64 td'=I6->Ext Any (RdG R) (s.cxN cxN) s5->RdI s5 R v l (rID st).2->AC s5 s1.next 0 (u8l (rID st).1)->T.get tm' 2=some (.pointer (some ⟨s1.next,0,none⟩))->
   W (runF envS n' ⟨122,OW_,Jz,tm',td', .run, .normal,none⟩) s5 λp s1=>Q p.1 (s1.cxN s.cx):=by
  intro n' tm' s5 td' hn' hT' y5 h5 o5 g6
  have hl16:(u8l (rID st).1).length=16:=by rw[Bu,NN]
  refine Yf_.w hT' (by omega) ?_
  simp only[Ao_,Ac,W_oS,Aa,g6]
  refine aJ J1 o5.row hl16 λs6 m6 n6 x6=> ?_
  have y6:Ext Any (RdG R) (s.cxN cxN) s6:=y5.trans x6 hb0 (λ_ _ _=>trivial) λ_ _ h=>h.elim
  refine W.store (b:=s1.next) (o:=0) J1 (v:= .agg (u8l (rID st).1).toArray) hl16 (DI _) (λj hj=>AC.owned (λi u e=>(o5 i u e).ext0 x6) j (by rw[hl16];exact hj)) λs7 n7 x7 o7=> ?_
  have y7:Ext Any (RdG R) (s.cxN cxN) s7:=y6.trans x7 hb0 (λ_ _ _=>trivial) λy hy hh=>by
   have h1:=hh.1
   have h2:y<s.next:=hy
   omega
  have h7:RdI s7 R v l (rID st).2:=(h5.ext0 x6).ext x7 λy hy hh=>by
   have h1:=hh.1
   rcases hy with hy|hy
   ·omega
   ·have:=h.lt y hy
    omega
  refine W.endC SC_ (.inl AhG_) (by omega) Iu_ AdL_ y7.cx (by simpa [aA]using g6) ?_
  refine aJ (o:=0) J1 (AC.row o7) hl16 λs8 m8 n8 x8=> ?_
  exact q _ (y7.trans x8 hb0 (λ_ _ _=>trivial) λ_ _ h=>h.elim).cx' ((h7.ext0 x8).same rfl rfl)
 refine Aed_.w Ri_ (by omega) ?_
 simp only[GA_,Ac,W_oS,W_on,Aa,aA,Ag,Af,Ae,Ah,Nat.reduceEqDiff, ↓reduceIte]
 refine aD Dq oB.at' ?_
 have y5:=y4.thenRd hb0 (s.next+(0+0))
 have y5':Ext Any Non s4 (s4.rdN (s.next+(0+0))):=(Ext.refl (F:=Any) (G:=Non) s4).thenRd hb4 _
 obtain⟨s5,hs5⟩: ∃s5,s5=s4.rdN (s.next+(0+0)):=⟨_,rfl⟩
 have b5:s5.lim<=s5.next:=by rw[hs5];exact y5.bnd hb0
 have n5:s5.next=s4.next:=by rw[hs5];rfl
 have z5:Ext Any Non s4 s5:=by rw[hs5];exact y5'
 have y55:Ext Any Non (s.cxN cxN) s5:=by rw[hs5];exact y5
 have h5:=h4.ext0 z5
 have oB5:=oB.ext0 z5
 have oN5:AC s5 s1.next 0 (u8l (List.replicate 16 0)):=λi u e=>(o4 i u e).ext0 z5
 rw[show((s4.rdN ((s.cxN cxN).next+(0+0))):St)=s5 from hs5.symm]
 cases st with
 |none=>
  obtain⟨a,e,p,g2,g3,g4,he⟩:=h5.st
  refine SY b5 h5.o0 g3 he (by omega) λu s6 x6=> ?_
  exact fin _ _ s6 _ (by omega) TS ((y55.then0 x6 hb0).weak hb0 (λ_ _ h=>h) λ_ _ h=>h.elim) (h5.ext0 x6) (λi u e=>(oN5 i u e).ext0 x6) (by simp[aA])
 |some r=>
  obtain⟨g2,g3,⟨p4,g4⟩,hr,hrl⟩:=h5.st
  have nR: ∀y,(s1.next<=y/\y<s1.next+16)-> ¬(R<=y/\y<R+5)/\ ¬BsF v y:=λy hy=>⟨λk=>by omega,λk=>by have:=h.lt y k;omega⟩
  refine Q2 (G:=λx=>x=R+2\/(s1.next<=x/\x<s1.next+16)) (Φ:=λs7=>16<=r.length/\Own s7 R 2 (.int .i64 (l.length-r.length+16:Nat))/\AC s7 s1.next 0 (u8l ((l.take (l.length-r.length+16)).drop (l.length-r.length)))) (Ψ:=λs7=>r.length<16/\AC s7 s1.next 0 (u8l (List.replicate 16 0))) b5 h5.o0 g2 g3 ⟨_,g4⟩ (λx hx=>by omega) (by omega) (λn' s6 hn' b6 x6=> ?_) (λu s7 s8 hΦ m8 n8 x8=> ?_) λu s7 s8 e pos he hΨ x78 x8 o82 o83 o84=> ?_
  ·have z6:Ext Any Non s5 (s6.cxN s5.cx):=x6.cxs s5.cx s5.cx
   refine PW_ (s:=s6) (B:=s.next) (N:=s1.next) (at0:=l.length-r.length) b6 ((oB5.ext0 z6).same rfl rfl) (λi u e=>((oN5 i u e).ext0 z6).same rfl rfl) (λi hi=>by omega) (by omega) (λx hx=>λk=>(nR x k).2 hx) ((h5.o1.ext0 z6).same rfl rfl) ((h5.bs.ext0 z6).same rfl rfl) ((g2.ext0 z6).same rfl rfl) (by omega) hz (λx hx hx'=>h5.dj x hx (by omega)) (by omega) (λhc u s7 x7 o1 o2=> ?_) λhc e pos s7 he x7 o1 o2=> ?_
   ·exact⟨x7,by omega,o1,o2⟩
   ·exact⟨e,pos,rfl,he,x7,o1,by omega,o2⟩
  ·obtain⟨hc,o1,o2⟩:=hΦ
   have e3:rID (some r)=(r.take 16,some (r.drop 16)):=by
    unfold rID
    simp only
    rw[if_neg (by omega)]
   have e4:(l.take (l.length-r.length+16)).drop (l.length-r.length)=r.take 16:=by
    conv=>rhs;rw[hr]
    rw[List.drop_take,show l.length-r.length+16-(l.length-r.length)=16 by omega]
   rw[e4]at o2
   have e5:(r.drop 16).length=r.length-16:=List.length_drop
   have y8:Ext Any (RdG R) (s.cxN cxN) s8:=(y55.weak hb0 (λ_ _ h=>h) λ_ _ h=>h.elim).trans x8 hb0 (λ_ _ _=>trivial) λy hy h=>by
    have h2:y<s.next:=hy
    rcases h with h|h
    ·exact .inl h
    ·omega
   have h8:RdI s8 R v l (some (r.drop 16)):=h5.adv x8 (λy hy=>by
    rcases hy with hy|hy
    ·exact .inl hy
    ·exact .inr (nR y hy)) (by
     rw[e5,show l.length-(r.length-16)=l.length-r.length+16 by omega]
     exact o1.same m8 n8) (by
     conv=>lhs;rw[hr]
     rw[List.drop_drop,e5]
     congr 1
     omega) (by omega)
   exact fin _ _ s8 _ (by omega) TS y8 (by rw[e3];exact h8) (by rw[e3];exact λi u e=>(o2 i u e).same m8 n8) (by simp[aA])
  ·obtain⟨hc,o1⟩:=hΨ
   have e3:rID (some r)=(List.replicate 16 0,none):=by
    unfold rID
    simp only
    rw[if_pos hc]
   have y8:Ext Any (RdG R) (s.cxN cxN) s8:=(y55.weak hb0 (λ_ _ h=>h) λ_ _ h=>h.elim).trans x8 hb0 (λ_ _ _=>trivial) λy hy h=>by
    have h2:y<s.next:=hy
    rcases h with(h|h)|h
    ·exact .inl h
    ·omega
    ·exact h
   have h8:RdI s8 R v l none:=h5.flt x8 (λy hy=>by
    rcases hy with(hy|hy)|hy
    ·exact .inl (.inl hy)
    ·exact .inr (nR y hy)
    ·exact .inl hy) o82 o83 o84 he
   have o8:AC s8 s1.next 0 (u8l (List.replicate 16 0)):=λi u e=>(((o1 i u e).same (s':=s7.cxN cxN) rfl rfl).ext x78 λk=>by
    rcases k with k|k|k<;>omega).same rfl rfl
   exact fin _ _ s8 _ (by omega) TS y8 (by rw[e3];exact h8) (by rw[e3];exact o8) (by simp[aA])
theorem VF (hb:s.lim<=s.next)(h:RdI s R v l st)(hn:40<=n)(q: ∀(e p:Int) s1,Ext Any Non s s1->(e=0↔st≠none)->Q (.agg #[.int .i64 e, .int .i64 p]) s1):
  W (Ay envS (runF envS n) 84 [.pointer (some ⟨R,0,none⟩)]) s Q:=by
 have hb0:(s.cxN cxN).lim<=(s.cxN cxN).next:=hb
 obtain⟨e,p,g3,g4,he⟩: ∃e p:Int,Own s R 3 (.int .i64 e)/\Own s R 4 (.int .i64 p)/\(e=0↔st≠none):=by
  cases st with
  |none=>
   obtain⟨a,e,p,g2,g3,g4,he⟩:=h.st
   exact⟨e,p,g3,g4,by simp[he]⟩
  |some r=>
   obtain⟨g2,g3,⟨p,g4⟩,_⟩:=h.st
   exact⟨0,p,g3,g4,by simp⟩
 refine YN_ λtm k0=> ?_
 refine SV_.w rfl (by omega) ?_
 simp only[FD_,Ac,Aa,Ab]
 refine W.alloc R4 λs1 n1 x1 o1=> ?_
 have n1':s1.next=s.next+3:=n1
 have y1:Ext Any Non (s.cxN cxN) s1:=x1.any hb0
 refine AkL_.w Ajw_ (by omega) ?_
 simp only[Kj_,Ac,W_oS,W_on,Aa,W_mv,Ab,aA,Ai,An,Ak,Al,Aj,Ao,reduceCtorEq, ↓reduceIte,k0,My Eu_,A8 Dv_ (by decide)]
 refine aD Fi ((h.o0.same (s':=s.cxN cxN) rfl rfl).ext0 y1).at' ?_
 have y2:=y1.thenRd hb0 (R+(0+0))
 simp only[DW,Bool.not_true]
 refine W.cond (v:=false) YJ_ Sp_ (by simp[aA]) (by omega) (λh=>by cases h) λ_=> ?_
 refine TJ_.w RJ_ (by omega) ?_
 simp only[Hr_,Ac,W_oS,Aa,W_mv,aA,Ao,Nat.reduceEqDiff,reduceCtorEq, ↓reduceIte,k0,A8 UQ (by decide)]
 have rowE:Row (s1.rdN (R+(0+0))) R (0+3) [.int .i64 e, .int .i64 p]:=λj u hu=>by
  match j,hu with
  |0,hu=>cases hu;exact(((g3.same (s':=s.cxN cxN) rfl rfl).ext0 y1).same rfl rfl).at'
  |1,hu=>cases hu;exact(((g4.same (s':=s.cxN cxN) rfl rfl).ext0 y1).same rfl rfl).at'
 refine aJ Ej rowE rfl λs3 m3 n3 x3=> ?_
 have y3:=y2.then0 x3 hb0
 have o1':AC s3 s.next 0 [.int .i64 0, .int .i64 0]:=λj u hu=>((o1 j u hu).same (s':=s1.rdN (R+(0+0))) rfl rfl).ext0 x3
 refine W.store (b:=s.next) (o:=0) Ej (v:= .agg #[.int .i64 e, .int .i64 p]) rfl rfl (λj hj=>AC.owned o1' j (by simpa using hj)) λs4 n4 x4 o4=> ?_
 have y4:Ext Any Non (s.cxN cxN) s4:=y3.trans x4 hb0 (λ_ _ _=>trivial) λy hy hh=>by
  have h1:=hh.1
  have h2:y<s.next:=hy
  omega
 refine W.endC Uh_ (.inl WW_) (by omega) DL_ TI_ y4.cx (by simp[aA];rfl) ?_
 refine aJ (b:=s.next) (o:=0) Ej (AC.row o4) rfl λs5 m5 n5 x5=> ?_
 exact q e p _ (y4.then0 x5 hb0).cx' he
end
theorem Cf_ {α:Type}(m:M α):M.chk true m=m:=rfl
theorem AcS_ {α:Type}(x y:M α):aC true x y=x:=rfl
theorem TQ_ {α:Type}(x y:M α):aC false x y=y:=rfl
section
variable {R n:Nat}{v:Value}{l:List Nat}{s:St}{Q:Value->St->Prop}{st:Rd}
theorem MN_ (hb:s.lim<=s.next)(h:RdI s R v l st)(hz:l.length<=1000000000)(hn:100<=n)(q: ∀(e p:Int) s1,Ext Any Non s s1->(e=0↔st=some [])->Q (.agg #[.int .i64 e, .int .i64 p]) s1):
  W (Ay envS (runF envS n) 86 [.pointer (some ⟨R,0,none⟩)]) s Q:=by
 have hb0:(s.cxN cxN).lim<=(s.cxN cxN).next:=hb
 have h':RdI (s.cxN cxN) R v l st:=h.same rfl rfl
 refine MU_ λtm k0=> ?_
 refine Aea_.w rfl (by omega) ?_
 simp only[Fh_,Ac,Aa,Ab]
 refine W.alloc R4 λs1 n1 x1 o1=> ?_
 have n1':s1.next=s.next+3:=n1
 have y1:Ext Any Non (s.cxN cxN) s1:=x1.any hb0
 refine Aie_.w Ww_ (by omega) ?_
 simp only[AB_,Ac,W_oS,W_on,Aa,W_mv,Ab,aA,Ag,Af,Ae,Ah,reduceCtorEq, ↓reduceIte,k0]
 refine VF (y1.bnd hb0) (h'.ext0 y1) (by omega) λe p s2 x2 he=> ?_
 have y2:=y1.then0 x2 hb0
 refine W.alloc R4 λs3 n3 x3 o3=> ?_
 have y3:=y2.then0 x3 hb0
 have n3':s3.next=s2.next+3:=n3
 have n12:s1.next<=s2.next:=x2.nxt
 refine W.store (b:=s2.next) (o:=0) Ej (v:= .agg #[.int .i64 e, .int .i64 p]) rfl rfl (λj hj=>AC.owned o3 j (by simpa using hj)) λs4 n4 x4 o4=> ?_
 have y4:Ext Any Non (s.cxN cxN) s4:=y3.trans x4 hb0 (λ_ _ _=>trivial) λy hy hh=>by
  have h1:=hh.1
  have h2:y<s.next:=hy
  omega
 have o4':AC s4 s2.next 0 [.int .i64 e, .int .i64 p]:=o4
 have oT:AC s4 s.next 0 [.int .i64 0, .int .i64 0]:=λj u hu=>(((o1 j u hu).ext0 x2).ext0 x3).ext x4 λhh=>by
  have h1:=hh.1
  have h2:j<2:=(List.getElem?_eq_some_iff.1 hu).1
  have h3:s2.next<=s.next+(0+j):=by
   show s2.next<=_
   have:s2.next+0<=s.next+(0+j):=h1
   omega
  omega
 have h4:RdI s4 R v l st:=h'.ext0 y4
 have oE:Own s4 s2.next 0 (.int .i64 e):=o4' 0 _ rfl
 have fin: ∀(n':Nat) (tm':T Value) (s5:St) (td':List Item) (e' p':Int),10<=n'->skim 64 td'=GR->Ext Any Non (s.cxN cxN) s5->AC s5 s2.next 0 [.int .i64 e', .int .i64 p']->AC s5 s.next 0 [.int .i64 0, .int .i64 0]->(e'=0↔st=some [])->T.get tm' 2=some (.pointer (some ⟨s.next,0,none⟩))->T.get tm' 3=some (.pointer (some ⟨s2.next,0,none⟩))->
   W (runF envS n' ⟨86,Mw_,Fs,tm',td', .run, .normal,none⟩) s5 λp s1=>Q p.1 (s1.cxN s.cx):=by
  intro n' tm' s5 td' e' p' hn' hT' y5 r5 t5 he' g2 g3
  refine AhV_.w hT' (by omega) ?_
  simp only[Gn_,Ac,W_oS,Aa,g3]
  refine aJ (o:=0) Ej r5.row rfl λs6 m6 n6 x6=> ?_
  have y6:=y5.then0 x6 hb0
  try simp only[W_oS,g2]
  refine W.store (b:=s.next) (o:=0) Ej (v:= .agg #[.int .i64 e', .int .i64 p']) rfl rfl (λj hj=>AC.owned (λj u hu=>(t5 j u hu).ext0 x6) j (by simpa using hj)) λs7 n7 x7 o7=> ?_
  have y7:Ext Any Non (s.cxN cxN) s7:=y6.trans x7 hb0 (λ_ _ _=>trivial) λy hy hh=>by
   have h1:=hh.1
   have h2:y<s.next:=hy
   omega
  refine W.endC AaH_ (.inl Ais_) (by omega) Ez_ Aft_ y7.cx (by simp[g2];rfl) ?_
  refine aJ (b:=s.next) (o:=0) Ej (AC.row o7) rfl λs8 m8 n8 x8=> ?_
  exact q e' p' _ (y7.then0 x8 hb0).cx' he'
 refine Ajs_.wr Rq_ (by omega) ?_
 simp only[JT_,aA,Nat.reduceEqDiff, ↓reduceIte,k0,BW,CS JV (by decide)]
 refine aH (b:=s2.next) (o:=0+0) El_ (oE.same (s':=dSt s4.mem s4.next) rfl rfl).at' λrd1 _=> ?_
 simp only[BW]
 rw[W_dq λs Q=>EU (s:=s) e 0 (Q:=Q)]
 simp only[Br]
 by_cases he0:e=0
 ·have ed:decide (e=0)=true:=decide_eq_true he0
  obtain⟨r,hst⟩: ∃r,st=some r:=by
   cases st with
   |none=>exact absurd rfl (he.1 he0)
   |some r=>exact⟨r,rfl⟩
  subst hst
  obtain⟨g2,g3,_,hr,hrl⟩:=h4.st
  simp only[ed,Ai,Ap,Cf_,AcS_,Br,CY,CS Dh (by decide)]
  refine aH Be (g2.same (s':=dSt s4.mem s4.next) rfl rfl).at' λrd2 _=> ?_
  simp only[Br,CY,CS EE (by decide)]
  refine aH CO (h4.o1.same (s':=dSt s4.mem s4.next) rfl rfl).at' λrd3 _=> ?_
  simp only[Ag,Af,Ae,BW]
  rw[W_dq λs Q=>h4.bs.len' (s':=s) BE Q]
  simp only[BW]
  rw[W_dq λs Q=>Bg (s:=s) ((l.length-r.length:Nat):Int) ((l.length:Nat):Int) (Q:=Q),Aa]
  refine⟨rfl,by simp,by simp,λs5 m5 n5 x5=> ?_⟩
  refine W.cast (VN _ _ _ _ _ _ _ _ _ _ _ _ _ _ _ _ _ _ _) ?_
  simp only[Ac,W_on,Aa,Ar,Aj, ↓reduceIte]
  have y5:=y4.then0 x5 hb0
  by_cases hr0:r=[]
  ·refine W.cond (v:=false) QY Sv (by simp[aA,hr0]) (by omega) (λh=>by cases h) λ_=> ?_
   exact fin _ _ s5 _ e p (by omega) Yu y5 (λj u hu=>(o4' j u hu).ext0 x5) (λj u hu=>(oT j u hu).ext0 x5) (by simp[he0,hr0]) (by simp[aA]) (by simp[aA])
  ·have hrp:0<r.length:=List.length_pos_iff.2 hr0
   refine W.cond (v:=true) QY Sv (by simp[aA];omega) (by omega) (λ_=> ?_) λh=>by cases h
   refine UT_.w AaU_ (by omega) ?_
   simp only[JC_,Ac,W_oS,Aa,W_mv,aA,Aw,Av,Ae,Ao,Nat.reduceEqDiff,reduceCtorEq, ↓reduceIte,k0,A8 Dh (by decide)]
   refine aD Be (g2.ext0 x5).at' ?_
   have y6:=y5.thenRd hb0 (R+(0+2))
   simp only[J4 (YX 4 _)]
   refine W.store (b:=s2.next) (o:=0) Ej (v:= .agg #[.int .i64 4, .int .i64 (l.length-r.length:Nat)]) rfl rfl (λj hj=>AC.owned (λj u hu=>((o4' j u hu).ext0 x5).same (s':=s5.rdN (R+(0+2))) rfl rfl) j (by simpa using hj)) λs7 n7 x7 o7=> ?_
   have y7:Ext Any Non (s.cxN cxN) s7:=y6.trans x7 hb0 (λ_ _ _=>trivial) λy hy hh=>by
    have h1:=hh.1
    have h2:y<s.next:=hy
    omega
   refine fin _ _ s7 _ 4 _ (by omega) RH_ y7 o7 (λj u hu=>(((oT j u hu).ext0 x5).same (s':=s5.rdN (R+(0+2))) rfl rfl).ext x7 λhh=> ?_) (by simp[hr0]) (by simp[aA]) (by simp[aA])
   have h1:s2.next+0<=s.next+(0+j):=hh.1
   have h2:j<2:=(List.getElem?_eq_some_iff.1 hu).1
   omega
 ·have ed:decide (e=0)=false:=decide_eq_false he0
  have hst:st=none:=by
   cases st with
   |none=>rfl
   |some r=>exact absurd (he.2 (by simp)) he0
  simp only[ed,Ai,Au,Cf_,TQ_,Br]
  rw[Aa]
  refine⟨rfl,by simp,by simp,λs5 m5 n5 x5=> ?_⟩
  refine W.cast (VN _ _ _ _ _ _ _ _ _ _ _ _ _ _ _ _ _ _ _) ?_
  simp only[Ac,W_on,Aa,Ar,Aj,reduceCtorEq, ↓reduceIte]
  have y5:=y4.then0 x5 hb0
  refine W.cond (v:=false) QY Sv (by simp[aA]) (by omega) (λh=>by cases h) λ_=> ?_
  exact fin _ _ s5 _ e p (by omega) Yu y5 (λj u hu=>(o4' j u hu).ext0 x5) (λj u hu=>(oT j u hu).ext0 x5) (by simp[he0,hst]) (by simp[aA]) (by simp[aA])
theorem Aex_ (hb:s.lim<=s.next)(hv:Bs s v l)(hz:l.length<=1000000)(hn:20<=n)(q: ∀s1 w R,Ext Any Non s s1->s.next<=R->(∀x,BsF w x->s.next<=x)->RdI s1 R w l (some l)->Q (.pointer (some ⟨R,0,none⟩)) s1):
  W (Ay envS (runF envS n) 82 [v]) s Q:=by
 have hb0:(s.cxN cxN).lim<=(s.cxN cxN).next:=hb
 refine Qm_ λtm k0=> ?_
 refine Nm_.w rfl (by omega) ?_
 simp only[WA,Aa,W_mv,Ab]
 refine Pe_.w Nl_ (by omega) ?_
 simp only[Jd_,Ac,W_oS,Aa,W_mv,Ab,aA,Ag,Af,Aw,Av,Ae,reduceCtorEq, ↓reduceIte,k0]
 rw[Ee]
 refine W.appV (s:=s.cxN cxN) (len:=0) (old:=[]) (b:=s.next) hb0 ES (.inl ⟨rfl,rfl,rfl⟩) (Bs.src (hv.same (s':=s.cxN cxN) rfl rfl)).g (by decide) (by decide) (by omega) (by rw[Bu];omega) (DI _) λs1 w wb hwb mk x1=> ?_
 have y1:Ext Any Non (s.cxN cxN) s1:=x1.weak hb0 (λ_ _ _=>trivial) λy _ hy=>absurd hy.1 (by decide)
 rw[List.nil_append,Nat.zero_add]at mk
 have hwn:s.next<=wb:=by
  rcases hwb with⟨h,_⟩|h
  ·exact Nat.le_of_eq h.symm
  ·exact h
 obtain⟨p,c,ew⟩:=mk.sl
 rw[ew,J4 (Acu_ p l.length c),<-ew]
 refine W.box λs2 n2 x2 o2=> ?_
 have n2':s2.next=s1.next+6:=n2
 have y2:=y1.then0 x2 hb0
 have o2':AC s2 s1.next 0 [.bool true,w, .int .i64 0, .int .i64 0, .int .i64 0]:=o2
 have n01:s.next<=s1.next:=y1.nxt
 refine aG (rs:=[2]) (vs:=[.pointer (some ⟨s1.next,0,none⟩)]) Adu_ (.inl AkQ_) (by omega) Zf Aef_ y2.cx (by simp[aA]) ?_
 have hbs:Bs s2 w l:=(mk.bs (by unfold capU;omega)).ext0 x2
 have hlt: ∀x,BsF w x->s.next<=x/\x<s1.next:=λx hx=>by
  have h1:=mk.bsF x hx
  have h2:=mk.lt x h1
  have h3:wb+0<=x:=h1.2.1
  exact⟨by omega,h2⟩
 refine q _ w s1.next y2.cx' n01 (λx hx=>(hlt x hx).1) ⟨(o2' 0 _ rfl).same rfl rfl,(o2' 1 _ rfl).same rfl rfl,⟨by rw[Nat.sub_self];exact(o2' 2 _ rfl).same rfl rfl,(o2' 3 _ rfl).same rfl rfl,⟨0,(o2' 4 _ rfl).same rfl rfl⟩,by rw[Nat.sub_self];rfl,Nat.le_refl _⟩,hbs.same rfl rfl,λx hx k=>by have:=(hlt x hx).2;omega,λx hx=> ?_, ?_⟩
 ·have:=(hlt x hx).2
  show x<s2.next
  omega
 ·show s1.next+4<s2.next
  omega
end
end Go.Proofs.Ytofanlcjeohcjaa.Am
