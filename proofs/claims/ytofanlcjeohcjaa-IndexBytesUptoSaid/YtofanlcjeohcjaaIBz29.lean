import Derived.Test.YtofanlcjeohcjaaIBz28
namespace Go.Proofs.Ytofanlcjeohcjaa.Am
open Go.RowKit
theorem Im:fldN envS 122 0=some (0,1,false):=X
theorem C2:fldN envS 122 1=some (1,1,false):=X
theorem D3:fldN envS 122 2=some (2,2,true):=X
abbrev RrG (R:Nat):Nat->Prop:=λx=>x=R+1\/x=R+2\/x=R+3
def RrSt (s:St)(R:Nat)(l:List Nat):Rd->Prop
 |some r=>Own s R 1 (.int .i64 (l.length-r.length:Nat))/\Own s R 2 (.int .i64 0)/\(∃p:Int,Own s R 3 (.int .i64 p))/\r=l.drop (l.length-r.length)/\r.length<=l.length
 |none=> ∃at0 e p:Int,Own s R 1 (.int .i64 at0)/\Own s R 2 (.int .i64 e)/\Own s R 3 (.int .i64 p)/\e≠0
structure RrI (s:St)(R:Nat)(v:Value)(l:List Nat)(st:Rd):Prop where
 o0:Own s R 0 v
 st:RrSt s R l st
 bs:Bs s v l
 dj: ∀x,BsF v x-> ¬(R<=x/\x<R+4)
 lt: ∀x,BsF v x->x<s.next
 rt:R+3<s.next
theorem RrSt.ext {F G:Nat->Prop}{s s':St}{R:Nat}{l:List Nat}{st:Rd}(h:RrSt s R l st)(x:Ext F G s s')(hG: ∀y,R<=y/\y<R+4-> ¬G y):RrSt s' R l st:=by
 cases st with
 |some r=>
  obtain⟨h2,h3,⟨p,h4⟩,h5⟩:=h
  exact⟨h2.ext x (hG _ J),h3.ext x (hG _ J),⟨p,h4.ext x (hG _ J)⟩,h5⟩
 |none=>
  obtain⟨a,e,p,h2,h3,h4,he⟩:=h
  exact⟨a,e,p,h2.ext x (hG _ J),h3.ext x (hG _ J),h4.ext x (hG _ J),he⟩
theorem RrSt.same {s s':St}{R:Nat}{l:List Nat}{st:Rd}(h:RrSt s R l st)(hm:s'.mem=s.mem)(hn:s'.next=s.next):RrSt s' R l st:=by
 cases st with
 |some r=>
  obtain⟨h2,h3,⟨p,h4⟩,h5⟩:=h
  exact⟨h2.same hm hn,h3.same hm hn,⟨p,h4.same hm hn⟩,h5⟩
 |none=>
  obtain⟨a,e,p,h2,h3,h4,he⟩:=h
  exact⟨a,e,p,h2.same hm hn,h3.same hm hn,h4.same hm hn,he⟩
theorem RrI.same {s s':St}{R:Nat}{v:Value}{l:List Nat}{st:Rd}(h:RrI s R v l st)(hm:s'.mem=s.mem)(hn:s'.next=s.next):RrI s' R v l st:=⟨h.o0.same hm hn,h.st.same hm hn,h.bs.same hm hn,h.dj,by rw[hn];exact h.lt,by rw[hn];exact h.rt⟩
theorem RrI.ext {F G:Nat->Prop}{s s':St}{R:Nat}{v:Value}{l:List Nat}{st:Rd}(h:RrI s R v l st)(x:Ext F G s s')(hG: ∀y,(R<=y/\y<R+4)\/BsF v y-> ¬G y):RrI s' R v l st:=
 ⟨h.o0.ext x (hG _ (.inl J)),h.st.ext x λy hy=>hG y (.inl hy),h.bs.ext x λy hy=>hG y (.inr hy),h.dj,λy hy=>Nat.lt_of_lt_of_le (h.lt y hy) x.nxt,Nat.lt_of_lt_of_le h.rt x.nxt⟩
theorem RrI.ext0 {F:Nat->Prop}{s s':St}{R:Nat}{v:Value}{l:List Nat}{st:Rd}(h:RrI s R v l st)(x:Ext F Non s s'):RrI s' R v l st:=h.ext x λ_ _=>id
theorem RrI.adv {G:Nat->Prop}{s s':St}{R:Nat}{v:Value}{l r r':List Nat}(h:RrI s R v l (some r))(x:Ext Any G s s')(hG: ∀y,G y->y=R+1)(o:Own s' R 1 (.int .i64 (l.length-r'.length:Nat)))(e1:r'=l.drop (l.length-r'.length))(e2:r'.length<=l.length):RrI s' R v l (some r'):=by
 obtain⟨g2,g3,⟨p,g4⟩,_,_⟩:=h.st
 have k: ∀j,j<4->j≠1-> ¬G (R+j):=λj hj hj2 g=>by have:=hG _ g;omega
 exact⟨h.o0.ext x (k 0 J J),⟨o,g3.ext x (k 2 J J),⟨p,g4.ext x (k 3 J J)⟩,e1,e2⟩,h.bs.ext x λy hy g=>h.dj y hy (by have:=hG y g;omega),h.dj,λy hy=>Nat.lt_of_lt_of_le (h.lt y hy) x.nxt,Nat.lt_of_lt_of_le h.rt x.nxt⟩
theorem RrI.flt {G:Nat->Prop}{s s':St}{R:Nat}{v:Value}{l:List Nat}{st:Rd}{a e p:Int}(h:RrI s R v l st)(x:Ext Any G s s')(hG: ∀y,G y->RrG R y)(o1:Own s' R 1 (.int .i64 a))(o2:Own s' R 2 (.int .i64 e))(o3:Own s' R 3 (.int .i64 p))(he:e≠0):RrI s' R v l none:=by
 exact⟨h.o0.ext x λg=>by rcases hG _ g with g|g|g<;>omega,⟨a,e,p,o1,o2,o3,he⟩,h.bs.ext x λy hy g=>h.dj y hy (by rcases hG y g with g|g|g<;>omega),h.dj,λy hy=>Nat.lt_of_lt_of_le (h.lt y hy) x.nxt,Nat.lt_of_lt_of_le h.rt x.nxt⟩
theorem Zy_ {n at0:Nat}{v:Value}{l:List Nat}{s:St}(hb:s.lim<=s.next)(hB:Bs s v l)(hz:l.length<=1000000000)(hby:Byt l)(hat:at0<=l.length)(hn:300<=n):W (Ac envS (runF envS n) 142 [v, .int .i64 (at0:Nat)]) s λu s1=>
  ∃(m pl:Nat) (e pos:Int),u= .tuple #[.int .i64 (m:Nat), .int .i64 (pl:Nat), .agg #[.int .i64 e, .int .i64 pos]]/\Ext Any Non s s1/\(e≠0->numR (l.drop at0)=none)/\(e=0-> ∃r,numR (l.drop at0)=some (m,r)/\pl=l.length-r.length/\r=l.drop (l.length-r.length)/\r.length<=l.length):=
 ArD_ hb hB hz hby hat hn (λm r s1 h1 x1 h2 h3=>⟨m,_,0,0,rfl,x1,λh=>absurd rfl h,λ_=>⟨r,h1,rfl,h2,h3⟩⟩) λe pos s1 h1 he x1=>⟨0,0,e,pos,rfl,x1,λ_=>h1,λh=>absurd h he⟩
section
variable {R n:Nat}{v:Value}{l:List Nat}{s:St}{Q:Value->St->Prop}{st:Rd}
theorem Gb_ {lo hi:Nat}{ab:Int}(hab:ab≠0)(hb:s.lim<=s.next)(h:RrI s R v l st)(hz:l.length<=1000000000)(hby:Byt l)(hn:400<=n)
  (q: ∀s1,Ext Any (RrG R) s s1->RrI s1 R v l (rInt lo hi st).2->Q (.int .i64 ((rInt lo hi st).1:Nat)) s1):W (Ac envS (runF envS n) 123 [.pointer (some ⟨R,0,none⟩), .int .i64 (lo:Nat), .int .i64 (hi:Nat), .int .i64 ab]) s Q:=by
 have hb0:(s.cxN cxN).lim<=(s.cxN cxN).next:=hb
 have h':RrI (s.cxN cxN) R v l st:=h.same rfl rfl
 refine AfF_ λtm k0 k1 k2 k3=> ?_
 refine AtS_.u ?_
 simp only[Ym,RR,SS,Nat.reduceEqDiff,reduceCtorEq, ↓reduceIte]
 refine Yw_.u ?_
 cases st with
 |none=>
  obtain⟨a,e,p,g1,g2,g3,he⟩:=h'.st
  simp only[R3,RR,SS,Nat.reduceEqDiff,reduceCtorEq, ↓reduceIte,Nat.reduceEqDiff, ↓reduceIte,k0,Af D3 al,Af Cm al]
  refine aA (b:=R) (o:=0+2+0) CF g2.at' ?_
  have y1:Ext Any Non (s.cxN cxN) ((s.cxN cxN).rdN (R+(0+2+0))):=(Ext.refl (F:=Any) (G:=Non) _).thenRd hb0 _
  simp only[SS,Nat.reduceEqDiff,reduceCtorEq, ↓reduceIte,Ad,Ah,Ab,Ae,Ak,An,Al,Ag]
  refine aH KA_ ?_ rfl (an he)
  refine Amr_.u ?_
  simp only[Jp_,RR,SS,Nat.reduceEqDiff,reduceCtorEq, ↓reduceIte]
  refine aB (rs:=[8]) (vs:=[.int .i64 0]) rfl (.inl AfT_) J J3 P8 y1.cx Y ?_
  exact q _ (y1.weak hb0 (λ_ _ h=>h) λ_ _ h=>h.elim).cx' ((h'.ext0 y1).same rfl rfl)
 |some r=>
  obtain⟨g1,g2,⟨p,g3⟩,hr,hrl⟩:=h'.st
  simp only[R3,RR,SS,Nat.reduceEqDiff,reduceCtorEq, ↓reduceIte,Nat.reduceEqDiff, ↓reduceIte,k0,Af D3 al,Af Cm al]
  refine aA (b:=R) (o:=0+2+0) CF g2.at' ?_
  have y1:Ext Any Non (s.cxN cxN) ((s.cxN cxN).rdN (R+(0+2+0))):=(Ext.refl (F:=Any) (G:=Non) _).thenRd hb0 _
  simp only[SS,Nat.reduceEqDiff,reduceCtorEq, ↓reduceIte,Ad,Ah,Ab,Ae,Ak,An,Al,Ag]
  refine aE KA_ ?_
  obtain⟨s1,hs1⟩: ∃s1,s1=(s.cxN cxN).rdN (R+(0+2+0)):=⟨_,rfl⟩
  rw[<-hs1]at y1 ⊢
  have h1:=h'.ext0 y1
  have hb1:=y1.bnd hb0
  obtain⟨j1,j2,⟨p',j3⟩,_,_⟩:=h1.st
  have bad: ∀(n':Nat) (tm':T Value) (s5:St) (td':List Item) (e pos:Int) (C:Nat),30<=n'->skim 64 td'=Jm->Ext Any Non (s.cxN cxN) s5->s.next<=C->Aa s5 C 0 [.int .i64 e, .int .i64 pos]->e≠0->rInt lo hi (some r)=(0,none)->
    T.get tm' 0=some (.pointer (some ⟨R,0,none⟩))->T.get tm' 11=some (.pointer (some ⟨C,0,none⟩))->
    W (runF envS n' ⟨123,Lm_,CC,tm',td', .run, .normal,none⟩) s5 λp s1=>Q p.1 (s1.cxN s.cx):=by
   intro n' tm' s5 td' e pos C hn' hT' y5 hC oC he hR g0 g11
   have h5:=h'.ext0 y5
   obtain⟨k1,k2,⟨p5,k3⟩,_,_⟩:=h5.st
   refine WW.u ?_ hT'
   simp only[R0,RR,SS,Nat.reduceEqDiff,reduceCtorEq, ↓reduceIte,Ad,Ah,Ab,Ae,Ak,An,Al,Ag,g11,Af Cm al]
   refine aA (b:=C) (o:=0+0) CF (oC 0 _ rfl).at' ?_
   have y6:=y5.thenRd hb0 (C+(0+0))
   simp only[SS,Nat.reduceEqDiff,reduceCtorEq, ↓reduceIte,Ad,Ah,Ab,Ae,Ak,An,Al,Ag]
   refine aH VQ ?_ rfl (an he)
   refine Acp_.u ?_
   simp only[AD_,RR,SS,Nat.reduceEqDiff,reduceCtorEq, ↓reduceIte,g0,g11]
   refine aJ (b:=C) (o:=0) BQ (Aa.row λj u hu=>(oC j u hu).same (s':=s5.rdN (C+(0+0))) rfl rfl) rfl λs6 m6 n6 x6=> ?_
   have y7:=y6.then0 x6 hb0
   simp only[SS,Nat.reduceEqDiff,reduceCtorEq, ↓reduceIte,Af D3 al]
   refine W.store (b:=R) (o:=0+2) BQ (v:= .agg #[.int .i64 e, .int .i64 pos]) rfl rfl (λj hj=>by
    have hj':j=0\/j=1:=by have:j<2:=hj;omega
    rcases hj' with rfl|rfl
    ·exact⟨_,(k2.same (s':=s5.rdN (C+(0+0))) rfl rfl).ext0 x6⟩
    ·exact⟨_,(k3.same (s':=s5.rdN (C+(0+0))) rfl rfl).ext0 x6⟩) λs7 n7 x7 o7=> ?_
   have x7':Ext Any (RrG R) s6 s7:=x7.weak (y7.bnd hb0) (λ_ _ _=>trivial) λy _ hg=>by
    have h1:=hg.1
    have h2:y<R+(0+2)+2:=hg.2
    have:y=R+2\/y=R+3:=J
    exact .inr this
   have y8:Ext Any (RrG R) (s.cxN cxN) s7:=(y7.weak hb0 (λ_ _ h=>h) λ_ _ h=>h.elim).trans x7' hb0 (λ_ _ _=>trivial) λ_ _ h=>h
   have k1':Own s7 R 1 _:=((k1.same (s':=s5.rdN (C+(0+0))) rfl rfl).ext0 x6).ext x7 λhg=>by have h1:=hg.1;omega
   have o7':Aa s7 R (0+2) [.int .i64 e, .int .i64 pos]:=o7
   refine AoL_.u ?_
   simp only[Z2,RR,SS,Nat.reduceEqDiff,reduceCtorEq, ↓reduceIte]
   refine aB (rs:=[8]) (vs:=[.int .i64 0]) rfl (.inl AcI_) J J3 P8 y8.cx Y ?_
   have:=q _ y8.cx'
   rw[hR]at this
   exact this (((h'.ext0 y7).flt x7' (λ_ h=>h) k1' (o7' 0 _ rfl) (o7' 1 _ rfl) he).same rfl rfl)
  have after: ∀(n':Nat) (tm':T Value) (s5:St) (td':List Item) (m pl:Nat) (e pos:Int) (C:Nat),n<=n'+20->skim 64 td'=MT->Ext Any Non (s.cxN cxN) s5->s.next<=C->Aa s5 C 0 [.int .i64 e, .int .i64 pos]->
    (e≠0->rInt lo hi (some r)=(0,none))->(e=0-> ∃r',rInt lo hi (some r)=(if hi<m\/m<lo then(0,none)else(m,some r'))/\pl=l.length-r'.length/\r'=l.drop (l.length-r'.length)/\r'.length<=l.length)->
    T.get tm' 0=some (.pointer (some ⟨R,0,none⟩))->T.get tm' 1=some (.int .i64 (lo:Nat))->T.get tm' 2=some (.int .i64 (hi:Nat))->T.get tm' 3=some (.int .i64 ab)->T.get tm' 9=some (.int .i64 (m:Nat))->T.get tm' 10=some (.int .i64 (pl:Nat))->T.get tm' 11=some (.pointer (some ⟨C,0,none⟩))->
    W (runF envS n' ⟨123,Lm_,CC,tm',td', .run, .normal,none⟩) s5 λp s1=>Q p.1 (s1.cxN s.cx):=by
   intro n' tm' s5 td' m pl e pos C hn' hT' y5 hC oC he hs g0 g1 g2 g3 g9 g10 g11
   have h5:=h'.ext0 y5
   obtain⟨k1,_,_,_,_⟩:=h5.st
   refine Asn_.u ?_ hT'
   simp only[Bo_,RR,SS,Nat.reduceEqDiff,reduceCtorEq, ↓reduceIte,Ad,Ah,Ab,Ae,Ak,An,Al,Ag,g11,Af Cm al]
   refine aA (b:=C) (o:=0+0) CF (oC 0 _ rfl).at' ?_
   have y6:=y5.thenRd hb0 (C+(0+0))
   have st: ∀(e2 p2:Int) (s6:St) (Q':Value->St->Prop),Ext Any Non (s.cxN cxN) s6->Aa s6 C 0 [.int .i64 e, .int .i64 pos]->(∀s7 u,Ext Any Non (s.cxN cxN) s7->Aa s7 C 0 [.int .i64 e2, .int .i64 p2]->Q' u s7)->W (Ax envS 116 (.pointer (some ⟨C,0,none⟩)) (.agg #[.int .i64 e2, .int .i64 p2])) s6 Q':=by
    intro e2 p2 s6 Q' y6 o6 q'
    refine W.store (b:=C) (o:=0) BQ (v:= .agg #[.int .i64 e2, .int .i64 p2]) rfl rfl (λj hj=>Aa.owned o6 j (by simpa using hj)) λs7 n7 x7 o7=> ?_
    exact q' s7 _ (y6.thenW x7 hb0 (by show s.next<=C+0;omega)) o7
   by_cases he0:e=0
   ·subst he0
    obtain⟨r',hr',hpl,hre,hrl'⟩:=hs rfl
    simp only[SS,Nat.reduceEqDiff,reduceCtorEq, ↓reduceIte,Ad,Ah,Ab,Ae,Ak,An,Al,Ag,decide_true,Nat.reduceEqDiff, ↓reduceIte,g9,g2]
    by_cases hh:hi<m
    ·rw[if_pos (.inl hh)]at hr'
     refine aH Q5 ?_
     refine AoD_.u ?_
     simp only[TU_,RR,SS,Nat.reduceEqDiff,reduceCtorEq, ↓reduceIte,Nat.reduceEqDiff, ↓reduceIte,g0,g3,g11,Af C2 al]
     refine aA (b:=R) (o:=0+1) Ap (k1.same (s':=s5.rdN (C+(0+0))) rfl rfl).at' ?_
     have y7:=y6.thenRd hb0 (R+(0+1))
     simp only[SS,Nat.reduceEqDiff,reduceCtorEq, ↓reduceIte,Nat.reduceEqDiff, ↓reduceIte,g11,Ci (EW ab _)]
     refine st ab _ _ _ y7 (λj u hu=>(oC j u hu).same rfl rfl) λs7 _ y8 o8=> ?_
     refine Rm.u ?_ AfO_
     simp only[JC,RR,SS,Nat.reduceEqDiff,reduceCtorEq, ↓reduceIte,Ad,Ah,Ab,Ae,Ak,An,Al,Ag,Nat.reduceEqDiff, ↓reduceIte,g11,Af Cm al]
     refine aA (b:=C) (o:=0+0) CF (o8 0 _ rfl).at' ?_
     have y9:=y8.thenRd hb0 (C+(0+0))
     have e1:decide (ab=0)=false:=decide_eq_false hab
     simp only[SS,Nat.reduceEqDiff,reduceCtorEq, ↓reduceIte,Ad,Ah,Ab,Ae,Ak,An,Al,Ag,e1]
     refine aE Ko ?_
     exact bad _ _ _ _ ab _ C J rfl y9 hC (λj u hu=>(o8 j u hu).same rfl rfl) hab hr' (an g0) (an g11)
    ·refine aE Q5 ?_
     refine Rm.u ?_
     simp only[JC,RR,SS,Nat.reduceEqDiff,reduceCtorEq, ↓reduceIte,Ad,Ah,Ab,Ae,Ak,An,Al,Ag,Nat.reduceEqDiff, ↓reduceIte,g11,Af Cm al]
     refine aA (b:=C) (o:=0+0) CF ((oC 0 _ rfl).same (s':=s5.rdN (C+(0+0))) rfl rfl).at' ?_
     have y7:=y6.thenRd hb0 (C+(0+0))
     simp only[SS,Nat.reduceEqDiff,reduceCtorEq, ↓reduceIte,Ad,Ah,Ab,Ae,Ak,An,Al,Ag,decide_true,Nat.reduceEqDiff, ↓reduceIte,g9,g1]
     by_cases hl:m<lo
     ·rw[if_pos (.inr hl)]at hr'
      refine aH Ko ?_
      refine AfK_.u ?_
      simp only[Ia_,RR,SS,Nat.reduceEqDiff,reduceCtorEq, ↓reduceIte,Nat.reduceEqDiff, ↓reduceIte,g0,g11,Af C2 al]
      refine aA (b:=R) (o:=0+1) Ap ((k1.same (s':=s5.rdN (C+(0+0))) rfl rfl).same rfl rfl).at' ?_
      have y8:=y7.thenRd hb0 (R+(0+1))
      simp only[SS,Nat.reduceEqDiff,reduceCtorEq, ↓reduceIte,Nat.reduceEqDiff, ↓reduceIte,g11,Ci (EW 5 _)]
      refine st 5 _ _ _ y8 (λj u hu=>(oC j u hu).same rfl rfl) λs7 _ y9 o9=> ?_
      exact bad _ _ _ _ 5 _ C J AgT_ y9 hC o9 al hr' (an g0) (an g11)
     ·rw[if_neg J]at hr'
      refine aE Ko ?_
      refine WW.u ?_
      simp only[R0,RR,SS,Nat.reduceEqDiff,reduceCtorEq, ↓reduceIte,Ad,Ah,Ab,Ae,Ak,An,Al,Ag,Nat.reduceEqDiff, ↓reduceIte,g11,Af Cm al]
      refine aA (b:=C) (o:=0+0) CF (((oC 0 _ rfl).same (s':=s5.rdN (C+(0+0))) rfl rfl).same rfl rfl).at' ?_
      have y8:=y7.thenRd hb0 (C+(0+0))
      simp only[SS,Nat.reduceEqDiff,reduceCtorEq, ↓reduceIte,Ad,Ah,Ab,Ae,Ak,An,Al,Ag]
      refine aE VQ ?_
      refine Acc_.u ?_
      simp only[S6,RR,SS,Nat.reduceEqDiff,reduceCtorEq, ↓reduceIte,Nat.reduceEqDiff, ↓reduceIte,g0,g10,Af C2 al]
      obtain⟨s8,hs8⟩: ∃s8,s8=((s5.rdN (C+(0+0))).rdN (C+(0+0))).rdN (C+(0+0)):=⟨_,rfl⟩
      rw[<-hs8]at y8 ⊢
      have h8:=h'.ext0 y8
      refine aI (b:=R) (o:=0+1) Ap rfl h8.st.1 λs9 n9 x9 o9=> ?_
      have x9':Ext Any (λy=>y=R+1) s8 s9:=x9.weak (y8.bnd hb0) (λ_ _ _=>trivial) λy _ hg=>by have h1:=hg.1;have h2:=hg.2;omega
      have y9:Ext Any (RrG R) (s.cxN cxN) s9:=(y8.weak hb0 (λ_ _ h=>h) λ_ _ h=>h.elim).trans x9' hb0 (λ_ _ _=>trivial) λ_ _ h=> .inl h
      refine Anz_.u ?_
      simp only[WE,RR,SS,Nat.reduceEqDiff,reduceCtorEq, ↓reduceIte,Nat.reduceEqDiff, ↓reduceIte,g9]
      refine aB (rs:=[8]) (vs:=[.int .i64 (m:Nat)]) rfl (.inl AmU_) J J3 P8 y9.cx Y ?_
      have:=q _ y9.cx'
      rw[hr']at this
      refine this ((h8.adv x9' (λ_ h=>h) ?_ hre hrl').same rfl rfl)
      rw[<-hpl]
      exact o9
   ·have e1:decide (e=0)=false:=decide_eq_false he0
    simp only[SS,Nat.reduceEqDiff,reduceCtorEq, ↓reduceIte,Ad,Ah,Ab,Ae,Ak,An,Al,Ag,e1]
    refine aE Q5 ?_
    refine Rm.u ?_
    simp only[JC,RR,SS,Nat.reduceEqDiff,reduceCtorEq, ↓reduceIte,Ad,Ah,Ab,Ae,Ak,An,Al,Ag,Nat.reduceEqDiff, ↓reduceIte,g11,Af Cm al]
    refine aA (b:=C) (o:=0+0) CF ((oC 0 _ rfl).same (s':=s5.rdN (C+(0+0))) rfl rfl).at' ?_
    have y7:=y6.thenRd hb0 (C+(0+0))
    simp only[SS,Nat.reduceEqDiff,reduceCtorEq, ↓reduceIte,Ad,Ah,Ab,Ae,Ak,An,Al,Ag,e1]
    refine aE Ko ?_
    exact bad _ _ _ _ e pos C J rfl y7 hC (λj u hu=>(oC j u hu).same rfl rfl) he0 (he he0) (an g0) (an g11)
  refine Ahp_.u ?_
  simp only[VK_,RR,T.get_set,Nat.reduceEqDiff, ↓reduceIte,k0,AA,Aw,Bo,Bi Im al,Bi C2 al]
  refine aD (b:=R) (o:=0+0) BE (h1.o0.same (s':=dSt s1.mem s1.next) rfl rfl).at' λrd1 hr1=> ?_
  simp only[AA,Aw,Bo,Bi C2 al]
  refine aD (b:=R) (o:=0+1) Ap (j1.same (s':=dSt s1.mem s1.next) rfl rfl).at' λrd2 hr2=> ?_
  simp only[AA,Aw,BH,Bb,A7,AX,Dn]
  refine aU ((Zy_ (s:=oSt s1.mem s1.next) (Nat.le_refl _) (h1.bs.same rfl rfl) hz hby (show l.length-r.length<=l.length by omega) J).mono λu s4 ⟨m,pl,e,pos,eu,x4,he,hs⟩=>⟨_,x4,λrd8 hr8=> ?_⟩)
  subst eu
  have n4:s1.next<=s4.next:=x4.nxt
  simp only[AA,Aw]
  rw[W_dq λs Q=>A3 (s:=s) (k:=0) rfl Q]
  simp only[AA]
  rw[W_dq λs Q=>A3 (s:=s) (k:=1) rfl Q]
  simp only[AA]
  rw[W_dq λs Q=>A3 (s:=s) (k:=2) rfl Q]
  simp only[AA]
  refine aU (W.alloc FX λs6 n6 x6 o6=>⟨_,x6,λrd13 hr13=> ?_⟩)
  have n6':s6.next=s4.next+3:=n6
  have e13:rd13=[]:=List.eq_nil_iff_forall_not_mem.2 λx hx=>(hr13 x hx).2
  subst e13
  simp only[AA,Ml,Aw]
  rw[AJ]
  refine⟨G9 am (by
   simp only[List.reverse_cons,List.reverse_nil,List.nil_append,List.cons_append,List.mem_cons,List.not_mem_nil,or_false]
   rintro m (rfl|rfl|rfl|rfl|rfl|rfl|rfl|rfl|rfl|rfl|rfl|rfl|rfl|rfl|rfl|rfl)<;>refine⟨rfl,λy hy=> ?_⟩<;>first|(cases hy;done)|(exact(hr8 _ hy).1)|(have h1':=hr1 _ hy;have:=h1.rt;omega)|(have h1':=hr2 _ hy;have:=h1.rt;omega)), ?_⟩
  refine W.cast (Asm_ ..) ?_
  simp only[SS,Nat.reduceEqDiff,reduceCtorEq, ↓reduceIte]
  generalize hsF:(⟨(dSt s6.mem s6.next).mem,(dSt s6.mem s6.next).next,s1.lim,_,_,s1.cx⟩:St)=sF
  have mF:sF.mem=s6.mem:=by rw[<-hsF];rfl
  have nF:sF.next=s6.next:=by rw[<-hsF];rfl
  have xF:Ext Any Non s1 sF:=by
   rw[<-hsF]
   exact Ext.draw (F:=Any) (by show s1.next<=s6.next;omega) (λx hx=>(x6.mem x (show x<s4.next from Nat.lt_of_lt_of_le hx n4) id).trans (x4.mem x hx id)) am λ_ _ _ _ _=>trivial
  have yF:=y1.then0 xF hb0
  have hC4:s.next<=s4.next:=Nat.le_trans y1.nxt n4
  refine W.store (b:=s4.next) (o:=0) BQ (v:= .agg #[.int .i64 e, .int .i64 pos]) rfl rfl (λj hj=>Aa.owned (λj u hu=>(o6 j u hu).same mF nF) j (by simpa using hj)) λs7 n7 x7 o7=> ?_
  have y7:Ext Any Non (s.cxN cxN) s7:=yF.thenW x7 hb0 (by show s.next<=s4.next+0;omega)
  have er:l.drop (l.length-r.length)=r:=hr.symm
  rw[er]at he hs
  refine after _ _ s7 _ m pl e pos s4.next J rfl y7 hC4 o7 (λh0=> ?_) (λh0=> ?_) (an k0) (an k1) (an k2) (an k3) Y Y (by simp[T.get_set];rfl)
  ·simp only[rInt,he h0]
  ·obtain⟨r',e1,e2,e3,e4⟩:=hs h0
   refine⟨r', ?_,e2,e3,e4⟩
   simp only[rInt,e1]
theorem Kc {lo hi:Nat}(hb:s.lim<=s.next)(h:RrI s R v l st)(hz:l.length<=1000000000)(hby:Byt l)(hn:450<=n)
  (q: ∀s1,Ext Any (RrG R) s s1->RrI s1 R v l (rInt lo hi st).2->Q (.int .i64 ((rInt lo hi st).1:Nat)) s1):W (Ac envS (runF envS n) 90 [.pointer (some ⟨R,0,none⟩), .int .i64 (lo:Nat), .int .i64 (hi:Nat)]) s Q:=by
 have hb0:(s.cxN cxN).lim<=(s.cxN cxN).next:=hb
 refine AbL_ λtm k0 k1 k2=> ?_
 refine Zk_.u ?_
 simp only[TQ,RR,SS,Nat.reduceEqDiff,reduceCtorEq, ↓reduceIte]
 refine WY_.u ?_
 simp only[Nn_,RR,SS,Nat.reduceEqDiff,reduceCtorEq, ↓reduceIte,Nat.reduceEqDiff, ↓reduceIte,k0,k1,k2]
 refine Gb_ (lo:=lo) (hi:=hi) (st:=st) al hb0 (h.same rfl rfl) hz hby J λs1 x1 r1=> ?_
 refine aB (rs:=[6]) (vs:=[.int .i64 ((rInt lo hi st).1:Nat)]) rfl (.inl Aus_) J T9 AbF_ x1.cx Y ?_
 exact q _ x1.cx' (r1.same rfl rfl)
theorem Nd_ {hi:Nat}(hb:s.lim<=s.next)(h:RrI s R v l st)(hz:l.length<=1000000000)(hby:Byt l)(hn:450<=n)
  (q: ∀s1,Ext Any (RrG R) s s1->RrI s1 R v l (rInt 0 hi st).2->Q (.int .i64 ((rInt 0 hi st).1:Nat)) s1):W (Ac envS (runF envS n) 89 [.pointer (some ⟨R,0,none⟩), .int .i64 (hi:Nat)]) s Q:=by
 have hb0:(s.cxN cxN).lim<=(s.cxN cxN).next:=hb
 refine AhV_ λtm k0 k1=> ?_
 refine Yy_.u ?_
 simp only[T2,RR,SS,Nat.reduceEqDiff,reduceCtorEq, ↓reduceIte]
 refine Apc_.u ?_
 simp only[W7,RR,SS,Nat.reduceEqDiff,reduceCtorEq, ↓reduceIte,Nat.reduceEqDiff, ↓reduceIte,k0,k1]
 refine Gb_ (lo:=0) (hi:=hi) (st:=st) al hb0 (h.same rfl rfl) hz hby J λs1 x1 r1=> ?_
 refine aB (rs:=[4]) (vs:=[.int .i64 ((rInt 0 hi st).1:Nat)]) rfl (.inl Akg_) J Pk_ Anr_ x1.cx Y ?_
 exact q _ x1.cx' (r1.same rfl rfl)
end
section
variable {R n:Nat}{v:Value}{l:List Nat}{s:St}{Q:Value->St->Prop}{st:Rd}
theorem Ajc_ {a:Int}(ha: ∀r,st=some r->a=((l.length-r.length:Nat):Int))(hb:s.lim<=s.next)(h:RrI s R v l st)(hz:l.length<=1000000)(hn:100<=n)
  (q: ∀s1 w m,Ext Any (RrG R) s s1->RrI s1 R v l (rID st).2->Bs s1 w m->(∀x,BsF w x->s.next<=x)->(m.length=16/\(rID st).1=m\/m=[]/\(rID st).1=List.replicate 16 0)->Q w s1):
  W (Ac envS (runF envS n) 124 [.pointer (some ⟨R,0,none⟩), .int .i64 16, .int .i64 a]) s Q:=by
 have hb0:(s.cxN cxN).lim<=(s.cxN cxN).next:=hb
 have h':RrI (s.cxN cxN) R v l st:=h.same rfl rfl
 refine Aln_ λtm k0 k1 k2=> ?_
 refine AuJ_.u ?_
 simp only[YX,RR,SS,Nat.reduceEqDiff,reduceCtorEq, ↓reduceIte]
 refine Awf_.u ?_
 cases st with
 |none=>
  obtain⟨a,e,p,g1,g2,g3,he⟩:=h'.st
  simp only[MB,RR,SS,Nat.reduceEqDiff,reduceCtorEq, ↓reduceIte,Nat.reduceEqDiff, ↓reduceIte,k0,Af D3 al,Af Cm al]
  refine aA (b:=R) (o:=0+2+0) CF g2.at' ?_
  have y1:Ext Any Non (s.cxN cxN) ((s.cxN cxN).rdN (R+(0+2+0))):=(Ext.refl (F:=Any) (G:=Non) _).thenRd hb0 _
  simp only[SS,Nat.reduceEqDiff,reduceCtorEq, ↓reduceIte,Ad,Ah,Ab,Ae,Ak,An,Al,Ag]
  refine aH PX_ ?_ rfl (an he)
  refine Yi_.u ?_
  simp only[TG_,RR,SS,Nat.reduceEqDiff,reduceCtorEq, ↓reduceIte]
  refine aB (rs:=[6]) (vs:=[.slice none 0 0]) rfl (.inl Afp_) J Ju MX y1.cx Y ?_
  exact q _ _ [] (y1.weak hb0 (λ_ _ h=>h) λ_ _ h=>h.elim).cx' ((h'.ext0 y1).same rfl rfl) (.inl ⟨rfl,rfl⟩) (λx hx=>hx.elim) (.inr ⟨rfl,rfl⟩)
 |some r=>
  obtain⟨g1,g2,⟨p,g3⟩,hr,hrl⟩:=h'.st
  have hae:=ha r rfl
  simp only[MB,RR,SS,Nat.reduceEqDiff,reduceCtorEq, ↓reduceIte,Nat.reduceEqDiff, ↓reduceIte,k0,Af D3 al,Af Cm al]
  refine aA (b:=R) (o:=0+2+0) CF g2.at' ?_
  have y1:Ext Any Non (s.cxN cxN) ((s.cxN cxN).rdN (R+(0+2+0))):=(Ext.refl (F:=Any) (G:=Non) _).thenRd hb0 _
  simp only[SS,Nat.reduceEqDiff,reduceCtorEq, ↓reduceIte,Ad,Ah,Ab,Ae,Ak,An,Al,Ag]
  refine aE PX_ ?_
  obtain⟨s1,hs1⟩: ∃s1,s1=(s.cxN cxN).rdN (R+(0+2+0)):=⟨_,rfl⟩
  rw[<-hs1]at y1 ⊢
  have h1:=h'.ext0 y1
  have hb1:=y1.bnd hb0
  obtain⟨j1,j2,⟨p',j3⟩,_,_⟩:=h1.st
  have hat:l.length-r.length<=l.length:=Nat.sub_le _ _
  generalize hA:l.length-r.length=at0 at *
  have hlr:r.length=l.length-at0:=J
  have es:wrap64 ((l.length:Nat)-(at0:Nat):Int)=((l.length-at0:Nat):Int):=by
   rw[AN J J];omega
  refine Zh_.wr rfl J ?_
  simp only[RS_,RR,T.get_set,Nat.reduceEqDiff, ↓reduceIte,k0,k1,AA,Aw,Bo,Bi Im al]
  refine aD (b:=R) (o:=0+0) BE (h1.o0.same (s':=dSt s1.mem s1.next) rfl rfl).at' λrd1 _=> ?_
  simp only[Bb,A7,AX,AA]
  rw[W_dq λs Q=>h1.bs.len' (s':=s) AH Q]
  simp only[Aw,Bo,Bi C2 al,AA]
  refine aD (b:=R) (o:=0+1) Ap (j1.same (s':=dSt s1.mem s1.next) rfl rfl).at' λrd2 _=> ?_
  simp only[AA]
  rw[W_dq λs Q=>Ah (s:=s) ((l.length:Nat):Int) ((at0:Nat):Int),es]
  simp only[Aw,AA]
  rw[AJ]
  refine⟨rfl,am,am,λs2 m2 n2 x2=> ?_⟩
  refine W.cast (AgH_ ..) ?_
  simp only[SS,Nat.reduceEqDiff,reduceCtorEq, ↓reduceIte,Ad,Ah,Ab,Ae,Ak,An,Al,Ag]
  have y2:=y1.then0 x2 hb0
  have h2:=h1.ext0 x2
  have hb2:=y2.bnd hb0
  obtain⟨i1,i2,⟨p2,i3⟩,_,_⟩:=h2.st
  rw[hA]at i1
  by_cases hc:at0+16<=l.length
  ·have e16:rID (some r)=(r.take 16,some (r.drop 16)):=by
    unfold rID
    simp only
    rw[if_neg J]
   refine aE Ri_ ?_
   have hm16:((l.take (at0+16)).drop at0).length=16:=by rw[List.length_drop,List.length_take];omega
   have hmr:(l.take (at0+16)).drop at0=r.take 16:=by rw[hr,List.drop_take,Nat.add_sub_cancel_left]
   obtain⟨vb,vo,vc,ev,w1,w2,w3⟩: ∃b o c,v= .slice (some ⟨b,o,none⟩) l.length c/\l.length<=c%capU/\Cc c 1=true/\Row s2 b o (u8l l):=by
    rcases h2.bs with⟨_,rfl⟩|h
    ·simp at hc
    ·exact h
   obtain⟨vo',e1,e2,e3,e4,e5⟩:=Bs.sub' (i:=at0) (j:=at0+16) J hc w1 w2 w3
   rw[hm16]at e1
   refine ApE_.u ?_
   simp only[ZB,RR,T.get_set,Nat.reduceEqDiff, ↓reduceIte,k0,k1,AA,BH,Aw,Bo,Lw]
   refine aU (aM (s:=oSt s2.mem s2.next) (Nat.le_refl _) (r:=[]) DI al rfl (A0 al) λs3 n3 x3 r3=>⟨_,x3,λrd0 hr0=> ?_⟩)
   have n23:s2.next<=s3.next:=x3.nxt
   have e0:rd0=[]:=List.eq_nil_iff_forall_not_mem.2 λx hx=>(hr0 x hx).2
   subst e0
   have h3:RrI s3 R v l (some r):=(h2.same (s':=oSt s2.mem s2.next) rfl rfl).ext0 x3
   obtain⟨t1,_,_,_,_⟩:=h3.st
   rw[hA]at t1
   simp only[AA,Aw,Bo,Bi Im al]
   refine aD (b:=R) (o:=0+0) BE (h3.o0.same (s':=dSt s3.mem s3.next) rfl rfl).at' λrd4 hr4=> ?_
   simp only[AA,Aw,Bo,Bi C2 al]
   refine aD (b:=R) (o:=0+1) Ap (t1.same (s':=dSt s3.mem s3.next) rfl rfl).at' λrd8 hr8=> ?_
   simp only[AA,Aw,Bo,Bi C2 al]
   refine aD (b:=R) (o:=0+1) Ap (t1.same (s':=dSt s3.mem s3.next) rfl rfl).at' λrd12 hr12=> ?_
   have eb:wrap64 ((at0:Nat)+16:Int)=((at0+16:Nat):Int):=by
    rw[AN J J];simp
   simp only[AA,Aw]
   rw[W_dq λs Q=>Ad (s:=s) ((at0:Nat):Int) 16,eb]
   simp only[BH,AX,ev]
   rw[W_dq λs Q=>FL (s:=s) AH (l:=at0) (h:=at0+16) rfl rfl J J w2 Q,show at0+16-at0=16 by omega]
   rw[show at0+16-at0=16 by omega]at e1
   simp only[Bb,A7,AX,AA]
   rw[e1]
   have hrow3:Row s3 vb vo' (u8l ((l.take (at0+16)).drop at0)):=Row.ext0 (λi u h=>(e4 i u h).same (s':=oSt s2.mem s2.next) rfl rfl) x3
   have hsrc:Bs (oSt s3.mem s3.next) (.slice (some ⟨vb,vo',none⟩) 16 (vc-at0)) (r.take 16):=by
    rw[<-hmr]
    exact .inr ⟨vb,vo',_,by rw[hm16],e2,e3,λi u h=>(hrow3 i u h).same rfl rfl⟩
   have hlt16: ∀y,In vb vo' 16 y->y<s2.next:=λy hy=>by
    have h1:=hy.1
    have h2:=hy.2
    have h3:=(e4 (y-(vb+vo')) _ (List.getElem?_eq_getElem (show _<(u8l ((l.take (at0+16)).drop at0)).length by rw[AQ,hm16];omega))).1
    omega
   refine aU (W.appBy (s:=oSt s3.mem s3.next) (Nat.le_refl _) (EmB.nil (b:=s2.next)) hsrc (by simp;omega) λs4 w wb hwb mk x4=>⟨λy=>y<s2.next,x4.weak (Nat.le_refl _) (λy _ hy=>hy.elim (λhy=>hlt16 y hy) λhy=>absurd hy.1 am) (λy _ hy=>absurd hy.1 am),λrd16 hr16=> ?_⟩)
   have n34:s3.next<=s4.next:=x4.nxt
   have l16:(r.take 16).length=16:=by rw[List.length_take];omega
   have hwb':s2.next<=wb:=by
    rcases hwb with rfl|hwb
    ·exact Nat.le_refl _
    ·exact Nat.le_trans n23 hwb
   rw[List.nil_append]at mk
   have hR2:=h2.rt
   rw[AJ]
   refine⟨G9 am (by
    simp only[List.reverse_cons,List.reverse_nil,List.nil_append,List.cons_append,List.mem_cons,List.not_mem_nil,or_false]
    rintro m (rfl|rfl|rfl|rfl|rfl|rfl|rfl|rfl|rfl|rfl|rfl|rfl|rfl|rfl|rfl|rfl|rfl)<;>refine⟨rfl,λy hy=> ?_⟩<;>first|(cases hy;done)|(exact(hr16 _ hy).2)|(have h1':=hr4 _ hy;omega)|(have h1':=hr8 _ hy;omega)|(have h1':=hr12 _ hy;omega)), ?_⟩
   refine W.cast (AlU_ ..) ?_
   simp only[SS,Nat.reduceEqDiff,reduceCtorEq, ↓reduceIte]
   generalize hsF:(⟨(dSt s4.mem s4.next).mem,(dSt s4.mem s4.next).next,s2.lim,_,_,s2.cx⟩:St)=sF
   have mF:sF.mem=s4.mem:=by rw[<-hsF];rfl
   have nF:sF.next=s4.next:=by rw[<-hsF];rfl
   have xF:Ext Any Non s2 sF:=by
    rw[<-hsF]
    refine Ext.draw (F:=Any) (by show s2.next<=s4.next;omega) (λx hx=>(x4.mem x (show x<s3.next from Nat.lt_of_lt_of_le hx n23) λhg=>absurd hg.1 am).trans (x3.mem x hx id)) am λ_ _ _ _ _=>trivial
   have yF:=y2.then0 xF hb0
   have hF:=h2.ext0 xF
   obtain⟨f1,_,_,_,_⟩:=hF.st
   rw[hA]at f1
   have mkF:EmB sF (r.take 16) w wb:=mk.same mF nF
   refine AlI_.u ?_
   simp only[Gf_,RR,SS,Nat.reduceEqDiff,reduceCtorEq, ↓reduceIte,Nat.reduceEqDiff, ↓reduceIte,k0,k1,Af C2 al]
   refine aA (b:=R) (o:=0+1) Ap f1.at' ?_
   have y5:=yF.thenRd hb0 (R+(0+1))
   simp only[SS,Nat.reduceEqDiff,reduceCtorEq, ↓reduceIte,Ad,Ah,Ab,Ae,Ak,An,Al,Ag,eb,Af C2 al]
   refine aI (b:=R) (o:=0+1) Ap rfl (f1.same rfl rfl) λs6 n6 x6 o6=> ?_
   obtain⟨s5,hs5⟩: ∃s5,s5=sF.rdN (R+(0+1)):=⟨_,rfl⟩
   rw[<-hs5]at y5 x6
   have h5:=h'.ext0 y5
   have x6':Ext Any (λy=>y=R+1) s5 s6:=x6.weak (y5.bnd hb0) (λ_ _ _=>trivial) λy _ hg=>by have h1:=hg.1;have h2:=hg.2;omega
   have y6:Ext Any (RrG R) (s.cxN cxN) s6:=(y5.weak hb0 (λ_ _ h=>h) λ_ _ h=>h.elim).trans x6' hb0 (λ_ _ _=>trivial) λ_ _ h=> .inl h
   have mk6:EmB s6 (r.take 16) w wb:=(mkF.same (s':=s5) (by rw[hs5];rfl) (by rw[hs5];rfl)).ext x6' λy hy hg=>by
    have h1:=hy.2.1
    omega
   have ed:(r.drop 16).length=l.length-(at0+16):=by rw[List.length_drop];omega
   have ea:at0+16=l.length-(r.drop 16).length:=J
   refine Zl_.u ?_
   simp only[Um,RR,SS,Nat.reduceEqDiff,reduceCtorEq, ↓reduceIte,Nat.reduceEqDiff, ↓reduceIte]
   refine aB (rs:=[6]) (vs:=[w]) rfl (.inl ArU_) J Ju MX y6.cx Y ?_
   refine q _ w (r.take 16) y6.cx' ?_ ((mk6.same (s':=s6.cxN s.cx) rfl rfl).bn J).bs (λx hx=> ?_) (.inl ⟨l16,by rw[e16]⟩)
   ·rw[e16]
    refine(h5.adv x6' (λ_ h=>h) ?_ ?_ J).same rfl rfl
    ·rw[<-ea]
     exact o6
    ·rw[<-ea]
     rw[hr,List.drop_drop]
   ·obtain⟨c,ew⟩:=mk6.at
    rw[ew]at hx
    have h1:wb+0<=x:=hx.1
    have h2:s.next<=s2.next:=y2.nxt
    omega
  ·have e16:rID (some r)=(List.replicate 16 0,none):=by
    unfold rID
    simp only
    rw[if_pos J]
   refine aH Ri_ ?_
   refine AfV_.u ?_
   simp only[Al_,RR,SS,Nat.reduceEqDiff,reduceCtorEq, ↓reduceIte,Nat.reduceEqDiff, ↓reduceIte,k0,Af Im al]
   refine aA (b:=R) (o:=0+0) BE h2.o0.at' ?_
   have y3:=y2.thenRd hb0 (R+(0+0))
   rw[h2.bs.len' AH]
   obtain⟨s3,hs3⟩: ∃s3,s3=s2.rdN (R+(0+0)):=⟨_,rfl⟩
   rw[<-hs3]at y3 ⊢
   have h3:=h'.ext0 y3
   obtain⟨t1,t2,⟨p3,t3⟩,_,_⟩:=h3.st
   simp only[SS,Nat.reduceEqDiff,reduceCtorEq, ↓reduceIte,Ci (EW 4 _),Af D3 al]
   refine W.store (b:=R) (o:=0+2) BQ (v:= .agg #[.int .i64 4, .int .i64 (l.length:Nat)]) rfl rfl (λj hj=>by
    have hj':j=0\/j=1:=by have:j<2:=hj;omega
    rcases hj' with rfl|rfl
    ·exact⟨_,t2⟩
    ·exact⟨_,t3⟩) λs4 n4 x4 o4=> ?_
   have x4':Ext Any (RrG R) s3 s4:=x4.weak (y3.bnd hb0) (λ_ _ _=>trivial) λy _ hg=>by
    have h1:=hg.1
    have h2:y<R+(0+2)+2:=hg.2
    have:y=R+2\/y=R+3:=J
    exact .inr this
   have y4:Ext Any (RrG R) (s.cxN cxN) s4:=(y3.weak hb0 (λ_ _ h=>h) λ_ _ h=>h.elim).trans x4' hb0 (λ_ _ _=>trivial) λ_ _ h=>h
   have o4':Aa s4 R (0+2) [.int .i64 4, .int .i64 (l.length:Nat)]:=o4
   have t1':Own s4 R (0+1) _:=t1.ext x4 λhg=>by have h1:=hg.1;omega
   refine Acq_.u ?_
   simp only[So_,RR,SS,Nat.reduceEqDiff,reduceCtorEq, ↓reduceIte,Nat.reduceEqDiff, ↓reduceIte,k0,k2,Af C2 al]
   refine aI (b:=R) (o:=0+1) Ap rfl t1' λs6 n6 x6 o6=> ?_
   have x6':Ext Any (RrG R) s4 s6:=x6.weak (y4.bnd hb0) (λ_ _ _=>trivial) λy _ hg=>by have h1:=hg.1;have h2:=hg.2;exact .inl J
   have y6:Ext Any (RrG R) (s.cxN cxN) s6:=y4.trans x6' hb0 (λ_ _ _=>trivial) λ_ _ h=>h
   have o6':Aa s6 R (0+2) [.int .i64 4, .int .i64 (l.length:Nat)]:=o4'.ext x6 λi hi hg=>by have h1:=hg.2;omega
   have x46:Ext Any (RrG R) s3 s6:=x4'.trans x6' (y3.bnd hb0) (λ_ _ _=>trivial) λ_ _ h=>h
   refine WA_.u ?_
   simp only[Of_,RR,SS,Nat.reduceEqDiff,reduceCtorEq, ↓reduceIte]
   refine aB (rs:=[6]) (vs:=[.slice none 0 0]) rfl (.inl AmP_) J Ju MX y6.cx Y ?_
   refine q _ _ [] y6.cx' ?_ (.inl ⟨rfl,rfl⟩) (λx hx=>hx.elim) (.inr ⟨rfl,by rw[e16]⟩)
   rw[e16]
   exact(h3.flt x46 (λ_ h=>h) o6 (o6' 0 _ rfl) (o6' 1 _ rfl) al).same rfl rfl
end
theorem Aa.setY {F:Nat->Prop}{s s':St}{b o i:Nat}{l:List Value}{v:Value}(h:Aa s b o l)(e:Ext F (In b (o+i) 1) s s')(k:Own s' b (o+i) v):Aa s' b o (l.set i v):=λj u hj=>by
 by_cases hij:i=j
 ·subst hij
  rw[List.getElem?_set]at hj
  simp only[if_true]at hj
  split at hj
  ·cases hj
   exact k
  ·cases hj
 ·rw[List.getElem?_set_ne hij]at hj
  exact(h j u hj).ext e λhg=>by have h1:=hg.1;have h2:=hg.2;omega
theorem ArW_ (m:List Nat){i:Nat}(hi:i<m.length)(hm:m.length<=16):(m.take i++List.replicate (16-i) 0).set i m[i]=m.take (i+1)++List.replicate (16-(i+1)) 0:=by
 rw[List.set_append_right _ _ (by rw[List.length_take];omega),List.length_take,Nat.min_eq_left (Nat.le_of_lt hi),Nat.sub_self,show 16-i=(16-(i+1))+1 by omega,List.replicate_succ,List.set_cons_zero,List.take_succ_eq_append_getElem hi,List.append_assoc]
 rfl
section
variable {w:Value}{m:List Nat}{s0:St}{Q:Value×FrameMode->St->Prop}
theorem AvE_ {A1 A2:Nat}(hb0:s0.lim<=s0.next)(hcx:s0.cx=cxN)(hB:Bs s0 w m)(hm:m.length<=16)(hA: ∀x,BsF w x-> ¬(A2<=x/\x<A2+16))(hA12:A1+16<=A2)(o1:Aa s0 A1 0 (u8l (List.replicate 16 0)))
  (q: ∀s1,Ext Any (λy=>(A1<=y/\y<A1+16)\/(A2<=y/\y<A2+16)) s0 s1->Q (.agg (u8l (m++List.replicate (16-m.length) 0)).toArray, .run) s1):
  ∀(k i n:Nat) (tm:T Value) (s:St) (td:List Item),i+k=m.length->10*k+30<=n->skim 64 td=KN->Ext Any (λy=>A2<=y/\y<A2+16) s0 s->Aa s A2 0 (u8l (m.take i++List.replicate (16-i) 0))->
  T.get tm 2=some (.pointer (some ⟨A1,0,none⟩))->T.get tm 3=some (.pointer (some ⟨A2,0,none⟩))->T.get tm 4=some w->T.get tm 5=some (.int .i64 (i:Nat))->
  W (runF envS n ⟨91,AnD_,Ei,tm,td, .run, .normal,none⟩) s Q:=by
 intro k
 induction k with
 |zero=>
  intro i n tm s td hi hn hT hx ho g2 g3 g4 g5
  have him:i=m.length:=J
  subst him
  rw[List.take_length]at ho
  generalize hL:m++List.replicate (16-m.length) 0=L at *
  have hLl:(u8l L).length=16:=by rw[AQ,<-hL];simp;omega
  refine OG_.u ?_ hT
  simp only[Qj,RR,SS,Nat.reduceEqDiff,reduceCtorEq, ↓reduceIte,g4,g5]
  rw[(hB.ext hx hA).len' AH]
  simp only[SS,Nat.reduceEqDiff,reduceCtorEq, ↓reduceIte,Ad,Ah,Ab,Ae,Ak,An,Al,Ag]
  refine aE KO_ ?_
  refine AgK_.u ?_
  simp only[OS_,RR,SS,Nat.reduceEqDiff,reduceCtorEq, ↓reduceIte,Nat.reduceEqDiff, ↓reduceIte,g2,g3]
  refine aJ (b:=A2) (o:=0) EM (Aa.row ho) hLl λs1 m1 n1 x1=> ?_
  have y1:Ext Any (λy=>(A1<=y/\y<A1+16)\/(A2<=y/\y<A2+16)) s0 s1:=(hx.weak hb0 (λ_ _ h=>h) λ_ _ h=> .inr h).trans x1 hb0 (λ_ _ _=>trivial) λ_ _ h=>h.elim
  have o1':Aa s1 A1 0 (u8l (List.replicate 16 0)):=(o1.ext hx λj hj hg=>by
   have:j<16:=by simpa using hj
   omega).ext0 x1
  refine W.store (b:=A1) (o:=0) EM (v:= .agg (u8l L).toArray) hLl (CG _) (λj hj=>Aa.owned o1' j (by simpa using hj)) λs2 n2 x2 o2=> ?_
  rw[BV]at o2
  have y2:Ext Any (λy=>(A1<=y/\y<A1+16)\/(A2<=y/\y<A2+16)) s0 s2:=y1.trans x2 hb0 (λ_ _ _=>trivial) λy _ hg=> .inl ⟨by have:=hg.1;omega,by have h2:y<A1+0+16:=hg.2;omega⟩
  refine W.endC rfl (.inl AwN_) J Qj_ Ajn_ (y2.cx.trans hcx) (by simpa [T.get_set]using g2) ?_
  refine aJ (b:=A1) (o:=0) EM (Aa.row o2) hLl λs3 m3 n3 x3=> ?_
  exact q s3 (y2.trans x3 hb0 (λ_ _ _=>trivial) λ_ _ h=>h.elim)
 |succ k ih=>
  intro i n tm s td hi hn hT hx ho g2 g3 g4 g5
  have hil:i<m.length:=J
  have hBs:=hB.ext hx hA
  obtain⟨vb,vo,vc,ev,hatc,hatF⟩:=hBs.at' hil
  refine OG_.u ?_ hT
  simp only[Qj,RR,SS,Nat.reduceEqDiff,reduceCtorEq, ↓reduceIte,g4,g5]
  rw[hBs.len' AH]
  simp only[SS,Nat.reduceEqDiff,reduceCtorEq, ↓reduceIte,Ad,Ah,Ab,Ae,Ak,An,Al,Ag]
  refine aH KO_ ?_
  refine AsK_.u ?_
  simp only[PF_,RR,SS,Nat.reduceEqDiff,reduceCtorEq, ↓reduceIte,Nat.reduceEqDiff, ↓reduceIte,g3,g4,g5,ev,AO AH hil]
  refine aA (b:=vb) (o:=vo+i*1) Dd (v:=u8 m[i]) (by rw[Nat.mul_one];exact hatc) ?_
  have hx1:=hx.thenRd' hb0 (vb+(vo+i*1))
  rw[Kz (k:=i) Hy J]
  have hoi:Own s A2 (0+i*1) (u8 0):=by
   have:=ho i (u8 0) (by rw[List.getElem?_map,List.getElem?_append_right (by rw[List.length_take];omega),List.length_take,Nat.min_eq_left (Nat.le_of_lt hil),Nat.sub_self,List.getElem?_replicate,if_pos J];rfl)
   rwa [show 0+i*1=0+i by omega]
  refine aI (b:=A2) (o:=0+i*1) Dd rfl (hoi.same rfl rfl) λs2 n2 x2 o2=> ?_
  have hx2:Ext Any (λy=>A2<=y/\y<A2+16) s0 s2:=hx1.trans x2 hb0 (λ_ _ _=>trivial) λy _ hg=>by have h1:=hg.1;have h2:=hg.2;omega
  have ho2:Aa s2 A2 0 (u8l (m.take (i+1)++List.replicate (16-(i+1)) 0)):=by
   rw[<-ArW_ m hil hm,u8l,List.map_set]
   refine Aa.setY (F:=λ_=>True) (s:=s.rdN (vb+(vo+i*1))) (λj u hu=>(ho j u hu).same rfl rfl) ?_ ?_
   ·rw[show 0+i=0+i*1 by omega]
    exact x2.weak (hx1.bnd hb0) (λ_ _ _=>trivial) λ_ _ h=>h
   ·rw[show 0+i=0+i*1 by omega]
    exact o2
  refine XR_.u ?_
  have ei:=eiW (i:=i) J
  simp only[WZ,RR,SS,Nat.reduceEqDiff,reduceCtorEq, ↓reduceIte,Ad,Ah,Ab,Ae,Ak,An,Al,Ag,Nat.reduceEqDiff, ↓reduceIte,g5,ei]
  exact ih (i+1) _ _ _ _ J J WR_ hx2 ho2 (an g2) (an g3) (by simp[T.get_set,g4,ev]) Y
end
section
variable {R n:Nat}{v:Value}{l:List Nat}{s:St}{Q:Value->St->Prop}{st:Rd}
theorem AoS_ (hb:s.lim<=s.next)(h:RrI s R v l st)(hz:l.length<=1000000)(hn:400<=n)
  (q: ∀s1,Ext Any (RrG R) s s1->RrI s1 R v l (rID st).2->Q (.agg (u8l (rID st).1).toArray) s1):W (Ac envS (runF envS n) 91 [.pointer (some ⟨R,0,none⟩)]) s Q:=by
 have hb0:(s.cxN cxN).lim<=(s.cxN cxN).next:=hb
 refine AwJ_ λtm k0=> ?_
 refine AtZ_.u ?_
 simp only[TW_,RR,SS,Nat.reduceEqDiff,reduceCtorEq, ↓reduceIte]
 refine W.alloc M4 λs1 n1 x1 o1=> ?_
 have n1':s1.next=s.next+17:=n1
 have y1:Ext Any Non (s.cxN cxN) s1:=x1.any hb0
 refine ApN_.u ?_
 simp only[Fj_,RR,SS,Nat.reduceEqDiff,reduceCtorEq, ↓reduceIte]
 refine W.alloc M4 λs2 n2 x2 o2=> ?_
 have n2':s2.next=s1.next+17:=n2
 have y2:=y1.then0 x2 hb0
 have h2:RrI s2 R v l st:=(h.same (s':=s.cxN cxN) rfl rfl).ext0 y2
 obtain⟨a,ha,oa⟩: ∃a:Int,(∀r,st=some r->a=((l.length-r.length:Nat):Int))/\Own s2 R 1 (.int .i64 a):=by
  cases st with
  |none=>obtain⟨a,_,_,g,_⟩:=h2.st;exact⟨a,⟨λr h=>(by cases h),g⟩⟩
  |some r=>exact⟨_,⟨λr' h=>(by cases h;rfl),h2.st.1⟩⟩
 refine YG_.u ?_
 simp only[Yo,RR,SS,Nat.reduceEqDiff,reduceCtorEq, ↓reduceIte,Nat.reduceEqDiff, ↓reduceIte,k0,Af C2 al]
 refine aA (b:=R) (o:=0+1) Ap oa.at' ?_
 have y3:=y2.thenRd hb0 (R+(0+1))
 obtain⟨s3,hs3⟩: ∃s3,s3=s2.rdN (R+(0+1)):=⟨_,rfl⟩
 rw[<-hs3]at y3 ⊢
 have h3:RrI s3 R v l st:=(h.same (s':=s.cxN cxN) rfl rfl).ext0 y3
 refine Ajc_ ha (y3.bnd hb0) h3 hz J λs4 w m x4 r4 b4 f4 hm=> ?_
 have y4:Ext Any (RrG R) (s.cxN cxN) s4:=(y3.weak hb0 (λ_ _ h=>h) λ_ _ h=>h.elim).trans x4 hb0 (λ_ _ _=>trivial) λ_ _ h=>h
 have hR:=h.rt
 have n3:s3.next=s2.next:=by rw[hs3];rfl
 have o1':Aa s4 s.next 0 (u8l (List.replicate 16 0)):=λj u hu=>(((o1 j u hu).ext0 x2).same (s':=s3) (by rw[hs3];rfl) (by rw[hs3];rfl)).ext x4 λhg=>by
  rcases hg with hg|hg|hg<;>(have h1:s.next+(0+j)=_:=hg;omega)
 have o2':Aa s4 s1.next 0 (u8l (List.replicate 16 0)):=λj u hu=>((o2 j u hu).same (s':=s3) (by rw[hs3];rfl) (by rw[hs3];rfl)).ext x4 λhg=>by
  rcases hg with hg|hg|hg<;>(have h1:s1.next+(0+j)=_:=hg;omega)
 have hm16:m.length<=16:=by rcases hm with⟨h,_⟩|⟨h,_⟩<;>simp[h]
 have em:m++List.replicate (16-m.length) 0=(rID st).1:=by
  rcases hm with⟨h,e⟩|⟨h,e⟩
  ·rw[e,h];simp
  ·rw[e,h];rfl
 refine Avi_.u ?_
 simp only[SQ_,RR,SS,Nat.reduceEqDiff,reduceCtorEq, ↓reduceIte]
 refine AvE_ (s0:=s4) (A1:=s.next) (A2:=s1.next) (w:=w) (m:=m) (y4.bnd hb0) y4.cx b4 hm16 (λx hx hg=>by have:=f4 x hx;omega) J o1' (λs5 x5=> ?_) m.length 0 _ _ s4 _ (Nat.zero_add _) J rfl (Ext.refl _) o2' Y Y Y Y
 rw[em]
 have y5:Ext Any (RrG R) (s.cxN cxN) s5:=y4.trans x5 hb0 (λ_ _ _=>trivial) λy hy hg=>by
  have h2:y<s.next:=hy
  omega
 refine q _ y5.cx' ((r4.ext x5 λy hy hg=> ?_).same rfl rfl)
 rcases hy with hy|hy
 ·omega
 ·have:=h.lt y hy
  omega
theorem ArB_ (hb:s.lim<=s.next)(h:RrI s R v l st)(hn:60<=n)(q: ∀(e p:Int) s1,Ext Any Non s s1->(e=0↔st=some [])->Q (.agg #[.int .i64 e, .int .i64 p]) s1):
  W (Ac envS (runF envS n) 92 [.pointer (some ⟨R,0,none⟩)]) s Q:=by
 have hb0:(s.cxN cxN).lim<=(s.cxN cxN).next:=hb
 refine Anu_ λtm k0=> ?_
 refine AhE_.u ?_
 simp only[Ml_,RR,SS,Nat.reduceEqDiff,reduceCtorEq, ↓reduceIte]
 refine W.alloc FX λs1 n1 x1 o1=> ?_
 have y1:Ext Any Non (s.cxN cxN) s1:=x1.any hb0
 have h1:RrI s1 R v l st:=(h.same (s':=s.cxN cxN) rfl rfl).ext0 y1
 have o1':Aa s1 s.next 0 [.int .i64 0, .int .i64 0]:=o1
 have fin: ∀(n':Nat) (tm':T Value) (s5:St) (td' P:List Item) (e' p':Int),10<=n'->skim 64 td'=P->(∃k,P= .code .ret::k)->Ext Any Non (s.cxN cxN) s5->Aa s5 s.next 0 [.int .i64 e', .int .i64 p']->(e'=0↔st=some [])->T.get tm' 2=some (.pointer (some ⟨s.next,0,none⟩))->
   W (runF envS n' ⟨92,AxT_,Gf,tm',td', .run, .normal,none⟩) s5 λp s1=>Q p.1 (s1.cxN s.cx):=by
  intro n' tm' s5 td' P e' p' hn' hT' hP y5 r5 he' g2
  refine W.endC hT' (.inl hP) J Hz_ AhH_ y5.cx g2 ?_
  refine aJ (b:=s.next) (o:=0) BQ (Aa.row r5) rfl λs8 m8 n8 x8=> ?_
  exact q e' p' _ (y5.then0 x8 hb0).cx' he'
 have st2: ∀(e2 p2:Int) (s6:St) (Q':Value->St->Prop),Ext Any Non (s.cxN cxN) s6->Aa s6 s.next 0 [.int .i64 0, .int .i64 0]->(∀s7 u,Ext Any Non (s.cxN cxN) s7->Aa s7 s.next 0 [.int .i64 e2, .int .i64 p2]->Q' u s7)->W (Ax envS 116 (.pointer (some ⟨s.next,0,none⟩)) (.agg #[.int .i64 e2, .int .i64 p2])) s6 Q':=by
  intro e2 p2 s6 Q' y6 o6 q'
  refine W.store (b:=s.next) (o:=0) BQ (v:= .agg #[.int .i64 e2, .int .i64 p2]) rfl rfl (λj hj=>Aa.owned o6 j (by simpa using hj)) λs7 n7 x7 o7=> ?_
  exact q' s7 _ (y6.thenW x7 hb0 (by show s.next<=s.next+0;omega)) o7
 refine AgY_.wr rfl J ?_
 simp only[TK_,RR,T.get_set,Nat.reduceEqDiff, ↓reduceIte,k0,AA,Aw,Bo,Bi D3 al,Bi Cm al]
 cases st with
 |none=>
  obtain⟨a,e,p,g1,g2,g3,he⟩:=h1.st
  refine aD (b:=R) (o:=0+2+0) CF (g2.same (s':=dSt s1.mem s1.next) rfl rfl).at' λrd1 _=> ?_
  have ed:decide (e=0)=false:=decide_eq_false he
  simp only[AA]
  rw[W_dq λs Q=>Al (s:=s) e 0 (Q:=Q)]
  simp only[AA,Aw,ed,A4,Dc,Hr,UU_]
  rw[AJ]
  refine⟨rfl,am,am,λs5 m5 n5 x5=> ?_⟩
  refine W.cast (UT_ ..) ?_
  simp only[SS,Nat.reduceEqDiff,reduceCtorEq, ↓reduceIte]
  have y5:=y1.then0 x5 hb0
  refine aE M5 ?_
  refine Ul_.u ?_
  simp only[Se,RR,SS,Nat.reduceEqDiff,reduceCtorEq, ↓reduceIte,Nat.reduceEqDiff, ↓reduceIte,k0,Af D3 al]
  have hRow:Row s5 R (0+2) [.int .i64 e, .int .i64 p]:=λj u hu=>by
   match j,hu with
   |0,hu=>cases hu;exact(g2.ext0 x5).at'
   |1,hu=>cases hu;exact(g3.ext0 x5).at'
  refine aJ (b:=R) (o:=0+2) BQ hRow rfl λs6 m6 n6 x6=> ?_
  have y6:=y5.then0 x6 hb0
  refine st2 e p s6 _ y6 (λj u hu=>((o1' j u hu).ext0 x5).ext0 x6) λs7 _ y7 o7=> ?_
  exact fin _ _ s7 _ _ e p J rfl ZV y7 o7 (by simp[he]) (by simp[T.get_set];rfl)
 |some r=>
  obtain⟨g1,g2,⟨p,g3⟩,hr,hrl⟩:=h1.st
  refine aD (b:=R) (o:=0+2+0) CF (g2.same (s':=dSt s1.mem s1.next) rfl rfl).at' λrd1 _=> ?_
  simp only[AA]
  rw[W_dq λs Q=>Al (s:=s) 0 0 (Q:=Q)]
  simp only[AA,Aw,decide_true,A4,ED,Hr,Js,Bo,Bi C2 al]
  refine aD (b:=R) (o:=0+1) Ap (g1.same (s':=dSt s1.mem s1.next) rfl rfl).at' λrd2 _=> ?_
  simp only[AA,Aw,decide_true,A4,ED,Hr,Js,Bo,Bi Im al]
  refine aD (b:=R) (o:=0+0) BE (h1.o0.same (s':=dSt s1.mem s1.next) rfl rfl).at' λrd3 _=> ?_
  simp only[A4,ED,Hr,Js,Bb,A7,AX,AA]
  rw[W_dq λs Q=>h1.bs.len' (s':=s) AH Q]
  simp only[AA]
  rw[W_dq λs Q=>Ab (s:=s) ((l.length-r.length:Nat):Int) ((l.length:Nat):Int) (Q:=Q),AJ]
  refine⟨rfl,am,am,λs5 m5 n5 x5=> ?_⟩
  refine W.cast (UT_ ..) ?_
  simp only[SS,Nat.reduceEqDiff,reduceCtorEq, ↓reduceIte]
  have y5:=y1.then0 x5 hb0
  by_cases hr0:r=[]
  ·refine aE M5 ?_ rfl (an hr0)
   refine Ul_.u ?_
   simp only[Se,RR,SS,Nat.reduceEqDiff,reduceCtorEq, ↓reduceIte,Nat.reduceEqDiff, ↓reduceIte,k0,Af D3 al]
   have hRow:Row s5 R (0+2) [.int .i64 0, .int .i64 p]:=λj u hu=>by
    match j,hu with
    |0,hu=>cases hu;exact(g2.ext0 x5).at'
    |1,hu=>cases hu;exact(g3.ext0 x5).at'
   refine aJ (b:=R) (o:=0+2) BQ hRow rfl λs6 m6 n6 x6=> ?_
   have y6:=y5.then0 x6 hb0
   refine st2 0 p s6 _ y6 (λj u hu=>((o1' j u hu).ext0 x5).ext0 x6) λs7 _ y7 o7=> ?_
   exact fin _ _ s7 _ _ 0 p J rfl ZV y7 o7 (by simp[hr0]) (by simp[T.get_set];rfl)
  ·have hrp:0<r.length:=List.length_pos_iff.2 hr0
   refine aH M5 ?_
   refine YI_.u ?_
   simp only[JX_,RR,SS,Nat.reduceEqDiff,reduceCtorEq, ↓reduceIte,Nat.reduceEqDiff, ↓reduceIte,k0,Af C2 al]
   refine aA (b:=R) (o:=0+1) Ap (g1.ext0 x5).at' ?_
   have y6:=y5.thenRd hb0 (R+(0+1))
   simp only[SS,Nat.reduceEqDiff,reduceCtorEq, ↓reduceIte,Nat.reduceEqDiff, ↓reduceIte,Ci (EW 4 _)]
   refine st2 4 _ _ _ y6 (λj u hu=>((o1' j u hu).ext0 x5).same rfl rfl) λs7 _ y7 o7=> ?_
   exact fin _ _ s7 _ _ 4 _ J rfl AaZ_ y7 o7 (by simp[hr0]) (by simp[T.get_set];rfl)
theorem Aou_ (p:Option Addr)(n c:Nat):C5 envS 122 [(0, .slice p n c)]=some [.slice p n c, .int .i64 0, .int .i64 0, .int .i64 0]:=X
theorem Apt_ (hb:s.lim<=s.next)(hv:Bs s v l)(hlt: ∀x,BsF v x->x<s.next)(hn:20<=n)(q: ∀s1,Ext Any Non s s1->RrI s1 s.next v l (some l)->Q (.pointer (some ⟨s.next,0,none⟩)) s1):
  W (Ac envS (runF envS n) 88 [v]) s Q:=by
 have hb0:(s.cxN cxN).lim<=(s.cxN cxN).next:=hb
 refine AxO_ λtm k0=> ?_
 refine Auf_.u ?_
 simp only[UI,RR,SS,Nat.reduceEqDiff,reduceCtorEq, ↓reduceIte]
 refine Aql_.u ?_
 obtain⟨p,c,ew⟩:=hv.sl
 simp only[HU_,RR,SS,Nat.reduceEqDiff,reduceCtorEq, ↓reduceIte,Nat.reduceEqDiff, ↓reduceIte,k0]
 rw[ew,Ci (Aou_ p l.length c),<-ew]
 refine W.box λs2 n2 x2 o2=> ?_
 have n2':s2.next=s.next+5:=n2
 have y2:Ext Any Non (s.cxN cxN) s2:=x2.any hb0
 have o2':Aa s2 s.next 0 [v, .int .i64 0, .int .i64 0, .int .i64 0]:=o2
 refine aB (rs:=[2]) (vs:=[.pointer (some ⟨s.next,0,none⟩)]) rfl (.inl Aac_) J Jf_ Zr_ y2.cx (by simp[T.get_set];rfl) ?_
 have hbs:Bs s2 v l:=(hv.same (s':=s.cxN cxN) rfl rfl).ext0 y2
 exact q _ y2.cx' ⟨(o2' 0 _ rfl).same rfl rfl,⟨by rw[Nat.sub_self];exact(o2' 1 _ rfl).same rfl rfl,(o2' 2 _ rfl).same rfl rfl,⟨0,(o2' 3 _ rfl).same rfl rfl⟩,by rw[Nat.sub_self];rfl,Nat.le_refl _⟩,hbs.same rfl rfl,λx hx k=>by have:=hlt x hx;omega,λx hx=>by have:=hlt x hx;show x<s2.next;omega,by show s.next+3<s2.next;omega⟩
