import Derived.Test.YtofanlcjeohcjaaIBz23
noncomputable section
namespace Go.Proofs.Ytofanlcjeohcjaa.Am
open Go.RowKit
theorem AuL_:(List.replicate 16 (.int .u8 0):List Value)=u8l (List.replicate 16 0):=am
theorem AaH_ (p:Option Addr)(n c:Nat):C5 envS 152 [(0, .bool true),(1, .slice p n c)]=some [.bool true, .slice p n c, .int .i64 0, .int .i64 0, .int .i64 0]:=X
theorem FX:DZ envS 116=some [.int .i64 0, .int .i64 0]:=X
section
variable {R n:Nat}{v:Value}{l:List Nat}{s:St}{Q:Value->St->Prop}{st:Rd}
theorem Fa (st:Rd):(rID st).1.length=16:=by
 cases st with
 |none=>rfl
 |some r=>
  unfold rID
  simp only
  split
  ·rfl
  ·show(r.take 16).length=16
   rw[List.length_take]
   omega
theorem AqL_ (hb:s.lim<=s.next)(h:RdI s R v l st)(hz:l.length<=1000000000)(hn:600<=n)
  (q: ∀s1,Ext Any (RdG R) s s1->RdI s1 R v l (rID st).2->Q (.agg (u8l (rID st).1).toArray) s1):W (Ac envS (runF envS n) 122 [.pointer (some ⟨R,0,none⟩)]) s Q:=by
 have hb0:(s.cxN cxN).lim<=(s.cxN cxN).next:=hb
 refine AlJ_ λtm k0=> ?_
 refine AbT_.u ?_
 simp only[V8,RR,SS,k0]
 refine W.box λs1 n1 x1 o1=> ?_
 have o1':Own s1 s.next 0 (.pointer (some ⟨R,0,none⟩)):=o1 0 _ rfl
 have n1':s1.next=s.next+2:=n1
 have y1:Ext Any Non (s.cxN cxN) s1:=x1.any hb0
 refine W.alloc M4 λs4 n4 x4 o4=> ?_
 rw[AuL_]at o4
 have n4':s4.next=s1.next+17:=n4
 have y4:=y1.then0 x4 hb0
 have oB:Own s4 s.next 0 (.pointer (some ⟨R,0,none⟩)):=o1'.ext0 x4
 have h4:RdI s4 R v l st:=(h.same (s':=s.cxN cxN) rfl rfl).ext0 y4
 have hb4:=y4.bnd hb0
 have hRt:R+4<s.next:=h.rt
 have hs1:s.next<=s1.next:=y1.nxt
 have fin: ∀(n':Nat) (tm':T Value) (s5:St) (td':List Item),10<=n'->skim 64 td'=MP->Ext Any (RdG R) (s.cxN cxN) s5->RdI s5 R v l (rID st).2->Aa s5 s1.next 0 (u8l (rID st).1)->T.get tm' 2=some (.pointer (some ⟨s1.next,0,none⟩))->
   W (runF envS n' ⟨122,AaU_,HH,tm',td', .run, .normal,none⟩) s5 λp s1=>Q p.1 (s1.cxN s.cx):=by
  intro n' tm' s5 td' hn' hT' y5 h5 o5 g6
  have hl16:(u8l (rID st).1).length=16:=by rw[AQ,Fa]
  refine Arp_.u ?_ hT'
  simp only[Zy,RR,SS,g6]
  refine aJ EM o5.row hl16 λs6 m6 n6 x6=> ?_
  have y6:Ext Any (RdG R) (s.cxN cxN) s6:=y5.trans x6 hb0 (λ_ _ _=>trivial) λ_ _ h=>h.elim
  refine W.store (b:=s1.next) (o:=0) EM (v:= .agg (u8l (rID st).1).toArray) hl16 (CG _) (λj hj=>Aa.owned (λi u e=>(o5 i u e).ext0 x6) j (by rw[hl16];exact hj)) λs7 n7 x7 o7=> ?_
  have y7:Ext Any (RdG R) (s.cxN cxN) s7:=y6.trans x7 hb0 (λ_ _ _=>trivial) λy hy hh=>by
   have h1:=hh.1
   have h2:y<s.next:=hy
   omega
  have h7:RdI s7 R v l (rID st).2:=(h5.ext0 x6).ext x7 λy hy hh=>by
   have h1:=hh.1
   rcases hy with hy|hy
   ·omega
   ·have:=h.lt y hy
    omega
  refine W.endC rfl (.inl Ahq_) J ND_ Aoz_ y7.cx (by simpa [T.get_set]using g6) ?_
  refine aJ (o:=0) EM (Aa.row o7) hl16 λs8 m8 n8 x8=> ?_
  exact q _ (y7.trans x8 hb0 (λ_ _ _=>trivial) λ_ _ h=>h.elim).cx' ((h7.ext0 x8).same rfl rfl)
 refine AkY_.u ?_
 simp only[AO_,RR,SS,Nat.reduceEqDiff, ↓reduceIte]
 refine aA Dq oB.at' ?_
 have y5:=y4.thenRd hb0 (s.next+(0+0))
 have y5':Ext Any Non s4 (s4.rdN (s.next+(0+0))):=(Ext.refl (F:=Any) (G:=Non) s4).thenRd hb4 _
 obtain⟨s5,hs5⟩: ∃s5,s5=s4.rdN (s.next+(0+0)):=⟨_,rfl⟩
 have b5:s5.lim<=s5.next:=by rw[hs5];exact y5.bnd hb0
 have n5:s5.next=s4.next:=by rw[hs5];rfl
 have z5:Ext Any Non s4 s5:=by rw[hs5];exact y5'
 have y55:Ext Any Non (s.cxN cxN) s5:=by rw[hs5];exact y5
 have h5:=h4.ext0 z5
 have oB5:=oB.ext0 z5
 have oN5:Aa s5 s1.next 0 (u8l (List.replicate 16 0)):=λi u e=>(o4 i u e).ext0 z5
 rw[show((s4.rdN ((s.cxN cxN).next+(0+0))):St)=s5 from hs5.symm]
 cases st with
 |none=>
  obtain⟨a,e,p,g2,g3,g4,he⟩:=h5.st
  refine RX b5 h5.o0 g3 he J λu s6 x6=> ?_
  exact fin _ _ s6 _ J rfl ((y55.then0 x6 hb0).weak hb0 (λ_ _ h=>h) λ_ _ h=>h.elim) (h5.ext0 x6) (λi u e=>(oN5 i u e).ext0 x6) Y
 |some r=>
  obtain⟨g2,g3,⟨p4,g4⟩,hr,hrl⟩:=h5.st
  have nR: ∀y,(s1.next<=y/\y<s1.next+16)-> ¬(R<=y/\y<R+5)/\ ¬BsF v y:=λy hy=>⟨λk=>J,λk=>by have:=h.lt y k;omega⟩
  refine Qb (G:=λx=>x=R+2\/(s1.next<=x/\x<s1.next+16)) (Φ:=λs7=>16<=r.length/\Own s7 R 2 (.int .i64 (l.length-r.length+16:Nat))/\Aa s7 s1.next 0 (u8l ((l.take (l.length-r.length+16)).drop (l.length-r.length)))) (Ψ:=λs7=>r.length<16/\Aa s7 s1.next 0 (u8l (List.replicate 16 0))) b5 h5.o0 g2 g3 ⟨_,g4⟩ (λx hx=>J) J (λn' s6 hn' b6 x6=> ?_) (λu s7 s8 hΦ m8 n8 x8=> ?_) λu s7 s8 e pos he hΨ x78 x8 o82 o83 o84=> ?_
  ·have z6:Ext Any Non s5 (s6.cxN s5.cx):=x6.cxs s5.cx s5.cx
   refine AvA_ (s:=s6) (B:=s.next) (N:=s1.next) (at0:=l.length-r.length) b6 ((oB5.ext0 z6).same rfl rfl) (λi u e=>((oN5 i u e).ext0 z6).same rfl rfl) (λi hi=>J) J (λx hx=>λk=>(nR x k).2 hx) ((h5.o1.ext0 z6).same rfl rfl) ((h5.bs.ext0 z6).same rfl rfl) ((g2.ext0 z6).same rfl rfl) J hz (λx hx hx'=>h5.dj x hx J) J (λhc u s7 x7 o1 o2=> ?_) λhc e pos s7 he x7 o1 o2=> ?_
   ·exact⟨x7,J,o1,o2⟩
   ·exact⟨e,pos,rfl,he,x7,o1,J,o2⟩
  ·obtain⟨hc,o1,o2⟩:=hΦ
   have e3:rID (some r)=(r.take 16,some (r.drop 16)):=by
    unfold rID
    simp only
    rw[if_neg J]
   have e4:(l.take (l.length-r.length+16)).drop (l.length-r.length)=r.take 16:=by
    conv=>rhs;rw[hr]
    rw[List.drop_take,show l.length-r.length+16-(l.length-r.length)=16 by omega]
   rw[e4]at o2
   have e5:(r.drop 16).length=r.length-16:=List.length_drop
   have y8:Ext Any (RdG R) (s.cxN cxN) s8:=(y55.weak hb0 (λ_ _ h=>h) λ_ _ h=>h.elim).trans x8 hb0 (λ_ _ _=>trivial) λy hy h=>by
    have h2:y<s.next:=hy
    rcases h with h|h
    ·exact .inl h
    ·omega
   have h8:RdI s8 R v l (some (r.drop 16)):=h5.adv x8 (λy hy=>by
    rcases hy with hy|hy
    ·exact .inl hy
    ·exact .inr (nR y hy)) (by
     rw[e5,show l.length-(r.length-16)=l.length-r.length+16 by omega]
     exact o1.same m8 n8) (by
     conv=>lhs;rw[hr]
     rw[List.drop_drop,e5]
     congr 1
     omega) J
   exact fin _ _ s8 _ J rfl y8 (by rw[e3];exact h8) (by rw[e3];exact λi u e=>(o2 i u e).same m8 n8) Y
  ·obtain⟨hc,o1⟩:=hΨ
   have e3:rID (some r)=(List.replicate 16 0,none):=by
    unfold rID
    simp only
    rw[if_pos hc]
   have y8:Ext Any (RdG R) (s.cxN cxN) s8:=(y55.weak hb0 (λ_ _ h=>h) λ_ _ h=>h.elim).trans x8 hb0 (λ_ _ _=>trivial) λy hy h=>by
    have h2:y<s.next:=hy
    rcases h with(h|h)|h
    ·exact .inl h
    ·omega
    ·exact h
   have h8:RdI s8 R v l none:=h5.flt x8 (λy hy=>by
    rcases hy with(hy|hy)|hy
    ·exact .inl (.inl hy)
    ·exact .inr (nR y hy)
    ·exact .inl hy) o82 o83 o84 he
   have o8:Aa s8 s1.next 0 (u8l (List.replicate 16 0)):=λi u e=>(((o1 i u e).same (s':=s7.cxN cxN) rfl rfl).ext x78 λk=>by
    rcases k with k|k|k<;>omega).same rfl rfl
   exact fin _ _ s8 _ J rfl y8 (by rw[e3];exact h8) (by rw[e3];exact o8) Y
theorem Pl (hb:s.lim<=s.next)(h:RdI s R v l st)(hn:40<=n)(q: ∀(e p:Int) s1,Ext Any Non s s1->(e=0↔st≠none)->Q (.agg #[.int .i64 e, .int .i64 p]) s1):
  W (Ac envS (runF envS n) 84 [.pointer (some ⟨R,0,none⟩)]) s Q:=by
 have hb0:(s.cxN cxN).lim<=(s.cxN cxN).next:=hb
 obtain⟨e,p,g3,g4,he⟩: ∃e p:Int,Own s R 3 (.int .i64 e)/\Own s R 4 (.int .i64 p)/\(e=0↔st≠none):=by
  cases st with
  |none=>
   obtain⟨a,e,p,g2,g3,g4,he⟩:=h.st
   exact⟨e,p,g3,g4,by simp[he]⟩
  |some r=>
   obtain⟨g2,g3,⟨p,g4⟩,_⟩:=h.st
   exact⟨0,p,g3,g4,am⟩
 refine AjN_ λtm k0=> ?_
 refine AaA_.u ?_
 simp only[PE_,RR,SS]
 refine W.alloc FX λs1 n1 x1 o1=> ?_
 have n1':s1.next=s.next+3:=n1
 have y1:Ext Any Non (s.cxN cxN) s1:=x1.any hb0
 refine AbI_.u ?_
 simp only[PZ_,RR,SS,reduceCtorEq, ↓reduceIte,k0,Ki Ta_,Af FF_ al]
 refine aA Fh ((h.o0.same (s':=s.cxN cxN) rfl rfl).ext0 y1).at' ?_
 have y2:=y1.thenRd hb0 (R+(0+0))
 simp only[CI,Bool.not_true]
 refine aE AtR_ ?_
 refine AgU_.u ?_
 simp only[DM_,RR,SS,Nat.reduceEqDiff,reduceCtorEq, ↓reduceIte,k0,Af OG al]
 have rowE:Row (s1.rdN (R+(0+0))) R (0+3) [.int .i64 e, .int .i64 p]:=λj u hu=>by
  match j,hu with
  |0,hu=>cases hu;exact(((g3.same (s':=s.cxN cxN) rfl rfl).ext0 y1).same rfl rfl).at'
  |1,hu=>cases hu;exact(((g4.same (s':=s.cxN cxN) rfl rfl).ext0 y1).same rfl rfl).at'
 refine aJ BQ rowE rfl λs3 m3 n3 x3=> ?_
 have y3:=y2.then0 x3 hb0
 have o1':Aa s3 s.next 0 [.int .i64 0, .int .i64 0]:=λj u hu=>((o1 j u hu).same (s':=s1.rdN (R+(0+0))) rfl rfl).ext0 x3
 refine W.store (b:=s.next) (o:=0) BQ (v:= .agg #[.int .i64 e, .int .i64 p]) rfl rfl (λj hj=>Aa.owned o1' j (by simpa using hj)) λs4 n4 x4 o4=> ?_
 have y4:Ext Any Non (s.cxN cxN) s4:=y3.trans x4 hb0 (λ_ _ _=>trivial) λy hy hh=>by
  have h1:=hh.1
  have h2:y<s.next:=hy
  omega
 refine W.endC rfl (.inl Amf_) J Mg_ Atu_ y4.cx (by simp[T.get_set];rfl) ?_
 refine aJ (b:=s.next) (o:=0) BQ (Aa.row o4) rfl λs5 m5 n5 x5=> ?_
 exact q e p _ (y4.then0 x5 hb0).cx' he
end
theorem Hr {α:Type}(m:M α):M.chk true m=m:=rfl
theorem Js {α:Type}(x y:M α):aO true x y=x:=rfl
theorem UU_ {α:Type}(x y:M α):aO false x y=y:=rfl
section
variable {R n:Nat}{v:Value}{l:List Nat}{s:St}{Q:Value->St->Prop}{st:Rd}
theorem AoH_ (hb:s.lim<=s.next)(h:RdI s R v l st)(hz:l.length<=1000000000)(hn:100<=n)(q: ∀(e p:Int) s1,Ext Any Non s s1->(e=0↔st=some [])->Q (.agg #[.int .i64 e, .int .i64 p]) s1):
  W (Ac envS (runF envS n) 86 [.pointer (some ⟨R,0,none⟩)]) s Q:=by
 have hb0:(s.cxN cxN).lim<=(s.cxN cxN).next:=hb
 have h':RdI (s.cxN cxN) R v l st:=h.same rfl rfl
 refine Avn_ λtm k0=> ?_
 refine AnR_.u ?_
 simp only[Dj_,RR,SS]
 refine W.alloc FX λs1 n1 x1 o1=> ?_
 have n1':s1.next=s.next+3:=n1
 have y1:Ext Any Non (s.cxN cxN) s1:=x1.any hb0
 refine Xs_.u ?_
 simp only[GQ_,RR,SS,reduceCtorEq, ↓reduceIte,k0]
 refine Pl (y1.bnd hb0) (h'.ext0 y1) J λe p s2 x2 he=> ?_
 have y2:=y1.then0 x2 hb0
 refine W.alloc FX λs3 n3 x3 o3=> ?_
 have y3:=y2.then0 x3 hb0
 have n3':s3.next=s2.next+3:=n3
 have n12:s1.next<=s2.next:=x2.nxt
 refine W.store (b:=s2.next) (o:=0) BQ (v:= .agg #[.int .i64 e, .int .i64 p]) rfl rfl (λj hj=>Aa.owned o3 j (by simpa using hj)) λs4 n4 x4 o4=> ?_
 have y4:Ext Any Non (s.cxN cxN) s4:=y3.trans x4 hb0 (λ_ _ _=>trivial) λy hy hh=>by
  have h1:=hh.1
  have h2:y<s.next:=hy
  omega
 have o4':Aa s4 s2.next 0 [.int .i64 e, .int .i64 p]:=o4
 have oT:Aa s4 s.next 0 [.int .i64 0, .int .i64 0]:=λj u hu=>(((o1 j u hu).ext0 x2).ext0 x3).ext x4 λhh=>by
  have h1:=hh.1
  have h2:j<2:=(List.getElem?_eq_some_iff.1 hu).1
  have h3:s2.next<=s.next+(0+j):=by
   show s2.next<=_
   have:s2.next+0<=s.next+(0+j):=h1
   omega
  omega
 have h4:RdI s4 R v l st:=h'.ext0 y4
 have oE:Own s4 s2.next 0 (.int .i64 e):=o4' 0 _ rfl
 have fin: ∀(n':Nat) (tm':T Value) (s5:St) (td':List Item) (e' p':Int),10<=n'->skim 64 td'=KE->Ext Any Non (s.cxN cxN) s5->Aa s5 s2.next 0 [.int .i64 e', .int .i64 p']->Aa s5 s.next 0 [.int .i64 0, .int .i64 0]->(e'=0↔st=some [])->T.get tm' 2=some (.pointer (some ⟨s.next,0,none⟩))->T.get tm' 3=some (.pointer (some ⟨s2.next,0,none⟩))->
   W (runF envS n' ⟨86,AdH_,FB,tm',td', .run, .normal,none⟩) s5 λp s1=>Q p.1 (s1.cxN s.cx):=by
  intro n' tm' s5 td' e' p' hn' hT' y5 r5 t5 he' g2 g3
  refine AoG_.u ?_ hT'
  simp only[LZ_,RR,SS,g3]
  refine aJ (o:=0) BQ r5.row rfl λs6 m6 n6 x6=> ?_
  have y6:=y5.then0 x6 hb0
  try simp only[SS,g2]
  refine W.store (b:=s.next) (o:=0) BQ (v:= .agg #[.int .i64 e', .int .i64 p']) rfl rfl (λj hj=>Aa.owned (λj u hu=>(t5 j u hu).ext0 x6) j (by simpa using hj)) λs7 n7 x7 o7=> ?_
  have y7:Ext Any Non (s.cxN cxN) s7:=y6.trans x7 hb0 (λ_ _ _=>trivial) λy hy hh=>by
   have h1:=hh.1
   have h2:y<s.next:=hy
   omega
  refine W.endC rfl (.inl WG_) J Cj_ AsW_ y7.cx (by simp[g2];rfl) ?_
  refine aJ (b:=s.next) (o:=0) BQ (Aa.row o7) rfl λs8 m8 n8 x8=> ?_
  exact q e' p' _ (y7.then0 x8 hb0).cx' he'
 refine Afm_.wr rfl J ?_
 simp only[ZE,RR,T.get_set,Nat.reduceEqDiff, ↓reduceIte,k0,AA,Bi Cm al]
 refine aD (b:=s2.next) (o:=0+0) CF (oE.same (s':=dSt s4.mem s4.next) rfl rfl).at' λrd1 _=> ?_
 simp only[AA]
 rw[W_dq λs Q=>Al (s:=s) e 0 (Q:=Q)]
 simp only[Aw]
 by_cases he0:e=0
 ·have ed:decide (e=0)=true:=decide_eq_true he0
  obtain⟨r,hst⟩: ∃r,st=some r:=by
   cases st with
   |none=>exact absurd rfl (he.1 he0)
   |some r=>exact⟨r,rfl⟩
  subst hst
  obtain⟨g2,g3,_,hr,hrl⟩:=h4.st
  simp only[ed,A4,ED,Hr,Js,Aw,Bo,Bi Da al]
  refine aD Ap (g2.same (s':=dSt s4.mem s4.next) rfl rfl).at' λrd2 _=> ?_
  simp only[Aw,Bo,Bi Et al]
  refine aD BE (h4.o1.same (s':=dSt s4.mem s4.next) rfl rfl).at' λrd3 _=> ?_
  simp only[Bb,A7,AX,AA]
  rw[W_dq λs Q=>h4.bs.len' (s':=s) AH Q]
  simp only[AA]
  rw[W_dq λs Q=>Ab (s:=s) ((l.length-r.length:Nat):Int) ((l.length:Nat):Int) (Q:=Q),AJ]
  refine⟨rfl,am,am,λs5 m5 n5 x5=> ?_⟩
  refine W.cast (S9 _ _ _ _ _ _ _ _ _ _ _ _ _ _ _ _ _ _ _) ?_
  simp only[SS, ↓reduceIte]
  have y5:=y4.then0 x5 hb0
  by_cases hr0:r=[]
  ·refine aE R9 ?_ rfl (an hr0)
   exact fin _ _ s5 _ e p J rfl y5 (λj u hu=>(o4' j u hu).ext0 x5) (λj u hu=>(oT j u hu).ext0 x5) (by simp[he0,hr0]) Y Y
  ·have hrp:0<r.length:=List.length_pos_iff.2 hr0
   refine aH R9 ?_
   refine AkL_.u ?_
   simp only[NV_,RR,SS,Nat.reduceEqDiff,reduceCtorEq, ↓reduceIte,k0,Af Da al]
   refine aA Ap (g2.ext0 x5).at' ?_
   have y6:=y5.thenRd hb0 (R+(0+2))
   simp only[Ci (EW 4 _)]
   refine W.store (b:=s2.next) (o:=0) BQ (v:= .agg #[.int .i64 4, .int .i64 (l.length-r.length:Nat)]) rfl rfl (λj hj=>Aa.owned (λj u hu=>((o4' j u hu).ext0 x5).same (s':=s5.rdN (R+(0+2))) rfl rfl) j (by simpa using hj)) λs7 n7 x7 o7=> ?_
   have y7:Ext Any Non (s.cxN cxN) s7:=y6.trans x7 hb0 (λ_ _ _=>trivial) λy hy hh=>by
    have h1:=hh.1
    have h2:y<s.next:=hy
    omega
   refine fin _ _ s7 _ 4 _ J AmF_ y7 o7 (λj u hu=>(((oT j u hu).ext0 x5).same (s':=s5.rdN (R+(0+2))) rfl rfl).ext x7 λhh=> ?_) (by simp[hr0]) Y Y
   have h1:s2.next+0<=s.next+(0+j):=hh.1
   have h2:j<2:=(List.getElem?_eq_some_iff.1 hu).1
   omega
 ·have ed:decide (e=0)=false:=decide_eq_false he0
  have hst:st=none:=by
   cases st with
   |none=>rfl
   |some r=>exact absurd (he.2 am) he0
  simp only[ed,A4,Dc,Hr,UU_,Aw]
  rw[AJ]
  refine⟨rfl,am,am,λs5 m5 n5 x5=> ?_⟩
  refine W.cast (S9 _ _ _ _ _ _ _ _ _ _ _ _ _ _ _ _ _ _ _) ?_
  simp only[SS,reduceCtorEq, ↓reduceIte]
  have y5:=y4.then0 x5 hb0
  refine aE R9 ?_
  exact fin _ _ s5 _ e p J rfl y5 (λj u hu=>(o4' j u hu).ext0 x5) (λj u hu=>(oT j u hu).ext0 x5) (by simp[he0,hst]) Y Y
theorem Aih_ (hb:s.lim<=s.next)(hv:Bs s v l)(hz:l.length<=1000000)(hn:20<=n)(q: ∀s1 w R,Ext Any Non s s1->s.next<=R->(∀x,BsF w x->s.next<=x)->RdI s1 R w l (some l)->Q (.pointer (some ⟨R,0,none⟩)) s1):
  W (Ac envS (runF envS n) 82 [v]) s Q:=by
 have hb0:(s.cxN cxN).lim<=(s.cxN cxN).next:=hb
 refine Zm_ λtm k0=> ?_
 refine ArH_.u ?_
 simp only[Zf,RR,SS]
 refine Aig_.u ?_
 simp only[Kz_,RR,SS,reduceCtorEq, ↓reduceIte,k0]
 rw[CD]
 refine W.appV (s:=s.cxN cxN) (len:=0) (old:=[]) (b:=s.next) hb0 Dr (.inl ⟨rfl,rfl,rfl⟩) (Bs.src (hv.same (s':=s.cxN cxN) rfl rfl)).g al al J (by rw[AQ];omega) (CG _) λs1 w wb hwb mk x1=> ?_
 have y1:Ext Any Non (s.cxN cxN) s1:=x1.weak hb0 (λ_ _ _=>trivial) λy _ hy=>absurd hy.1 al
 rw[List.nil_append,Nat.zero_add]at mk
 have hwn:s.next<=wb:=by
  rcases hwb with⟨h,_⟩|h
  ·exact Nat.le_of_eq h.symm
  ·exact h
 obtain⟨p,c,ew⟩:=mk.sl
 rw[ew,Ci (AaH_ p l.length c),<-ew]
 refine W.box λs2 n2 x2 o2=> ?_
 have n2':s2.next=s1.next+6:=n2
 have y2:=y1.then0 x2 hb0
 have o2':Aa s2 s1.next 0 [.bool true,w, .int .i64 0, .int .i64 0, .int .i64 0]:=o2
 have n01:s.next<=s1.next:=y1.nxt
 refine aB (rs:=[2]) (vs:=[.pointer (some ⟨s1.next,0,none⟩)]) rfl (.inl Ahm_) J UL_ AkQ_ y2.cx Y ?_
 have hbs:Bs s2 w l:=(mk.bs (by unfold capU;omega)).ext0 x2
 have hlt: ∀x,BsF w x->s.next<=x/\x<s1.next:=λx hx=>by
  have h1:=mk.bsF x hx
  have h2:=mk.lt x h1
  have h3:wb+0<=x:=h1.2.1
  exact⟨J,h2⟩
 refine q _ w s1.next y2.cx' n01 (λx hx=>(hlt x hx).1) ⟨(o2' 0 _ rfl).same rfl rfl,(o2' 1 _ rfl).same rfl rfl,⟨by rw[Nat.sub_self];exact(o2' 2 _ rfl).same rfl rfl,(o2' 3 _ rfl).same rfl rfl,⟨0,(o2' 4 _ rfl).same rfl rfl⟩,by rw[Nat.sub_self];rfl,Nat.le_refl _⟩,hbs.same rfl rfl,λx hx k=>by have:=(hlt x hx).2;omega,λx hx=> ?_, ?_⟩
 ·have:=(hlt x hx).2
  show x<s2.next
  omega
 ·show s1.next+4<s2.next
  omega
end
def D8:Nat:=Ao Try.f45
abbrev Aem_:Nat:=55
def T6:Code:=Try.f45.body.getD .skip
theorem YP:envS.fn.get 45=some Try.f45:=X
theorem Ahl_:G2 envS 45 55 D8 T6:=λh=>
 aK YP (h _ X X)
theorem AsQ_:Try.f45.results.toList=[.tmp 4]:=X
def WI:List Item:=skim 64 [.code T6]
def Mu_:=nx WI
def RF_:=nx Mu_
def Rb_:=bf RF_
def JN:=nx Rb_
def Nn:=nx JN
def Ot:=bt Nn
def VN:=bf Nn
def HP_:=nx Ot
def Z8:=nx VN
def S0:=bf HP_
theorem Xi_:skim 64 S0.tail=JN:=X
def Qw_:Rg:=λE u r t=>
 sV 4 (.bool false) t
theorem AdY_:RegEq 45 55 D8 WI Qw_:={}
def Qo_:Rg:=λE u r t=>
 mG t 0 λv6=>
 lL E 55 v6 λv7=>
 mG t 1 λv8=>
 lL E 55 v8 λv9=>
 bT E .neq 3 7 9 v7 v9 λv10=>
 ac 10 v10 t
theorem Zq_:RegEq 45 55 D8 Mu_ Qo_:={}
theorem Aoy_:Aj RF_=some 10:=X
def Fk_:Rg:=λE u r t=>
 sV 5 (.int .i64 0) t
theorem Auq_:RegEq 45 55 D8 Rb_ Fk_:={}
def MQ:Rg:=λE u r t=>
 mG t 5 λv11=>
 mG t 0 λv12=>
 lL E 55 v12 λv13=>
 bT E .lss 3 11 13 v11 v13 λv14=>
 ac 14 v14 t
theorem TC_:RegEq 45 55 D8 JN MQ:={}
theorem FZ_:Aj Nn=some 14:=X
def Uv:RdW:=λE call round tm=>
 PD (T.get tm 0) λp0=>
 PD (T.get tm 5) λp1=>
 ID E 55 (some p0.1) (some p1.1) λp2=>
 FD E 85 0 (some p2.1) λp3=>
 LD E 3 (some p3.1) λp4=>
 PD (T.get tm 1) λp5=>
 PD (T.get tm 5) λp6=>
 ID E 55 (some p5.1) (some p6.1) λp7=>
 FD E 85 0 (some p7.1) λp8=>
 LD E 3 (some p8.1) λp9=>
 BI E .neq 3 (.tmp 21) (.tmp 26) (some p4.1) (some p9.1) λp10=>
 PD (some p10.1) λp11=>
 SK p11.1 false (oS (T.get tm 0) λa=>M.pure a) λp12=>
 SK p11.1 false (oS (T.get tm 5) λa=>M.pure a) λp13=>
 SK p11.1 false (oS (some p12.1) λa=>oS (some p13.1) λb=>BJ E 55 a b) λp14=>
 SK p11.1 false (oS (some p14.1) λa=>kFld E 85 a 1) λp15=>
 SK p11.1 false (oS (some p15.1) λa=>AE E 3 a) λp16=>
 SK p11.1 false (oS (T.get tm 1) λa=>M.pure a) λp17=>
 SK p11.1 false (oS (T.get tm 5) λa=>M.pure a) λp18=>
 SK p11.1 false (oS (some p17.1) λa=>oS (some p18.1) λb=>BJ E 55 a b) λp19=>
 SK p11.1 false (oS (some p19.1) λa=>kFld E 85 a 1) λp20=>
 SK p11.1 false (oS (some p20.1) λa=>AE E 3 a) λp21=>
 SK p11.1 false (oS (some p16.1) λa=>oS (some p21.1) λb=>Cl.get (aBin E .neq 3 (.tmp 33) (.tmp 38)) a b) λp22=>
 M.bind (apartO (M.on (some p11.1) λa=>M.on (some (.bool true)) λb=>M.on (some p22.1) λc=>Ay a b c)) λp23=>
 PD (some p23.1) λp24=>
 SK p24.1 false (oS (T.get tm 0) λa=>M.pure a) λp25=>
 SK p24.1 false (oS (T.get tm 5) λa=>M.pure a) λp26=>
 SK p24.1 false (oS (some p25.1) λa=>oS (some p26.1) λb=>BJ E 55 a b) λp27=>
 SK p24.1 false (oS (some p27.1) λa=>kFld E 85 a 2) λp28=>
 SK p24.1 false (oS (some p28.1) λa=>AE E 36 a) λp29=>
 SK p24.1 false (oS (T.get tm 1) λa=>M.pure a) λp30=>
 SK p24.1 false (oS (T.get tm 5) λa=>M.pure a) λp31=>
 SK p24.1 false (oS (some p30.1) λa=>oS (some p31.1) λb=>BJ E 55 a b) λp32=>
 SK p24.1 false (oS (some p32.1) λa=>kFld E 85 a 2) λp33=>
 SK p24.1 false (oS (some p33.1) λa=>AE E 36 a) λp34=>
 SK p24.1 false (M.on (some (.func (.func 26) #[] #[])) λf=>M.on (seqO [(some p29.1),(some p34.1)]) λl=>Ba call round f l) λp35=>
 SK p24.1 false (oS (some p35.1) λa=>kUn E.P .not a) λp36=>
 fJ [p36,p35,p34,p33,p32,p31,p30,p29,p28,p27,p26,p25,p24,p23,p22,p21,p20,p19,p18,p17,p16,p15,p14,p13,p12,p11,p10,p9,p8,p7,p6,p5,p4,p3,p2,p1,p0] tm
theorem Afk_:DrawEq 45 55 D8 Ot [0,0,3,7,15,0,0,96,224,480,1023,2047,4095,4095,16383,32767,65535,4095,4095,397311,921599,1970175,4194303,8388607,16777215,33554431,33554431,134217727,268435455,536870911,33554431,33554431,3254779903,7549747199,16139681791,34359738367,68719476735,137438953471] Uv:={}
theorem AbN_ (E:Env)(call round:Ai)(x17 x18 x19 x20 x21 x22 x23 x24 x25 x26 x27 x28 x29 x30 x31 x32 x33 x34 x35 x36 x37 x38 x39 x40 x41 x42 x43 x44 x45 x46 x47 x48 x49 x50 x51 x52 x53:Value)(tm:T Value)(s:St):AK call round (A5 E D8 55 (hdC Ot)) [x53,x52,x51,x50,x49,x48,x47,x46,x45,x44,x43,x42,x41,x40,x39,x38,x37,x36,x35,x34,x33,x32,x31,x30,x29,x28,x27,x26,x25,x24,x23,x22,x21,x20,x19,x18,x17] tm s=(M.bind (M.on (some x41) λa=>M.on (some (.bool true)) λb=>M.on (some x53) λc=>Ay a b c) λv54=>setT 54 v54 tm λtm1=>M.pure tm1) s:=X
def AY_:Rg:=λE u r t=>
 sV 4 (.bool true) t
theorem Zi_:RegEq 45 55 D8 VN AY_:={}
theorem AsC_:Aj HP_=some 54:=X
theorem AiH_: ∃k,Z8= .code .ret::k:=⟨Z8.tail,X⟩
def Vh_:Rg:=λE u r t=>
 mG t 5 λv15=>
 bN E .add 15 1 (some v15) λv16=>
 sV 5 v16 t
theorem AeP_:RegEq 45 55 D8 S0 Vh_:={}
def PkI.key (p:PkI):Int×Int×List HdI:=(p.num,p.size,p.hs)
section
variable {va vb:Value}{ps qs:List PkI}{Q:Value×FrameMode->St->Prop}{s0:St}
theorem Ahu_ (hb0:s0.lim<=s0.next)(ha:PkR s0 va ps)(hb:PkR s0 vb qs)(he:ps.map PkI.key=qs.map PkI.key)(hz: ∀p∈ps,p.hs.length<=1000000000)(hps:ps.length<=1000000000)(hcx:s0.cx=cxN){N:Nat}(hN: ∀p∈ps,p.hs.length<=N)(q: ∀s1,Ext Any Non s0 s1->Q (.bool true, .run) s1):
  ∀(k i n:Nat) (tm:T Value) (s:St) (td:List Item),i+k=ps.length->7*N+10*k+100<=n->skim 64 td=JN->Ext Any Non s0 s->
  T.get tm 0=some va->T.get tm 1=some vb->T.get tm 5=some (.int .i64 (i:Nat))->
  W (runF envS n ⟨45,Aem_,D8,tm,td, .run, .normal,none⟩) s Q:=by
 have hlen:ps.length=qs.length:=by
  have:=congrArg List.length he
  simpa using this
 intro k
 induction k with
 |zero=>
  intro i n tm s td hi hn hT hx h0 h1 h5
  refine TC_.u ?_ hT
  simp only[MQ,RR,SS,h0,h5]
  rw[ha.len]
  try simp only[Ab]
  refine aE FZ_ ?_
  refine Zi_.u ?_
  simp only[AY_,RR,SS]
  refine aB (rs:=[4]) (vs:=[.bool true]) rfl (.inl AiH_) J YP AsQ_ (hx.cx.trans hcx) Y ?_
  exact q s hx
 |succ k ih=>
  intro i n tm s td hi hn hT hx h0 h1 h5
  have hil:i<ps.length:=J
  have hil2:i<qs.length:=J
  have hk:ps[i].key=qs[i].key:=by
   have:=congrArg (λl=>l[i]?) he
   simpa [hil,hil2]using this
  obtain⟨k1,k2,k3⟩:ps[i].num=qs[i].num/\ps[i].size=qs[i].size/\ps[i].hs=qs[i].hs:=by
   unfold PkI.key at hk
   simp only[Prod.mk.injEq]at hk
   exact hk
  obtain⟨ba,oa,ca,ea,ga,gha,g16,_,_⟩:=(ha.ext0 hx).at hil
  obtain⟨bb,ob,cb,eb,gb,ghb,_,_,_⟩:=(hb.ext0 hx).at hil2
  have hzi:=hz _ (List.getElem_mem hil)
  have hNi:=hN _ (List.getElem_mem hil)
  refine TC_.u ?_ hT
  simp only[MQ,RR,SS,h0,h5]
  rw[ha.len]
  try simp only[Ab]
  refine aH FZ_ ?_
  refine Afk_.u ?_
  have a0:At (dSt s.mem s.next) ba (oa+i*3+0) (.int .i64 ps[i].num):=(ga 0 _ rfl).same rfl rfl
  have a1:At (dSt s.mem s.next) ba (oa+i*3+1) (.int .i64 ps[i].size):=(ga 1 _ rfl).same rfl rfl
  have a2:At (dSt s.mem s.next) ba (oa+i*3+2) ps[i].v:=(ga 2 _ rfl).same rfl rfl
  have b0:At (dSt s.mem s.next) bb (ob+i*3+0) (.int .i64 ps[i].num):=by rw[k1];exact(gb 0 _ rfl).same rfl rfl
  have b1:At (dSt s.mem s.next) bb (ob+i*3+1) (.int .i64 ps[i].size):=by rw[k2];exact(gb 1 _ rfl).same rfl rfl
  have b2:At (dSt s.mem s.next) bb (ob+i*3+2) qs[i].v:=(gb 2 _ rfl).same rfl rfl
  have eqn: ∀x:Int,(!decide (x=x))=false:=λx=>am
  simp only[Uv,RR,T.get_set,Nat.reduceEqDiff, ↓reduceIte,h0,h1,h5,ea,eb,AA,BH,Bb,A7,AX,Dn,Aw]
  rw[W_dq λs Q=>AO (s:=s) A8 hil Q]
  rw[W_dq λs Q=>Af (s:=s) Dm al Q]
  refine aD Ap a0 λrd4 hr4=> ?_
  simp only[Aw]
  rw[W_dq λs Q=>AO (s:=s) A8 hil2 Q]
  rw[W_dq λs Q=>Af (s:=s) Dm al Q]
  refine aD Ap b0 λrd9 hr9=> ?_
  rw[W_dq λs Q=>Ag (s:=s) _ _,eqn]
  simp only[Aw,A4,Cb,DU,if_t]
  rw[W_dq λs Q=>AO (s:=s) A8 hil Q]
  rw[W_dq λs Q=>Af (s:=s) DB al Q]
  refine aD Ap a1 λrd16 hr16=> ?_
  simp only[Aw]
  rw[W_dq λs Q=>AO (s:=s) A8 hil2 Q]
  rw[W_dq λs Q=>Af (s:=s) DB al Q]
  refine aD Ap b1 λrd21 hr21=> ?_
  rw[W_dq λs Q=>Ag (s:=s) _ _,eqn]
  dsimp only
  rw[W_dq λs Q=>B9 (s:=s) _ _ _ _]
  simp only[Bool.false_eq_true,reduceIte,Aw,A4,Cb,DU,if_t]
  rw[W_dq λs Q=>AO (s:=s) A8 hil Q]
  rw[W_dq λs Q=>Af (s:=s) BG al Q]
  refine aD Bu a2 λrd29 hr29=> ?_
  simp only[Aw]
  rw[W_dq λs Q=>AO (s:=s) A8 hil2 Q]
  rw[W_dq λs Q=>Af (s:=s) BG al Q]
  refine aD Bu b2 λrd34 hr34=> ?_
  refine aU (AtB_ (s:=oSt s.mem s.next) (hs:=ps[i].hs) (Nat.le_refl _) (gha.same rfl rfl) (by rw[k3];exact ghb.same rfl rfl) g16 J J λs1 x1 m1 n1=>⟨_,x1,λrd35 hr35=> ?_⟩)
  have m1':s1.mem=s.mem:=m1
  have n1':s1.next=s.next:=n1
  rw[m1',n1']
  rw[W_dq λs Q=>CI (s:=s) _ _ Q,AJ]
  refine⟨CX am am, ?_⟩
  refine W.cast (AbN_ _ _ _ _ _ _ _ _ _ _ _ _ _ _ _ _ _ _ _ _ _ _ _ _ _ _ _ _ _ _ _ _ _ _ _ _ _ _ _ _ _ _) ?_
  simp only[SS,reduceCtorEq, ↓reduceIte,Bool.not_true]
  have hx': ∀(rds wrs:List Nat) (l:List OpLog),(∀m∈l,m.wr=[])->Ext Any Non s0 ⟨(dSt s.mem s.next).mem,(dSt s.mem s.next).next,s.lim,rdsL s.lim l s.rd,wrsL s.lim l s.wr,s.cx⟩:=λrds wrs l hl=>hx.then0 (Ext.draw (F:=Any) (Nat.le_refl _) (λ_ _=>rfl) hl λ_ _ _ _ _=>trivial) hb0
  refine aE AsC_ ?_
  refine AeP_.u ?_
  have ei:=eiW (i:=i) J
  simp only[Vh_,RR,SS,Nat.reduceEqDiff, ↓reduceIte,Ad,h5,ei]
  exact ih (i+1) _ _ _ _ J J Xi_ (hx' [] [] _ am) (by simp[T.get_set,h0,ea]) (by simp[T.get_set,h1,eb]) Y
end
theorem GK_ {va vb:Value}{ps qs:List PkI}{n N:Nat}{s:St}{Q:Value->St->Prop}(hbd:s.lim<=s.next)(ha:PkR s va ps)(hb:PkR s vb qs)(he:ps.map PkI.key=qs.map PkI.key)(hN: ∀p∈ps,p.hs.length<=N)(hN2:N<=1000000000)(hps:ps.length<=1000000000)(hn:7*N+10*ps.length+200<=n)
  (q: ∀s1,Ext Any Non s s1->Q (.bool true) s1):W (Ac envS (runF envS n) 45 [va,vb]) s Q:=by
 have hlen:ps.length=qs.length:=by
  have:=congrArg List.length he
  simpa using this
 refine Ahl_ λtm h0 h1=> ?_
 have ha':PkR (s.cxN cxN) va ps:=ha.same rfl rfl
 have hb':PkR (s.cxN cxN) vb qs:=hb.same rfl rfl
 refine AdY_.u ?_
 simp only[Qw_,RR,SS]
 refine Zq_.u ?_
 simp only[Qo_,RR,SS,Nat.reduceEqDiff,reduceCtorEq, ↓reduceIte,h0,h1]
 rw[ha'.len,hb'.len,hlen]
 try simp only[Ag]
 refine aE Aoy_ ?_
 refine Auq_.u ?_
 simp only[Fk_,RR,SS]
 exact Ahu_ (s0:=s.cxN cxN) hbd ha' hb' he (λp hp=>Nat.le_trans (hN p hp) hN2) hps rfl hN (λs1 x1=>q _ x1.cx') ps.length 0 _ _ _ _ J J rfl (Ext.refl _) (an h0) (an h1) Y
