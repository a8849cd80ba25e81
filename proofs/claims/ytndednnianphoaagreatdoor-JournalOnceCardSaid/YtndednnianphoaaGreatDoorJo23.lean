import Derived.Test.YtndednnianphoaaGreatDoorJo22
namespace Go.Proofs.YtndednnianphoaaGreatDoor.Am
open Go.RowKit
theorem JP_ {n0:Nat}{l:List OpLog}{bef:List Nat}(hl:l.length<=bef.length)(h: ∀m∈l,m.wr=[]/\ ∀x∈m.rd,x<n0):Bt n0 l bef=true:=
 YC hl (λk m b e1 _=>⟨(h m (List.mem_of_getElem? e1)).1,λi a _ _=> .inr λx hx hn=>absurd ((h m (List.mem_of_getElem? e1)).2 x hx) (Nat.not_lt_of_le hn)⟩) λm hm=>(h m hm).1
theorem Hp {E:Env}{s:St}{t sz b o m c k:Nat}{i:Int}(e:i=(k:Nat))(h:slN E t=some sz)(hk:k<m)(Q:Value->St->Prop):W (BT E t (.slice (some ⟨b,o,none⟩) m c) (.int .i64 i)) s Q=Q (.pointer (some ⟨b,o+k*sz,none⟩)) s:=by
 subst e
 exact By h hk Q
theorem Ju_:hasT envS 5=true:=by kernel_rfl
theorem MB_:intK envS 3=some .i64:=by kernel_rfl
theorem H8:slN envS 23=some 1:=by kernel_rfl
theorem HD:tyS envS 5=some (1,false):=by kernel_rfl
theorem Vz:FT envS 90=some [.int .i64 0, .int .i64 0]:=by kernel_rfl
theorem Mx:tyS envS 90=some (2,true):=by kernel_rfl
theorem G8 {m:Nat}(h:m<256){s:St}(Q:Value->St->Prop):W (Cf envS 5 3 (.int .u8 (m:Nat))) s Q=Q (.int .i64 (m:Nat)) s:=by
 rw[DW Ju_ MB_]
 rw[IntWalk.i64_in ((m:Nat):Int) ⟨by omega,by omega⟩]
theorem NM {E:Env}{s:St}{t n:Nat}{xo yo:Operand}{i:Int}(e:i=(n:Nat))(hn:n<=64)(Q:Value->St->Prop):W (Cl.get (aBin E .shl t xo yo) (.int .i64 ((0:Nat):Int)) (.int .u64 i)) s Q=Q (.int .i64 ((0:Nat):Int)) s:=by
 subst e
 rw[OP_ hn (by rw[Nat.zero_shiftLeft];decide),Nat.zero_shiftLeft]
theorem Mi {E:Env}{s:St}{t m:Nat}{xo yo:Operand}(hm:m<256)(Q:Value->St->Prop):W (Cl.get (aBin E .or t xo yo) (.int .i64 ((0:Nat):Int)) (.int .i64 (m:Nat))) s Q=Q (.int .i64 (m:Nat)) s:=by
 rw[AcD_ (by rw[Nat.zero_or];omega),Nat.zero_or]
section
variable {n:Nat}{s:St}{tm:T Value}{td:List Item}{w:Value}{r:Nat×Nat}{Q:Value×FrameMode->St->Prop}
theorem UG_ (hb:s.lim<=s.next)(hT:skim 64 td=HR)(h3:T.get tm 3=some w)(hw:Bn s w [r.1,0,0,0,r.2])(hr:BC r)(hn:10<=n)
  (q: ∀s1 C,s.next<=C->Ext Any Non s s1->Own s1 C 0 (.int .i64 (r.1:Nat))->Own s1 C 1 (.int .i64 (r.2:Nat))->W (runF envS (n-1) ⟨64,Pl,CU,T.set tm 5 (.pointer (some ⟨C,0,none⟩)),HR.tail, .run, .normal,none⟩) s1 Q):
  W (runF envS n ⟨64,Pl,CU,tm,td, .run, .normal,none⟩) s Q:=by
 obtain⟨r1,r2,r3⟩:=hr
 obtain⟨b,o,c,rfl,_,_,hrow⟩:=hw
 have a0:At s b (o+0*1) (.int .u8 (r.1:Nat)):=hrow 0 _ rfl
 have a1:At s b (o+1*1) (.int .u8 ((0:Nat):Int)):=hrow 1 _ rfl
 have a2:At s b (o+2*1) (.int .u8 ((0:Nat):Int)):=hrow 2 _ rfl
 have a3:At s b (o+3*1) (.int .u8 ((0:Nat):Int)):=hrow 3 _ rfl
 have a4:At s b (o+4*1) (.int .u8 (r.2:Nat)):=hrow 4 _ rfl
 have z0:(0:Nat)<256:=by decide
 refine Vl_.u ?_ hT
 simp only[GT_,RR,h3,Af,A6]
 rw[W_dq λs Q=>Hp (s:=s) (i:=0) (k:=0) rfl H8 (by simp) Q]
 refine aE HD (a0.same (s':=dSt s.mem s.next) rfl rfl) λd0 e0=> ?_
 simp only[Af]
 rw[W_dq λs Q=>G8 (s:=s) (by omega) Q]
 simp only[A6]
 rw[W_dq λs Q=>Hp (s:=s) (i:=1) (k:=1) rfl H8 (by simp) Q]
 refine aE HD (a1.same (s':=dSt s.mem s.next) rfl rfl) λd1 e1=> ?_
 simp only[Af]
 rw[W_dq λs Q=>G8 (s:=s) z0 Q]
 simp only[Af]
 rw[W_dq λs Q=>NM (s:=s) (i:=24) (n:=24) rfl (by decide) Q]
 simp only[A6]
 rw[W_dq λs Q=>Hp (s:=s) (i:=2) (k:=2) rfl H8 (by simp) Q]
 refine aE HD (a2.same (s':=dSt s.mem s.next) rfl rfl) λd2 e2=> ?_
 simp only[Af]
 rw[W_dq λs Q=>G8 (s:=s) z0 Q]
 simp only[Af]
 rw[W_dq λs Q=>NM (s:=s) (i:=16) (n:=16) rfl (by decide) Q]
 simp only[Af]
 rw[W_dq λs Q=>Mi (s:=s) z0 Q]
 simp only[A6]
 rw[W_dq λs Q=>Hp (s:=s) (i:=3) (k:=3) rfl H8 (by simp) Q]
 refine aE HD (a3.same (s':=dSt s.mem s.next) rfl rfl) λd3 e3=> ?_
 simp only[Af]
 rw[W_dq λs Q=>G8 (s:=s) z0 Q]
 simp only[Af]
 rw[W_dq λs Q=>NM (s:=s) (i:=8) (n:=8) rfl (by decide) Q]
 simp only[Af]
 rw[W_dq λs Q=>Mi (s:=s) z0 Q]
 simp only[A6]
 rw[W_dq λs Q=>Hp (s:=s) (i:=4) (k:=4) rfl H8 (by simp) Q]
 refine aE HD (a4.same (s':=dSt s.mem s.next) rfl rfl) λd4 e4=> ?_
 simp only[Af]
 rw[W_dq λs Q=>G8 (s:=s) r3 Q]
 simp only[Af]
 rw[W_dq λs Q=>Mi (s:=s) r3 Q]
 simp only[FF,FW,Af,BQ]
 rw[W_dq λs Q=>Ek (s:=s) (JQ _ _) Q]
 refine aV (W.alloc (s:=oSt s.mem s.next) Vz λs6 n6 x6 o6=>⟨Non,x6,λrd6 hr6=> ?_⟩)
 have e6:rd6=[]:=List.eq_nil_iff_forall_not_mem.2 λx hx=>(hr6 x hx).2
 subst e6
 have n6':s6.next=s.next+3:=n6
 simp only[Gv]
 rw[AY]
 have l0:=a0.1
 have l1:=a1.1
 have l2:=a2.1
 have l3:=a3.1
 have l4:=a4.1
 refine⟨JP_ (by simp) ?_, ?_⟩
 ·simp only[List.reverse_cons,List.reverse_nil,List.nil_append,List.cons_append,List.mem_cons,List.not_mem_nil,or_false]
  rintro m (rfl|rfl|rfl|rfl|rfl|rfl|rfl|rfl|rfl|rfl|rfl|rfl|rfl|rfl|rfl|rfl|rfl|rfl|rfl|rfl|rfl|rfl|rfl|rfl|rfl|rfl|rfl|rfl)<;>refine⟨rfl,λy hy=> ?_⟩<;>first
   |(cases hy;done)
   |(rw[e0 y hy];exact l0)
   |(rw[e1 y hy];exact l1)
   |(rw[e2 y hy];exact l2)
   |(rw[e3 y hy];exact l3)
   |(rw[e4 y hy];exact l4)
 refine W.cast (Yo_ ..) ?_
 simp only[SS]
 generalize hsF:(⟨(dSt s6.mem s6.next).mem,(dSt s6.mem s6.next).next,s.lim,_,_,s.cx⟩:St)=sF
 have mF:sF.mem=s6.mem:=by rw[<-hsF];rfl
 have nF:sF.next=s6.next:=by rw[<-hsF];rfl
 have xF:Ext Any Non s sF:=by
  rw[<-hsF]
  exact Ext.draw (F:=Any) (by show s.next<=s6.next;omega) (λx hx=>x6.mem x hx id) (by simp) λ_ _ _ _ _=>trivial
 refine W.store (b:=s.next) (o:=0) Mx (v:= .agg #[.int .i64 (r.1:Nat), .int .i64 (r.2:Nat)]) rfl rfl (λj hj=>An.owned (λj u hu=>(o6 j u hu).same mF nF) j (by simpa using hj)) λs7 n7 x7 o7=> ?_
 have y7:Ext Any Non s s7:=xF.step x7 hb (λ_ _ _=>trivial) λx h=>by have h1:=h.1;omega
 exact q s7 s.next (Nat.le_refl _) y7 (o7 0 _ rfl) (o7 1 _ rfl)
end
section
variable {n J:Nat}{s:St}{Q:Value->St->Prop}
theorem Xp_ {kd:Nat}(hk:kd=1\/kd=2)(hn:20<=n)(q:Q (.pointer (some ⟨J,kd+1,none⟩)) s):W (Ab envS (runF envS n) 41 [.pointer (some ⟨J,0,none⟩), .int .i64 (kd:Nat)]) s Q:=by
 refine TV_ λtm t0 t1=> ?_
 refine Md_.u ?_
 simp only[V8,RR,SS]
 refine QM_.u ?_
 simp only[XW,RR,SS,Nat.reduceEqDiff, ↓reduceIte,A0,t1]
 rcases hk with rfl|rfl
 ·refine aK YO ?_
  refine Tg_.u ?_
  simp only[EC_,RR,SS,reduceCtorEq, ↓reduceIte,t0,Ai Jx (by decide)]
  refine aC (rs:=[4]) (vs:=[.pointer (some ⟨J,0+2,none⟩)]) rfl (.inl LV_) (by omega) OG Yt rfl (by simp[T.get_set]) ?_
  exact q
 ·refine aH YO ?_
  refine Uw_.u ?_
  simp only[Zw,RR,SS,reduceCtorEq, ↓reduceIte,t0,Ai Ky (by decide)]
  refine aC (rs:=[4]) (vs:=[.pointer (some ⟨J,0+3,none⟩)]) rfl (.inl Kk_) (by omega) OG Yt rfl (by simp[T.get_set]) ?_
  exact q
end
noncomputable abbrev opL (tm:T Value)(st:LoopState)(d:Nat):AObj:= .loop st none 13 Dy AD tm [51] Jr Kg d
theorem AbB_ (tm:T Value)(v:Value):F9 AD [51] [v] tm=T.set tm 51 v:=by kernel_rfl
theorem Mw_:skim 64 [.code Jr, .beginRound, .code Kg]=M4:=by rw[<-Sn_];exact rfl
theorem LZ_:Ks_=[]:=by kernel_rfl
theorem Fw:tyS envS 26=some (1,false):=by kernel_rfl
theorem KQ_ {P:Program}(a b:Int):semP P (Builtin.max_ #[] 3 #[.int .i64 a, .int .i64 b])=some (.int .i64 (if b>a then b else a)):=rfl
theorem WP_ (a b:Nat)(s:St):A8 envS .max [3,3] [.int .i64 (a:Nat), .int .i64 (b:Nat)] s= .some (.int .i64 (max a b:Nat)) s:=by
 show M.on (semP envS.P (Builtin.max_ #[] 3 #[.int .i64 (a:Nat), .int .i64 (b:Nat)])) pV s=_
 rw[KQ_]
 show fI _ (λn=>M.pure (Value.int .i64 n)) s=_
 rw[BO]
 by_cases h:((b:Nat):Int)>((a:Nat):Int)
 ·rw[if_pos h,show max a b=b by omega]
  rfl
 ·rw[if_neg h,show max a b=a by omega]
  rfl
theorem Wa_ (a b:Nat){s:St}(Q:Value->St->Prop):W (A8 envS .max [3,3] [.int .i64 (a:Nat), .int .i64 (b:Nat)]) s Q=Q (.int .i64 (max a b:Nat)) s:=AJ (WP_ a b s)
structure OpI (s:St)(J D X L E:Nat)(tm:T Value)(st:LoopState)(j:JnS):Prop where
 lo:Obj s L (opL tm st E)
 de:Obj s E (.deferred (some []))
 jn:JnI s J D j
 ox:Own s X 0 (.pointer (some ⟨J,0,none⟩))
 s1:L<J\/J+5<=L
 s2:E<J\/J+5<=E
 s3:X<J\/J+5<=X
 s4:L≠X
 s5:L≠E
theorem OpI.same {s s':St}{J D X L E:Nat}{tm:T Value}{st:LoopState}{j:JnS}(h:OpI s J D X L E tm st j)(hm:s'.mem=s.mem)(hn:s'.next=s.next):OpI s' J D X L E tm st j:=
 ⟨h.lo.same hm hn,h.de.same hm hn,h.jn.same hm hn,h.ox.same hm hn,h.s1,h.s2,h.s3,h.s4,h.s5⟩
theorem OpI.ext {F G:Nat->Prop}{s s':St}{J D X L E:Nat}{tm:T Value}{st:LoopState}{j:JnS}(h:OpI s J D X L E tm st j)(x:Ext F G s s')(hG: ∀y,y<s.next-> ¬G y):OpI s' J D X L E tm st j:=
 ⟨h.lo.ext x (hG _ h.lo.1),h.de.ext x (hG _ h.de.1),h.jn.ext x λy hy g=>absurd g (hG y hy),h.ox.ext x (hG _ h.ox.1),h.s1,h.s2,h.s3,h.s4,h.s5⟩
theorem OpI.turn {s:St}{J D X L E:Nat}{tm:T Value}{st st':LoopState}{j:JnS}(h:OpI s J D X L E tm st j):OpI ((s.rdN L).wrN L (.O (opL tm st' E))) J D X L E tm st' j/\Ext (λx=>x=L) (λx=>x=L) s ((s.rdN L).wrN L (.O (opL tm st' E))):=by
 have e:Ext (λx=>x=L) (λx=>x=L) s ((s.rdN L).wrN L (.O (opL tm st' E))):=by
  obtain⟨d1,p1,p2⟩:=(Ext.rdN (F:=λx=>x=L) (G:=λx=>x=L) s L λ_=>rfl).rd
  obtain⟨d2,p3,p4⟩:=(Ext.wrN (F:=λx=>x=L) (G:=λx=>x=L) (s.rdN L) L (.O (opL tm st' E)) rfl).wr
  refine⟨Nat.le_refl _,rfl,rfl,λx _ hx=> ?_,⟨d1,p1,p2⟩,⟨d2,p3,p4⟩⟩
  show T.get (T.set s.mem L _) x=_
  rw[T.get_set,if_neg]
  exact hx
 have n1:=h.s1
 have n4:=h.s4
 have n5:=h.s5
 refine⟨⟨⟨h.lo.1, ?_⟩,h.de.ext e λg=>n5 g.symm,h.jn.ext e λy _ g=> ?_,h.ox.ext e λg=>n4 (by omega),h.s1,h.s2,h.s3,h.s4,h.s5⟩,e⟩
 ·show T.get (T.set s.mem L _) L=_
  rw[T.get_set,if_pos rfl]
 ·have g:y=L:=g
  omega
theorem Tn_ {n kd m J D X L E:Nat}{tm:T Value}{s:St}{j:JnS}{Q:Value->St->Prop}(hb:s.lim<=s.next)(hI:OpI s J D X L E tm .ready j)(h6:T.get tm 6=some (.pointer (some ⟨X,0,none⟩)))(hk:kd=1\/kd=2)(hm:m<256)(hj:j.ses<256/\j.com<256)(hn:200<=n)
  (q: ∀s1,OpI s1 J D X L E tm .ready {j with ses:=if kd=1 then max j.ses m else j.ses,com:=if kd=1 then j.com else max j.com m}->Ext Any (λx=>(J<=x/\x<J+5)\/x=L) s s1->Q (.bool true) s1):
  W (A9 (runF envS n) L [.agg #[.int .i64 (kd:Nat), .int .i64 (m:Nat)]]) s Q:=by
 refine W.round hI.lo rfl (by rfl) ?_
 rw[AbB_]
 have hb0:(s.cxN cxR).lim<=(s.cxN cxR).next:=hb
 have y0:Ext Any Non (s.cxN cxR) ((s.rdN L).cxN cxR):=Ext.rdN (F:=Any) (G:=Non) (s.cxN cxR) L λ_=>trivial
 have hI0:OpI ((s.rdN L).cxN cxR) J D X L E tm .ready j:=hI.same rfl rfl
 have e0:((s.rdN L).cxN cxR).next=s.next:=rfl
 generalize (s.rdN L).cxN cxR=s0 at *
 refine Uj_.u ?_ Mw_
 simp only[UQ,RR,SS,Nat.reduceEqDiff, ↓reduceIte]
 refine W.alloc Vz λs2 n2 x2 o2=> ?_
 have b0:s0.lim<=s0.next:=y0.bnd hb0
 refine W.store Mx rfl rfl (λi hi=>(An.owned o2) i (by simpa using hi)) λs3 n3 x3 o3=> ?_
 have z3:Ext Any (λy=>s0.next<=y) s0 s3:=(x2.weak b0 (λ_ _ _=>trivial) λ_ _ h=>h.elim).on x3 b0 λy _ h=>by have:=h.1;omega
 have hI3:OpI s3 J D X L E tm .ready j:=hI0.ext z3 λy hy h=>by omega
 have c0:Own s3 s0.next 0 (.int .i64 (kd:Nat)):=o3 0 _ rfl
 have c1:Own s3 s0.next 1 (.int .i64 (m:Nat)):=o3 1 _ rfl
 have hL0:L<s0.next:=hI0.lo.1
 have hJ0:J+4<s0.next:=hI0.jn.o4.1
 have b3:s3.lim<=s3.next:=z3.bnd b0
 refine W.begR (rfl.trans IQ_) hI3.lo (by omega) ?_
 obtain⟨hI4,x4⟩:=hI3.turn (st':= .busy)
 have c0:=c0.ext x4 λg=>by have g:s0.next+0=L:=g;omega
 have c1:=c1.ext x4 λg=>by have g:s0.next+1=L:=g;omega
 have z4:Ext Any (λy=>s0.next<=y\/y=L) s0 ((s3.rdN L).wrN L (.O (opL tm .busy E))):=(z3.weak b0 (λ_ _ h=>h) λ_ _ h=> .inl h).on x4 b0 λy _ h=> .inr h
 generalize (s3.rdN L).wrN L (.O (opL tm .busy E))=s4 at *
 refine LE_.u ?_
 simp only[RZ,RR,SS,Nat.reduceEqDiff, ↓reduceIte,h6]
 refine aB Fw hI4.ox.at' ?_
 have z5:=z4.on (Ext.rdN (F:=Any) (G:=Non) s4 (X+0) λ_=>trivial) b0 λ_ _ h=>h.elim
 have hI5:OpI (s4.rdN (X+0)) J D X L E tm .busy j:=hI4.same rfl rfl
 have c0:Own (s4.rdN (X+0)) s0.next 0 _:=c0.same rfl rfl
 have c1:Own (s4.rdN (X+0)) s0.next 1 _:=c1.same rfl rfl
 generalize s4.rdN (X+0)=s5 at *
 simp only[Ai JU (by decide)]
 refine aB Au c0.at' ?_
 have z6:=z5.on (Ext.rdN (F:=Any) (G:=Non) s5 (s0.next+(0+0)) λ_=>trivial) b0 λ_ _ h=>h.elim
 have hI6:OpI (s5.rdN (s0.next+(0+0))) J D X L E tm .busy j:=hI5.same rfl rfl
 have c1:Own (s5.rdN (s0.next+(0+0))) s0.next 1 _:=c1.same rfl rfl
 generalize s5.rdN (s0.next+(0+0))=s6 at *
 refine Xp_ hk (by omega) ?_
 have hI7:=hI6.jn
 obtain⟨u,hu,hue⟩: ∃u:Nat,Own s6 J (kd+1) (.int .i64 (u:Nat))/\u=if kd=1 then j.ses else j.com:=by
  rcases hk with rfl|rfl
  ·exact⟨_,hI7.o2,rfl⟩
  ·exact⟨_,hI7.o3,rfl⟩
 refine Ku_.u ?_
 simp only[VQ,RR,T.get_set,Nat.reduceEqDiff, ↓reduceIte,Af,A6,C4]
 refine aE Au (hu.same (s':=dSt s6.mem s6.next) rfl rfl).at' λd1 e1=> ?_
 simp only[Af]
 rw[W_dq λs Q=>Ai (s:=s) P6 (by decide) Q]
 refine aE Au (c1.same (s':=dSt s6.mem s6.next) rfl rfl).at' λd2 e2=> ?_
 simp only[B2,Cb,BQ,Af]
 rw[W_dq λs Q=>Wa_ (s:=s) u m Q]
 simp only[C4]
 rw[AY]
 refine⟨Df (by simp) (by simp), ?_⟩
 refine W.cast (Acn_ ..) ?_
 simp only[SS]
 generalize hsF:(⟨(dSt s6.mem s6.next).mem,(dSt s6.mem s6.next).next,s6.lim,_,_,s6.cx⟩:St)=sF
 have mF:sF.mem=s6.mem:=by rw[<-hsF];rfl
 have nF:sF.next=s6.next:=by rw[<-hsF];rfl
 have xF:Ext Any Non s6 sF:=by
  rw[<-hsF]
  exact Ext.draw (F:=Any) (Nat.le_refl _) (λ_ _=>rfl) (by simp) λ_ _ _ _ _=>trivial
 have zF:=z6.on xF b0 λ_ _ h=>h.elim
 have hIF:=hI6.same mF nF
 refine aG Au rfl (hu.same mF nF) λs7 n7 x7 o7=> ?_
 have g1:=hIF.s1
 have g2:=hIF.s2
 have g3:=hIF.s3
 have nI: ∀y,(y<J\/J+5<=y)-> ¬In J (kd+1) 1 y:=λy hy hg=>by have h1:=hg.1;have h2:=hg.2;omega
 have w0:=hIF.jn.o0.ext x7 λhg=>by have h1:=hg.1;omega
 have w1:=hIF.jn.o1.ext x7 λhg=>by have h1:=hg.1;omega
 have w4:=hIF.jn.o4.ext x7 λhg=>by have h1:=hg.2;omega
 have hJ7:JnI s7 J D {j with ses:=if kd=1 then max j.ses m else j.ses,com:=if kd=1 then j.com else max j.com m}:=by
  rcases hk with rfl|rfl
  ·have hue:u=j.ses:=hue
   subst hue
   exact⟨w0,w1,o7,hIF.jn.o3.ext x7 λhg=>by have h1:=hg.2;omega,w4⟩
  ·have hue:u=j.com:=hue
   subst hue
   exact⟨w0,w1,hIF.jn.o2.ext x7 λhg=>by have h1:=hg.1;omega,o7,w4⟩
 have hI7:OpI s7 J D X L E tm .busy {j with ses:=if kd=1 then max j.ses m else j.ses,com:=if kd=1 then j.com else max j.com m}:=
  ⟨hIF.lo.ext x7 (nI _ g1),hIF.de.ext x7 (nI _ g2),hJ7,hIF.ox.ext x7 (nI _ g3),g1,g2,g3,hIF.s4,hIF.s5⟩
 have z7:Ext Any (λy=>(s0.next<=y\/y=L)\/(J<=y/\y<J+5)) s0 s7:=(zF.gw b0 λ_ _ h=> .inl h).on x7 b0 λy _ h=> .inr (by have h1:=h.1;have h2:=h.2;omega)
 refine W.endR (rfl.trans LZ_) hI7.lo (by omega) ?_
 obtain⟨hI9,x9⟩:=hI7.turn (st':= .ready)
 have z9:=z7.on x9 b0 λy _ h=> .inl (.inr h)
 have zz:Ext Any (λx=>(J<=x/\x<J+5)\/x=L) (s.cxN cxR) _:=(y0.gw hb0 λ_ _ h=>h.elim).on z9 hb0 λx hx h=>by
  have hx:x<s.next:=hx
  rcases h with(h|h)|h
  ·omega
  ·exact .inr h
  ·exact .inl h
 exact q _ (hI9.same rfl rfl) zz.cx'
theorem JY_ {n:Nat}{v:Value}{s:St}{Q:Value->St->Prop}(hv:oneCell v=true)(hn:20<=n)(q: ∀s1,s1.next=s.next+2->Ext Non Non s s1->Own s1 s.next 0 v->Q (.func (.func 64) #[] #[.pointer (some ⟨s.next,0,none⟩)]) s1):W (Ab envS (runF envS n) 40 [v]) s Q:=by
 refine Mg_ λtm t0=> ?_
 refine NV_.u ?_
 simp only[TM,RR,SS,t0]
 refine W.box λs1 n1 x1 o1=> ?_
 have ea:(s.cxN cxN).next=s.next:=rfl
 rw[Dt hv]at n1 o1
 rw[ea]at n1 o1 ⊢
 refine Kx_.u ?_
 simp only[Ac_,RR,SS,Nat.reduceEqDiff, ↓reduceIte]
 refine aC (rs:=[2]) (vs:=[.func (.func 64) #[] #[.pointer (some ⟨s.next,0,none⟩)]]) rfl (.inl WH_) (by omega) Zq Ur_ x1.cx (by simp[T.get_set]) ?_
 exact q _ n1 x1.cx' ((o1 0 _ rfl).same rfl rfl)
theorem Nk_:Or_=[]:=by kernel_rfl
def LoG (J L B:Nat)(x:Nat):Prop:=(J<=x/\x<J+5)\/x=L\/x=B
theorem KJ_ {J D X L E B:Nat}{tmO:T Value}{t:List Nat}{s0:St}{Q:Value->St->Prop}(ht:t.length<9)(h6:T.get tmO 6=some (.pointer (some ⟨X,0,none⟩)))(hBJ:B<J\/J+5<=B)(hBL:B≠L)(hBX:B≠X)(hBE:B≠E):
  ∀(R:List (Nat×Nat)) (n:Nat) (tm:T Value) (td:List Item) (s:St) (w:Value) (j:JnS),(∀r∈R,BC r)->3000*(R.length+1)<=n->skim 64 td=I2->s.lim<=s.next->s.cx=cxN->
  OpI s J D X L E tmO .ready j->j.ses<256/\j.com<256->Own s B 0 w->Bs s w (Aq R++t)->(∀x,BsF w x-> ¬LoG J L B x)->T.get tm 0=some (.func (.yield L) #[] #[])->T.get tm 1=some (.pointer (some ⟨B,0,none⟩))->
  (∀s1,OpI s1 J D X L E tmO .ready {j with ses:=maxJ 1 j.ses R,com:=maxJ 2 j.com R}->Ext Any (LoG J L B) s s1->Q (.tuple #[]) (s1.cxN s0.cx))->
  W (runF envS n ⟨64,Pl,CU,tm,td, .run, .normal,none⟩) s λp s1=>Q p.1 (s1.cxN s0.cx):=by
 intro R
 induction R with
 |nil=>
  intro n tm td s w j hR hn hT hb hcx hI hj hB hbs hF h0 h1 q
  refine Xr.u ?_ hT
  simp only[PI,RR,SS,h1]
  refine aB D1 hB.at' ?_
  have y1:Ext Any (LoG J L B) s (s.rdN (B+0)):=Ext.rdN s _ λ_=>trivial
  have hI1:OpI (s.rdN (B+0)) J D X L E tmO .ready j:=hI.same rfl rfl
  have hbs1:Bs (s.rdN (B+0)) w (Aq []++t):=hbs.same rfl rfl
  generalize s.rdN (B+0)=s1 at *
  simp only[BJ,hbs1.len Bk]
  have hl:(Aq []++t).length=t.length:=rfl
  refine aH Du_ ?_ rfl (by simp[T.get_set,hl];omega)
  refine aC (rs:=[]) (vs:=[]) rfl (.inr Nk_) (by omega) Gu_ Mi_ (y1.cx.trans hcx) rfl ?_
  exact q s1 hI1 y1
 |cons r R ih=>
  intro n tm td s w j hR hn hT hb hcx hI hj hB hbs hF h0 h1 q
  have hro:=hR r (by simp)
  have hl:(Aq (r::R)++t).length=9+(Aq R++t).length:=by
   show((recJ r++Aq R)++t).length=_
   rw[List.append_assoc,List.length_append,B7]
  have hn':3000*(R.length+1)+3000<=n:=by rw[List.length_cons]at hn;omega
  refine Xr.u ?_ hT
  simp only[PI,RR,SS,h1]
  refine aB D1 hB.at' ?_
  have y1:Ext Any (LoG J L B) s (s.rdN (B+0)):=Ext.rdN s _ λ_=>trivial
  have hI1:OpI (s.rdN (B+0)) J D X L E tmO .ready j:=hI.same rfl rfl
  have hbs1:Bs (s.rdN (B+0)) w (Aq (r::R)++t):=hbs.same rfl rfl
  have hB1:Own (s.rdN (B+0)) B 0 w:=hB.same rfl rfl
  generalize s.rdN (B+0)=s1 at *
  simp only[BJ,hbs1.len Bk]
  refine aK Du_ ?_ rfl (by simp[T.get_set,hl];omega)
  refine Uz_.u ?_
  simp only[Tf,RR,SS,Nat.reduceEqDiff, ↓reduceIte,h1]
  refine aB D1 hB1.at' ?_
  have y2:Ext Any (LoG J L B) s (s1.rdN (B+0)):=y1.trans (Ext.rdN (F:=Any) (G:=LoG J L B) s1 _ λ_=>trivial) hb (λ_ _ _=>trivial) λ_ _ h=>h
  have hI2:OpI (s1.rdN (B+0)) J D X L E tmO .ready j:=hI1.same rfl rfl
  have hbs2:Bs (s1.rdN (B+0)) w (Aq (r::R)++t):=hbs1.same rfl rfl
  have hB2:Own (s1.rdN (B+0)) B 0 w:=hB1.same rfl rfl
  generalize s1.rdN (B+0)=s2 at *
  have hbn2:Bn s2 w (Aq (r::R)++t):=hbs2.resolve_left λh=>by have:=congrArg List.length h.2;rw[hl]at this;simp at this
  refine W.cut hbn2 Bk (i:=0) (j:=9) rfl rfl (Nat.zero_le _) (by omega) λv1 hv1 hF1=> ?_
  rw[show((Aq (r::R)++t).take 9).drop 0=recJ r from TI_]at hv1
  refine Adg_ (y2.bnd hb) hv1 (MZ_ hro) (by rw[B7];decide) (by rw[B7];omega) (λ_ s3 w3 x3 hw3 _=> ?_) λhno=>absurd (KZ_ r) hno
  rw[RG_]at hw3
  have y3:Ext Any (LoG J L B) s s3:=y2.trans x3 hb (λ_ _ _=>trivial) λ_ _ h=>h.elim
  have hI3:=hI2.ext x3 λ_ _ h=>h
  have hB3:=hB2.ext0 x3
  have hbs3:=hbs2.ext0 x3
  rw[AP (k:=0) rfl]
  rw[AP (k:=1) rfl]
  refine Jy_.u ?_
  simp only[S8,RR,SS, ↓reduceIte,AL]
  refine aH AaB_ ?_
  refine UG_ (w:=w3) (r:=r) (y3.bnd hb) rfl (by simp[T.get_set]) hw3.bn hro (by omega) λs4 C hC x4 c0 c1=> ?_
  have y4:Ext Any (LoG J L B) s s4:=y3.trans x4 hb (λ_ _ _=>trivial) λ_ _ h=>h.elim
  have hI4:=hI3.ext x4 λ_ _ h=>h
  have hB4:=hB3.ext0 x4
  have hbs4:=hbs3.ext0 x4
  refine Oi_.u ?_
  simp only[VU,RR,SS,reduceCtorEq, ↓reduceIte,h0,Ai JU (by decide)]
  obtain⟨ro1,ro2,ro3⟩:=hro
  have d1:decide (((r.1:Nat):Int)<1)=false:=decide_eq_false (by omega)
  have d2:decide (((r.1:Nat):Int)>2)=false:=decide_eq_false (by omega)
  have d3:decide (((r.2:Nat):Int)>2147483647)=false:=decide_eq_false (by omega)
  refine aB Au c0.at' ?_
  have y5:Ext Any (LoG J L B) s (s4.rdN (C+(0+0))):=y4.trans (Ext.rdN (F:=Any) (G:=LoG J L B) s4 _ λ_=>trivial) hb (λ_ _ _=>trivial) λ_ _ h=>h
  have hI5:OpI (s4.rdN (C+(0+0))) J D X L E tmO .ready j:=hI4.same rfl rfl
  have hbs5:Bs (s4.rdN (C+(0+0))) w (Aq (r::R)++t):=hbs4.same rfl rfl
  have hB5:Own (s4.rdN (C+(0+0))) B 0 w:=hB4.same rfl rfl
  have c0:Own (s4.rdN (C+(0+0))) C 0 (.int .i64 (r.1:Nat)):=c0.same rfl rfl
  have c1:Own (s4.rdN (C+(0+0))) C 1 (.int .i64 (r.2:Nat)):=c1.same rfl rfl
  generalize s4.rdN (C+(0+0))=s5 at *
  simp only[SS,reduceCtorEq, ↓reduceIte,AC,d1,Ai JU (by decide)]
  refine aB Au c0.at' ?_
  have y6:Ext Any (LoG J L B) s (s5.rdN (C+(0+0))):=y5.trans (Ext.rdN (F:=Any) (G:=LoG J L B) s5 _ λ_=>trivial) hb (λ_ _ _=>trivial) λ_ _ h=>h
  have hI6:OpI (s5.rdN (C+(0+0))) J D X L E tmO .ready j:=hI5.same rfl rfl
  have hbs6:Bs (s5.rdN (C+(0+0))) w (Aq (r::R)++t):=hbs5.same rfl rfl
  have hB6:Own (s5.rdN (C+(0+0))) B 0 w:=hB5.same rfl rfl
  have c0:Own (s5.rdN (C+(0+0))) C 0 (.int .i64 (r.1:Nat)):=c0.same rfl rfl
  have c1:Own (s5.rdN (C+(0+0))) C 1 (.int .i64 (r.2:Nat)):=c1.same rfl rfl
  generalize s5.rdN (C+(0+0))=s6 at *
  simp only[SS,reduceCtorEq, ↓reduceIte,Bp,d2,Ai P6 (by decide)]
  refine aB Au c1.at' ?_
  have y7:Ext Any (LoG J L B) s (s6.rdN (C+(0+1))):=y6.trans (Ext.rdN (F:=Any) (G:=LoG J L B) s6 _ λ_=>trivial) hb (λ_ _ _=>trivial) λ_ _ h=>h
  have hI7:OpI (s6.rdN (C+(0+1))) J D X L E tmO .ready j:=hI6.same rfl rfl
  have hbs7:Bs (s6.rdN (C+(0+1))) w (Aq (r::R)++t):=hbs6.same rfl rfl
  have hB7:Own (s6.rdN (C+(0+1))) B 0 w:=hB6.same rfl rfl
  have c0:Own (s6.rdN (C+(0+1))) C 0 (.int .i64 (r.1:Nat)):=c0.same rfl rfl
  have c1:Own (s6.rdN (C+(0+1))) C 1 (.int .i64 (r.2:Nat)):=c1.same rfl rfl
  generalize s6.rdN (C+(0+1))=s7 at *
  simp only[SS,reduceCtorEq, ↓reduceIte,Bp,d3]
  have oR:An s7 C 0 [.int .i64 (r.1:Nat), .int .i64 (r.2:Nat)]:=λi u e=>by
   rcases i with _|_|i
   ·cases e;exact c0
   ·cases e;exact c1
   ·simp at e
  refine W.loadA Mx oR.row rfl λs8 m8 n8 x8=> ?_
  have y8:Ext Any (LoG J L B) s s8:=y7.trans x8 hb (λ_ _ _=>trivial) λ_ _ h=>h.elim
  have hI8:=hI7.same m8 n8
  have hbs8:=hbs7.same m8 n8
  have hB8:=hB7.same m8 n8
  refine W.yield (Tn_ (y8.bnd hb) hI8 h6 (by omega) ro3 hj (by omega) λs9 hI9 x9=> ?_)
  have y9:Ext Any (LoG J L B) s s9:=y8.trans x9 hb (λ_ _ _=>trivial) λ_ _ h=>by
   rcases h with h|h
   ·exact .inl h
   ·exact .inr (.inl h)
  have hB9:Own s9 B 0 w:=hB8.ext x9 λg=>by rcases g with g|g<;>omega
  have hbs9:Bs s9 w (Aq (r::R)++t):=hbs8.ext x9 λx hx g=>hF x hx (by
   rcases g with g|g
   ·exact .inl g
   ·exact .inr (.inl g))
  simp only[BN,Bool.not_true]
  refine aH Jo_ ?_
  refine Adb_.u ?_
  simp only[Ez_,RR,SS,Nat.reduceEqDiff, ↓reduceIte,h1]
  refine aB D1 hB9.at' ?_
  have y10:Ext Any (LoG J L B) s (s9.rdN (B+0)):=y9.trans (Ext.rdN (F:=Any) (G:=LoG J L B) s9 _ λ_=>trivial) hb (λ_ _ _=>trivial) λ_ _ h=>h
  have hI10:=hI9.same (s':=s9.rdN (B+0)) rfl rfl
  have hbs10:Bs (s9.rdN (B+0)) w (Aq (r::R)++t):=hbs9.same rfl rfl
  have hB10:Own (s9.rdN (B+0)) B 0 w:=hB9.same rfl rfl
  generalize s9.rdN (B+0)=s10 at *
  have hbn10:Bn s10 w (Aq (r::R)++t):=hbs10.resolve_left λh=>by have:=congrArg List.length h.2;rw[hl]at this;simp at this
  refine W.cut hbn10 Bk (i:=9) (j:=(Aq (r::R)++t).length) rfl rfl (by omega) (Nat.le_refl _) λv2 hv2 hF2=> ?_
  rw[List.take_length,RR_]at hv2
  refine aG D1 (by obtain⟨b,o,c,rfl,_⟩:=hv2;rfl) hB10 λs11 n11 x11 o11=> ?_
  have gB: ∀y,In B 0 1 y->y=B:=λy h=>by have h1:=h.1;have h2:=h.2;omega
  have y11:Ext Any (LoG J L B) s s11:=y10.trans x11 hb (λ_ _ _=>trivial) λy _ h=> .inr (.inr (gB y h))
  have hI11:OpI s11 J D X L E tmO .ready _:=⟨hI10.lo.ext x11 λg=>hBL (gB _ g).symm,hI10.de.ext x11 λg=>hBE (gB _ g).symm,hI10.jn.ext x11 λy _ g=>by have:=gB y g;omega,hI10.ox.ext x11 λg=>hBX (by have:=gB _ g;omega),hI10.s1,hI10.s2,hI10.s3,hI10.s4,hI10.s5⟩
  have hbs11:Bs s11 v2 (Aq R++t):=hv2.bs.ext x11 λx hx g=>hF x (hF2 x hx) (.inr (.inr (gB x g)))
  refine ih _ _ _ s11 v2 _ (λr' h=>hR r' (by simp[h])) (by omega) WQ_ (y11.bnd hb) (y11.cx.trans hcx) hI11 ⟨by show(if r.1=1 then max j.ses r.2 else j.ses)<256;split<;>omega,by show(if r.1=1 then j.com else max j.com r.2)<256;split<;>omega⟩ o11 hbs11 (λx hx=>hF x (hF2 x hx)) (by simp[T.get_set,h0]) (by simp[T.get_set,h1]) λs12 hI12 x12=> ?_
  have ec:(if r.1=1 then j.com else max j.com r.2)=if r.1=2 then max j.com r.2 else j.com:=by
   split<;>split<;>omega
  have hI12':OpI s12 J D X L E tmO .ready {j with ses:=maxJ 1 j.ses (r::R),com:=maxJ 2 j.com (r::R)}:=by
   show OpI s12 J D X L E tmO .ready ⟨j.file,maxJ 1 (if r.1=1 then max j.ses r.2 else j.ses) R,maxJ 2 (if r.1=2 then max j.com r.2 else j.com) R,j.gone⟩
   rw[<-ec]
   exact hI12
  exact q s12 hI12' (y11.trans x12 hb (λ_ _ _=>trivial) λ_ _ h=>h)
noncomputable def shiftC (col:Nat->Nat):Nat->Nat:=λx=>if col x<2 then col x else if col x<5 then 999 else if col x<1000 then col x-3 else col x
theorem Vr_ {col:Nat->Nat}{x:Nat}(h:1000<=col x):shiftC col x=col x:=by
 unfold shiftC
 rw[if_neg (by omega),if_neg (by omega),if_neg (by omega)]
theorem OD {col:Nat->Nat}{x c:Nat}(h:col x=c)(hc:c<2):shiftC col x=c:=by
 unfold shiftC
 rw[if_pos (by omega),h]
theorem KR {col:Nat->Nat}{x c:Nat}(h:col x=c+3)(h1:2<=c)(h2:c<990):shiftC col x=c:=by
 unfold shiftC
 rw[if_neg (by omega),if_neg (by omega),if_pos (by omega),h]
 omega
theorem MC_: ∀{es:List MapEntry} {lo lo' n:Nat},Bi es lo n=true->lo'<=lo->Bi es lo' n=true
 |[],_,_,_,_,_=>rfl
 |x::es,lo,lo',n,h,hl=>by
  unfold Bi at h ⊢
  rw[Bool.and_eq_true,Bool.and_eq_true]at h ⊢
  refine⟨⟨?_,h.1.2⟩,h.2⟩
  have:lo<=x.born:=Nat.le_of_ble_eq_true h.1.1
  exact Nat.ble_eq_true_of_le (by omega)
theorem FileI.recol {s:St}{col col':Nat->Nat}{c c':Nat}{f:FileS}(h:FileI s col c f)(e0: ∀x,col x=c->col' x=c')(e1: ∀x,col x=c+1->col' x=c'+1)(e2: ∀x,col x=c+2->col' x=c'+2):FileI s col' c' f:=
 ⟨h.o0,h.o1,λx h1 h2=>e0 x (h.k x h1 h2),h.ms,λx hx=>e1 x (h.ks x hx),h.ml,λx hx=>e2 x (h.kl x hx)⟩
theorem DkI.pop {s s':St}{F:Nat->Prop}{col:Nat->Nat}{D M mx:Nat}{room st le:Int}{fu ou:Bool}{f:FileS}{fs:List FileS}(h:DkI s col D M ⟨f::fs,mx,room,st,fu,le,ou⟩)(hlen:fs.length<=300)(x:Ext F (λy=>y=M) s s')(hM:Obj s' M (.map (fs.map FileS.ent) mx)):DkI s' (shiftC col) D M ⟨fs,mx,room,st,fu,le,ou⟩:=by
 have c: ∀o,o<7-> ¬D+o=M:=λo ho e=>by
  have h2:=h.kd (D+o) (by omega) (by omega)
  have h3:=h.km
  rw[e,h3]at h2
  omega
 refine⟨h.d0.ext x (c 0 (by decide)),h.d1.ext x (c 1 (by decide)),h.d2.ext x (c 2 (by decide)),h.d3.ext x (c 3 (by decide)),h.d4.ext x (c 4 (by decide)),h.d5.ext x (c 5 (by decide)),h.d6.ext x (c 6 (by decide)),λy h1 h2=>OD (h.kd y h1 h2) (by decide),hM,OD h.km (by decide), ?_,λi hi=> ?_⟩
 ·have hb:Bi (f.ent::fs.map FileS.ent) 0 mx=true:=h.bo
  unfold Bi at hb
  rw[Bool.and_eq_true]at hb
  exact MC_ hb.2 (Nat.zero_le _)
 ·have hi':i<fs.length:=hi
  have g:FileI s col (2+3*(i+1)) fs[i]:=h.fl (i+1) (by show i+1<fs.length+1;omega)
  have g':=g.recol (col':=shiftC col) (c':=2+3*i) (λx hx=>KR (by omega) (by omega) (by omega)) (λx hx=>KR (by omega) (by omega) (by omega)) λx hx=>KR (by omega) (by omega) (by omega)
  refine g'.ext x λy hy q=> ?_
  have h3:=OD h.km (show 1<2 by decide)
  rw[q,h3]
  omega
theorem Ve_:ZZ_=[]:=by kernel_rfl
section
variable {n D M C mx:Nat}{s:St}{col:Nat->Nat}{a:ByteArray}{room st le:Int}{fu ou:Bool}{f:FileS}{fs:List FileS}{Q:Value->St->Prop}
theorem Aaq_ {E:Env}{t1 t2:Nat}{m k:Value}{s:St}(Q:Value->St->Prop):W (A8 E .delete [t1,t2] [m,k]) s Q=W (kDel E t1 m k) s Q:=rfl
theorem NX_ (hb:s.lim<=s.next)(hI:DkI s col D M ⟨f::fs,mx,room,st,fu,le,ou⟩)(hlen:fs.length<=300)(hf:Az (f::fs) a=some 0)(hC:Own s C 0 (.pointer (some ⟨D,0,none⟩)))(hC2:Own s (C+2) 0 (.string a))(hn:20<=n)
  (q: ∀s1,DkI s1 (shiftC col) D M ⟨fs,mx,room,st,fu,le,ou⟩->Ext Any (λx=>col x<1000) s s1->s1.next=s.next->Q (.tuple #[]) s1):
  W (Ab envS (runF envS n) 66 [.pointer (some ⟨C,0,none⟩), .pointer (some ⟨C+2,0,none⟩)]) s Q:=by
 have hb0:(s.cxN cxN).lim<=(s.cxN cxN).next:=hb
 have hI0:DkI (s.cxN cxN) col D M ⟨f::fs,mx,room,st,fu,le,ou⟩:=hI.same rfl rfl
 have hC0:Own (s.cxN cxN) C 0 (.pointer (some ⟨D,0,none⟩)):=hC.same rfl rfl
 have hC20:Own (s.cxN cxN) (C+2) 0 (.string a):=hC2.same rfl rfl
 have hn0:(s.cxN cxN).next=s.next:=rfl
 have hcx:(s.cxN cxN).cx=cxN:=rfl
 refine Sy_ λtm t0 t1=> ?_
 refine NR_.u ?_
 generalize hs0:s.cxN cxN=s0 at *
 simp only[Wb,RR,t0,t1,Af]
 refine aE B4 ((hC0.same (s':=dSt s0.mem s0.next) rfl rfl).at') λrd0 hr0=> ?_
 try simp only[Af]
 rw[W_dq λs Q=>Bu (s:=s) _ Q]
 dsimp only
 try simp only[Af]
 rw[W_dq λs Q=>Ai (s:=s) DD (by decide) Q]
 dsimp only
 try simp only[Af]
 refine aE DM ((hI0.d1.same (s':=dSt s0.mem s0.next) rfl rfl).at') λrd3 hr3=> ?_
 refine aE CH ((hC20.same (s':=dSt s0.mem s0.next) rfl rfl).at') λrd4 hr4=> ?_
 rw[AY]
 refine⟨Df (by simp) (by simp), ?_⟩
 refine W.cast (PX_ _ _ _ _ _ _ _ _ _ _) ?_
 simp only[SS,Nat.reduceEqDiff,reduceCtorEq, ↓reduceIte,Aaq_]
 generalize hs':(⟨(dSt s0.mem s0.next).mem,(dSt s0.mem s0.next).next,s0.lim,_,_,s0.cx⟩:St)=s1
 have m1:s1.mem=s0.mem:=by rw[<-hs'];rfl
 have n1:s1.next=s0.next:=by rw[<-hs'];rfl
 have x1:Ext Any Non s0 s1:=by
  rw[<-hs']
  exact Ext.draw (F:=Any) (Nat.le_refl _) (λ_ _=>rfl) (by simp) λ_ _ _ _ _=>trivial
 have hI1:=hI0.same m1 n1
 refine W.delS (j:=0) (a:=a) I9 IL (IY (f::fs)) hf hI1.om λs2 n2 x2 o2=> ?_
 have hI2:=hI1.pop hlen x2 o2
 have y2:Ext Any (λx=>col x<1000) s0 s2:=(x1.gw (hs0 ▸ hb0) λ_ _ h=>h.elim).on x2 (hs0 ▸ hb0) λy _ h=>by rw[h,hI0.km];decide
 refine aC (rs:=[]) (vs:=[]) rfl (.inr Ve_) (by omega) Vj LH_ (y2.cx.trans hcx) rfl ?_
 rw[<-hs0]at y2
 exact q _ (hI2.same rfl rfl) y2.cx' (by show s2.next=s.next;omega)
theorem WZ_ (hb:s.lim<=s.next)(hI:DkI s col D M ⟨f::fs,mx,room,st,fu,le,false⟩)(hlen:fs.length<=290)(hf:Az (f::fs) a=some 0)(hn:200<=n)
  (q0:(fu=true/\le=0)-> ∀s1 col',After s s1 col col' D M ⟨f::fs,mx,room,st,fu,le,true⟩->Q (.int .i64 10) s1)
  (q: ¬(fu=true/\le=0)-> ∀s1 col' st',DkI s1 col' D M ⟨fs,mx,room,st',fu,if fu then wrap64 (le-1)else le,false⟩->(∀x,x<s.next->1000<=col x->col' x=col x)->Ext Any (λx=>col x<1000) s s1->Q (.int .i64 0) s1):
  W (Ab envS (runF envS n) 45 [.pointer (some ⟨D,0,none⟩), .string a]) s Q:=by
 have hb0:(s.cxN cxN).lim<=(s.cxN cxN).next:=hb
 have hlen':(f::fs).length<=300:=by show fs.length+1<=300;omega
 have hI0:DkI (s.cxN cxN) (Av col s.next 1000) D M ⟨f::fs,mx,room,st,fu,le,false⟩:=(hI.col λx hx=>AG hx).same rfl rfl
 have hag: ∀x,x<s.next->Av col s.next 1000 x=col x:=λx hx=>AG hx
 have hnew: ∀x,s.next<=x->Av col s.next 1000 x=1000:=λx hx=>Ch hx
 have hDlt:D+6<s.next:=hI.d6.1
 generalize hcol1:Av col s.next 1000=col1 at *
 refine AcZ_ λtm t0 t1=> ?_
 refine Rp_.u ?_
 simp only[An_,RR,SS,Nat.reduceEqDiff,reduceCtorEq, ↓reduceIte,t0]
 refine W.box λsa na xa oa=> ?_
 have ea:(s.cxN cxN).next=s.next:=rfl
 rw[Dt (show oneCell (.pointer (some ⟨D,0,none⟩))=true from rfl)]at na oa
 rw[ea]at oa na ⊢
 have na':sa.next=s.next+2:=na
 simp only[SS,Nat.reduceEqDiff,reduceCtorEq, ↓reduceIte,t1]
 refine W.box λsb nb xb ob=> ?_
 rw[Dt (show oneCell (.string a)=true from rfl)]at nb ob
 rw[na']at ob nb ⊢
 have nb':sb.next=s.next+4:=nb
 have yc:=((Ext.refl (F:=Any) (G:=Non) (s.cxN cxN)).on xa hb0 λ_ _ h=>h).on xb hb0 λ_ _ h=>h
 have c0:Own sb s.next 0 (.pointer (some ⟨D,0,none⟩)):=(oa 0 _ rfl).ext0 xb
 have c2:Own sb (s.next+2) 0 (.string a):=ob 0 _ rfl
 have hIc:=hI0.ext0 yc hlen'
 refine Ys_.u ?_
 simp only[Sz,RR,SS,Nat.reduceEqDiff,reduceCtorEq, ↓reduceIte]
 refine aB B4 c0.at' ?_
 have yd:=yc.thenRd hb0 (s.next+0)
 refine Ku (o:=false) (yd.bnd hb0) (hIc.d0.same rfl rfl) (hIc.d6.same rfl rfl) (by omega) λs1 m1 n1 x1=> ?_
 have y1:=yd.on x1 hb0 λ_ _ h=>h
 have m1':s1.mem=sb.mem:=m1
 have n1'':s1.next=sb.next:=n1
 have n1':s1.next=s.next+4:=by omega
 have hI1:=hIc.same m1' n1''
 have d0:=c0.same m1' n1''
 have d2:=c2.same m1' n1''
 refine SE_.u ?_
 simp only[Cx_,RR,SS,Nat.reduceEqDiff,reduceCtorEq, ↓reduceIte,AO,Bq,AC,Bp,BZ,BJ,A0,AL,Bool.false_eq_true,if_false,decide_true,Bool.not_true]
 refine aH KG_ ?_
 refine KD_.u ?_
 simp only[Ia_,RR,T.get_set,Nat.reduceEqDiff,reduceIte,Af]
 refine aE B4 ((d0.same (s':=dSt s1.mem s1.next) rfl rfl).at') λrd0 hr0=> ?_
 try simp only[Af]
 rw[W_dq λs Q=>Bu (s:=s) _ Q]
 dsimp only
 try simp only[Af]
 rw[W_dq λs Q=>Ai (s:=s) DD (by decide) Q]
 dsimp only
 try simp only[Af]
 refine aE DM ((hI1.d1.same (s':=dSt s1.mem s1.next) rfl rfl).at') λrd3 hr3=> ?_
 refine aE CH ((d2.same (s':=dSt s1.mem s1.next) rfl rfl).at') λrd4 hr4=> ?_
 try simp only[Af]
 refine aV (HF (s:=oSt s1.mem s1.next) (fs:=f::fs) (mx:=mx) (hI1.om.same rfl rfl) ⟨Any,Ext.rdN (F:=Any) (G:=Non) _ M λ_=>trivial,λrd5 hr5=> ?_⟩)
 show W _ (dSt s1.mem s1.next) _
 rw[AY]
 refine⟨Df (by simp) (by simp;rfl), ?_⟩
 refine W.cast (Wf_ _ _ _ _ _ _ _ _ _ _ _) ?_
 have hv:A7 (f::fs) a= .pointer (some ⟨f.blk,0,none⟩):=by
  unfold A7
  rw[hf]
  rfl
 rw[hv]
 simp only[SS,Nat.reduceEqDiff,reduceCtorEq, ↓reduceIte,Dj G7]
 generalize hs':(⟨(dSt s1.mem s1.next).mem,(dSt s1.mem s1.next).next,s1.lim,_,_,s1.cx⟩:St)=s3
 have m3:s3.mem=s1.mem:=by rw[<-hs'];rfl
 have n3:s3.next=s1.next:=by rw[<-hs'];rfl
 have x3:Ext Any Non s1 s3:=by
  rw[<-hs']
  exact Ext.draw (F:=Any) (Nat.le_refl _) (λ_ _=>rfl) (by simp) λ_ _ _ _ _=>trivial
 have y3:=y1.on x3 hb0 λ_ _ h=>h
 have hI3:=hI1.same m3 n3
 have e0:=d0.same m3 n3
 have e2:=d2.same m3 n3
 refine aH AcC_ ?_
 refine Zt_.u ?_
 simp only[AO_,RR,SS,Nat.reduceEqDiff,reduceCtorEq, ↓reduceIte]
 refine aB B4 e0.at' ?_
 have y8:=y3.thenRd hb0 (s.next+0)
 have hI8:DkI (s3.rdN (s.next+0)) col1 D M ⟨f::fs,mx,room,st,fu,le,false⟩:=hI3.same rfl rfl
 have u0:Own (s3.rdN (s.next+0)) s.next 0 (.pointer (some ⟨D,0,none⟩)):=e0.same rfl rfl
 have u2:Own (s3.rdN (s.next+0)) (s.next+2) 0 (.string a):=e2.same rfl rfl
 have n8:(s3.rdN (s.next+0)).next=s.next+4:=n3.trans n1'
 generalize s3.rdN (s.next+0)=s8 at *
 have hD0:=hI8.kd
 refine OV (f2:=66) (y8.bnd hb0) hI8.d3 hI8.d4 hI8.d5 hI8.d6 (by omega) (λhf s9 n9 x9 o9=> ?_) λhnf n9 s9 hn9 hcx9 hnx9 x9 o93 o95=> ?_
 ·have hI9:=hI8.own (st:=st) (fu:=fu) (le:=le) (ou:=true) x9 (λy _ h=>by omega) (hI8.d3.ext x9 λh=>by omega) (hI8.d4.ext x9 λh=>by omega) (hI8.d5.ext x9 λh=>by omega) o9
  have y9:Ext Any (λx=>col1 x<1000) (s.cxN cxN) s9:=(y8.gw hb0 λ_ _ h=>h.elim).on x9 hb0 λy _ h=>by rw[hD0 y (by omega) (by omega)];decide
  refine aC (rs:=[4]) (vs:=[.int .i64 10]) rfl (.inl BW_) (by omega) Ps Th y9.cx (by simp[T.get_set]) ?_
  exact q0 hf _ col1 ⟨hI9.same rfl rfl,λx hx=>hag x hx,(y9.gw hb0 λy hy h=>by rw[<-hag y hy];exact h).cx'⟩
 have hd:Ext Any (λy=>y=D+3\/y=D+5) s8 (s9.cxN s8.cx):=x9
 have hI9':=hI8.own (st:=wrap64 (st+1)) (fu:=fu) (le:=if fu then wrap64 (le-1)else le) (ou:=false) hd (λy _ h=>by omega) (o93.same rfl rfl) (hI8.d4.ext hd λh=>by omega) (o95.same rfl rfl) (hI8.d6.ext hd λh=>by omega)
 have hI9:=hI9'.same (s':=s9) rfl rfl
 have v0:=(u0.ext hd λh=>by omega).same (s':=s9) rfl rfl
 have v2:=(u2.ext hd λh=>by omega).same (s':=s9) rfl rfl
 have y9:Ext Any (λx=>col1 x<1000) (s.cxN cxN) (s9.cxN s8.cx):=(y8.gw hb0 λ_ _ h=>h.elim).on hd hb0 λy _ h=>by rw[hD0 y (by omega) (by omega)];decide
 have y9':Ext Any (λx=>col1 x<1000) (s.cxN cxN) s9:=⟨y9.nxt,y9.lim,hcx9,y9.mem,y9.rd,y9.wr⟩
 show W (Ab envS (runF envS n9) 66 [.pointer (some ⟨s.next,0,none⟩), .pointer (some ⟨s.next+2,0,none⟩)]) s9 _
 refine NX_ (C:=s.next) (y9'.bnd hb0) hI9 (by omega) hf v0 v2 (by omega) λs10 hI10 x10 n10=> ?_
 refine⟨x10.cx.trans hcx9, ?_⟩
 have y10:=y9'.on x10 hb0 λy hy h=>h
 have e8:s8.cx=cxN:=y8.cx
 rw[e8]
 refine aC (rs:=[4]) (vs:=[.int .i64 0]) rfl (.inl BW_) (by omega) Ps Th rfl (by simp[T.get_set]) ?_
 exact q hnf _ (shiftC col1) _ (hI10.same rfl rfl) (λx hx hc=>by rw[Vr_ (by rw[hag x hx];exact hc),hag x hx]) (y10.gw hb0 λy hy h=>by rw[<-hag y hy];exact h).cx'
end
theorem Ext.cxs {F G:Nat->Prop}{s s':St}(x:Ext F G s s')(c:Ctx):Ext F G (s.cxN c) (s'.cxN c):=⟨x.nxt,x.lim,rfl,x.mem,x.rd,x.wr⟩
theorem Ext.setO {s:St}{d:Nat}{o:AObj}:Ext (λx=>x=d) (λx=>x=d) s ((s.rdN d).wrN d (.O o)):=by
 obtain⟨d1,p1,p2⟩:=(Ext.rdN (F:=λx=>x=d) (G:=λx=>x=d) s d λ_=>rfl).rd
 obtain⟨d2,p3,p4⟩:=(Ext.wrN (F:=λx=>x=d) (G:=λx=>x=d) (s.rdN d) d (.O o) rfl).wr
 refine⟨Nat.le_refl _,rfl,rfl,λx _ hx=> ?_,⟨d1,p1,p2⟩,⟨d2,p3,p4⟩⟩
 show T.get (T.set s.mem d _) x=_
 rw[T.get_set,if_neg]
 exact hx
section
variable {E:Env}
theorem W.leaveK {f nt g:Nat}{tm:T Value}{todo:List Item}{ki:CallKind}{fn:Func}{rs:List ResultVar}{up:Option FrameMode}{Q:Value×FrameMode->St->Prop}(hf:E.fn.get f=some fn)(hr:fn.results.toList=rs):
  ∀(ds:List Nat) (n:Nat) (s:St),s.lim<=s.next->ds.length+1<=n->s.cx= .cx up (some (ds.map Bh))->(∀d∈ds,Obj s d (.deferred (some [])))->ds.Nodup->
   (∀s1,Ext Any (λx=>x∈ds) (s.cxN (.cx up (some []))) s1->s1.next=s.next->W (resL E tm rs) s1 λl s2=>Q (tupV l,up.getD .run) s2)->W (runF E n ⟨f,nt,g,tm,todo, .returning,ki,none⟩) s Q
 |[],n,s,hb,hn,hc,_,_,q=>by
  obtain⟨m,rfl⟩: ∃m,n=m+1:=⟨n-1,by simp at hn;omega⟩
  refine W.run ?_
  show W (CO E (CZ E (runF E m)) ⟨f,nt,g,tm,todo, .returning,ki,none⟩) s _
  refine W.bind (W.getCx ?_)
  have hc':s.cx= .cx up (some []):=hc
  rw[hc]
  show W (outF E ⟨f,nt,g,tm,todo, .returning,ki,none⟩ up) s _
  refine W.on hf (W.bind ?_)
  show W (M.bind (resL E tm fn.results.toList) λl=>M.pure (tupV l)) s _
  rw[hr]
  have es:s.cxN (.cx up (some []))=s:=by rw[<-hc'];rfl
  have h:=q s (by rw[es];exact Ext.refl s) rfl
  exact W.bind (h.mono λl s1 q=>W.pure (W.pure (W.pure q)))
 |d::ds,n,s,hb,hn,hc,hO,hd,q=>by
  obtain⟨m,rfl⟩: ∃m,n=m+1:=⟨n-1,by simp at hn;omega⟩
  have hd1:=(List.nodup_cons.1 hd)
  have h0:=hO d (by simp)
  refine W.run ?_
  show W (CO E (CZ E (runF E m)) ⟨f,nt,g,tm,todo, .returning,ki,none⟩) s _
  refine W.bind (W.getCx ?_)
  rw[hc]
  show W (noP (M.bind (Am.putCx (.cx up (some (ds.map Bh)))) λ_=>runD (CZ E (runF E m)) ⟨f,nt,g,tm,todo, .returning,ki,none⟩ (Bh d))) s _
  refine W.np (W.bind (W.putCx ?_))
  show W (M.bind (Am.rdC d) _) _ _
  refine W.bind (W.rdC (s:=s.cxN (.cx up (some (ds.map Bh)))) h0.2 h0.1 (W.bind (W.wrC h0.1 (W.pure ?_))))
  have e0:Ext (λx=>x=d) (λx=>x=d) (s.cxN (.cx up (some (ds.map Bh)))) (((s.cxN (.cx up (some (ds.map Bh)))).rdN d).wrN d (.O (.deferred none))):=Ext.setO
  generalize hs':(((s.cxN (.cx up (some (ds.map Bh)))).rdN d).wrN d (.O (.deferred none)))=s' at *
  have hn':s'.next=s.next:=by rw[<-hs'];rfl
  refine W.leaveK hf hr ds m s' (by rw[hn',e0.lim];exact hb) (by simp at hn;omega) e0.cx (λx hx=>((hO x (by simp[hx])).same (s':=s.cxN (.cx up (some (ds.map Bh)))) rfl rfl).ext e0 λe=>hd1.1 (e ▸ hx)) hd1.2 λs1 x1 n1=> ?_
  refine q s1 ?_ (n1.trans hn')
  have e1:Ext Any (λx=>x∈d::ds) (s.cxN (.cx up (some []))) (s'.cxN (.cx up (some []))):=(e0.cxs (.cx up (some []))).weak hb (λ_ _ _=>trivial) λx _ h=>by have h:x=d:=h;simp[h]
  exact e1.trans x1 hb (λ_ _ _=>trivial) λx _ h=>by simp[h]
theorem W.endKs {n f nt g:Nat}{tm:T Value}{todo P:List Item}{ki:CallKind}{fn:Func}{rs:List ResultVar}{up:Option FrameMode}{ds:List Nat}{s:St}{Q:Value×FrameMode->St->Prop}(hb:s.lim<=s.next)(ht:skim 64 todo=P)(hP: ∃k,P= .code .ret::k)(hn:ds.length+3<=n)
  (hf:E.fn.get f=some fn) (hr:fn.results.toList=rs) (hc:s.cx= .cx up (some (ds.map Bh))) (hO: ∀d∈ds,Obj s d (.deferred (some []))) (hd:ds.Nodup) (q: ∀s1,Ext Any (λx=>x∈ds) (s.cxN (.cx up (some []))) s1->s1.next=s.next->W (resL E tm rs) s1 λl s2=>Q (tupV l,up.getD .run) s2):W (runF E n ⟨f,nt,g,tm,todo, .run,ki,none⟩) s Q:=by
 obtain⟨m,rfl⟩: ∃m,n=m+1:=⟨n-1,by omega⟩
 subst ht
 obtain⟨k,ht⟩:=hP
 have h1:W (runF E m ⟨f,nt,g,tm,skim 64 todo, .returning,ki,none⟩) s Q:=W.leaveK hf hr ds m s hb (by omega) hc hO hd q
 refine W.code ht ?_
 rw[ht]at h1
 exact W.pure h1
end
section
variable {n D M J:Nat}{s:St}{k:DkS}{col:Nat->Nat}{j:JnS}{Q:Value->St->Prop}
theorem AaQ_ (hb:s.lim<=s.next)(hJ:JnI s J D j)(hg:j.gone=true)(hn:200<=n)(q: ∀s1,Ext Any Non s s1->Q (.bool true) s1):W (Ab envS (runF envS n) 27 [.pointer (some ⟨J,0,none⟩)]) s Q:=by
 have hb0:(s.cxN cxN).lim<=(s.cxN cxN).next:=hb
 have hJ0:JnI (s.cxN cxN) J D j:=hJ.same rfl rfl
 refine VT λtm t0=> ?_
 refine TH.u ?_
 simp only[Qb,RR,SS]
 refine Bq_.u ?_
 simp only[Lu,RR,SS,reduceCtorEq, ↓reduceIte,t0]
 refine If hb0 hJ0.o0 (by omega) λs1 m1 n1 x1=> ?_
 have hJ1:=hJ0.same m1 n1
 simp only[SS, ↓reduceIte,BN,Bool.not_false,Ai Ln (by decide)]
 refine aB Bx hJ1.o4.at' ?_
 have y2:=x1.thenRd hb0 (J+(0+4))
 generalize s1.rdN (J+(0+4))=s2 at *
 rw[hg]
 simp only[AY,CE,HU,Dl,Dp,Dr, ↓reduceIte]
 refine aC (rs:=[2]) (vs:=[.bool true]) rfl (.inl YZ) (by omega) OW RK y2.cx (by simp[T.get_set]) ?_
 exact q _ y2.cx'
end
theorem VS_:((List.range 40).map λi=>(List.range 40).map λj=>nmJ i==nmJ j)=(List.range 40).map λi=>(List.range 40).map λj=>decide (i=j):=by kernel_rfl
theorem Abm_:((List.range 40).map λi=>(⟨#[]⟩:ByteArray)==nmJ i)=(List.range 40).map λ_=>false:=by kernel_rfl
theorem IL_ {i j:Nat}(hi:i<40)(hj:j<40):(nmJ i==nmJ j)=decide (i=j):=BF (BF VS_ hi) hj
theorem Yj_ {i:Nat}(hi:i<40):((⟨#[]⟩:ByteArray)==nmJ i)=false:=BF Abm_ hi
theorem LR (k:Nat):(⟨#[106,111,117,114,110,97,108,46]⟩:ByteArray)++digJ k=nmJ k:=by
 apply ByteArray.ext
 rw[ByteArray.data_append]
 unfold nmJ digJ preL
 simp
theorem MG (k:Nat):(digJ k).size<=2:=by
 show((digL k).toArray).size<=2
 unfold digL
 split<;>simp
abbrev LsJ:=List (List (Nat×Nat)×List Nat)
def FJ:Nat->List FileS->LsJ->Prop
 |_,[],[]=>True
 |m,f::fs,p::L=>Safe f (nmJ m) (Aq p.1++p.2)/\FJ (m+1) fs L
 |_,_,_=>False
theorem FJ.len: ∀{m:Nat} {fs:List FileS} {L:LsJ},FJ m fs L->fs.length=L.length
 |_,[],[],_=>rfl
 |_,_::fs,_::L,h=>by
  show fs.length+1=L.length+1
  rw[h.2.len]
 |_,[],_::_,h=>h.elim
 |_,_::_,[],h=>h.elim
theorem FJ.names: ∀{m:Nat} {fs:List FileS} {L:LsJ},FJ m fs L->fs.map FileS.name=(List.range' m L.length).map nmJ
 |_,[],[],_=>rfl
 |m,f::fs,_::L,h=>by
  show f.name::fs.map FileS.name=nmJ m::(List.range' (m+1) L.length).map nmJ
  rw[h.1.name,h.2.names]
 |_,[],_::_,h=>h.elim
 |_,_::_,[],h=>h.elim
theorem FJ.get: ∀{m:Nat} {fs:List FileS} {L:LsJ},FJ m fs L-> ∀i (hi:i<fs.length) (hl:i<L.length),Safe fs[i] (nmJ (m+i)) (Aq L[i].1++L[i].2)
 |_,[],[],_,i,hi,_=>absurd hi (by simp)
 |m,f::fs,p::L,h,0,_,_=>h.1
 |m,f::fs,p::L,h,i+1,hi,hl=>by
  have:=h.2.get i (by simpa using hi) (by simpa using hl)
  rw[show m+1+i=m+(i+1) by omega]at this
  exact this
 |_,[],_::_,h,_,_,_=>h.elim
 |_,_::_,[],h,_,_,_=>h.elim
theorem PE {k:Nat}(hk:k<40): ∀(c m:Nat),m+c<=40->((List.range' m c).map nmJ).findIdx? (λb=>nmJ k==b)=if m<=k/\k<m+c then some (k-m)else none
 |0,m,_=>by rw[if_neg (by omega)];rfl
 |c+1,m,h=>by
  show(nmJ m::(List.range' (m+1) c).map nmJ).findIdx? _=_
  rw[List.findIdx?_cons,IL_ hk (by omega)]
  by_cases e:k=m
  ·subst e
   rw[decide_eq_true rfl]
   show some 0=_
   rw[if_pos (show k<=k/\k<k+(c+1)from⟨Nat.le_refl _,by omega⟩),Nat.sub_self]
  ·simp only[e,decide_false,Bool.false_eq_true,if_false]
   rw[PE hk c (m+1) (by omega)]
   by_cases e2:m<=k/\k<m+(c+1)
   ·rw[if_pos (by omega),if_pos e2]
    simp only[Option.map_some]
    congr 1
    omega
   ·rw[if_neg (by omega),if_neg e2]
    rfl
theorem FJ.look {m k:Nat}{fs:List FileS}{L:LsJ}(h:FJ m fs L)(hk:k<40)(hm:m+L.length<=40):Az fs (nmJ k)=if m<=k/\k<m+L.length then some (k-m)else none:=by
 unfold Az
 rw[h.names]
 exact PE hk _ _ hm
theorem Cd_: ∀(c m:Nat),m+c<=40->((List.range' m c).map nmJ).findIdx? (λb=>(⟨#[]⟩:ByteArray)==b)=none
 |0,m,_=>rfl
 |c+1,m,h=>by
  show(nmJ m::(List.range' (m+1) c).map nmJ).findIdx? _=_
  rw[List.findIdx?_cons,Yj_ (by omega),Cd_ c (m+1) (by omega)]
  rfl
theorem FJ.lookE {m:Nat}{fs:List FileS}{L:LsJ}(h:FJ m fs L)(hm:m+L.length<=40):Az fs ⟨#[]⟩=none:=by
 unfold Az
 rw[h.names]
 exact Cd_ _ _ hm
theorem FJ.snoc: ∀{m:Nat} {fs:List FileS} {L:LsJ} {g:FileS} {p:List (Nat×Nat)×List Nat},FJ m fs L->Safe g (nmJ (m+L.length)) (Aq p.1++p.2)->FJ m (fs++[g]) (L++[p])
 |_,[],[],g,p,_,hg=>⟨hg,trivial⟩
 |m,f::fs,q::L,g,p,h,hg=>⟨h.1,FJ.snoc h.2 (by rw[show m+1+L.length=m+(q::L).length by simp;omega];exact hg)⟩
 |_,[],_::_,_,_,h,_=>h.elim
 |_,_::_,[],_,_,h,_=>h.elim
def maxA (k:Nat):Nat->LsJ->Nat
 |m,[]=>m
 |m,p::L=>maxA k (maxJ k m p.1) L
theorem Ec (k:Nat): ∀(A B:LsJ) (m:Nat),maxA k m (A++B)=maxA k (maxA k m A) B
 |[],_,_=>rfl
 |p::A,B,m=>Ec k A B _
def LsOk (L:LsJ):Prop:= ∀p∈L,(∀r∈p.1,BC r)/\p.1.length<=100/\p.2.length<9
theorem O9 {k:Nat}: ∀{L:LsJ} {m:Nat},LsOk L->m<256->maxA k m L<256
 |[],_,_,h=>h
 |p::L,m,h,hm=>O9 (L:=L) (m:=maxJ k m p.1) (λq hq=>h q (by simp[hq])) (IT (h p (by simp)).1 hm)
def numV (m c:Nat):List Value:=(List.range' m c).map λ(x:Nat)=>Value.int .i64 (x:Nat)
theorem MkS.num {s:St}{v:Value}{b m c i:Nat}(h:MkS s 1 c (numV m c) v b)(hi:i<c): ∃z,v= .slice (some ⟨b,0,none⟩) c z/\Own s b (0+i*1) (.int .i64 (m+i:Nat)):=by
 rcases h with⟨_,h0,_⟩|⟨h,h0⟩
 ·omega
 ·refine⟨_,h.val, ?_⟩
  rw[Nat.mul_one,Nat.zero_add]
  have h1:=h.own i (.int .i64 (m+i:Nat)) (by simp[numV,hi])
  rwa [Nat.zero_add]at h1
theorem Bs.lt {s:St}{v:Value}{l:List Nat}(h:Bs s v l): ∀x,BsF v x->x<s.next:=by
 intro x hx
 rcases h with⟨rfl,_⟩|⟨b,o,c,rfl,_,_,h3⟩
 ·exact hx.elim
 ·have h1:b+o<=x:=hx.1
  have h2:x<b+o+l.length:=hx.2
  have hl:x-(b+o)<(u8l l).length:=by rw[BU];omega
  have:=(h3 (x-(b+o)) _ (List.getElem?_eq_getElem hl)).1
  omega
theorem Ts_:envS.ext.get 64=none:=by kernel_rfl
structure OpR (s:St)(col:Nat->Nat)(D M X J:Nat)(K:DkS)(m c:Nat)(v:Value)(b0:Nat)(ds:List Nat)(j:JnS):Prop where
 dk:DkI s col D M K
 fl:K.fs.length<=200
 jn:JnI s J D j
 jc: ∀x,J<=x->x<J+5->1000<=col x
 ox:Own s X 0 (.pointer (some ⟨J,0,none⟩))
 xj:(X<J\/J+5<=X)/\1000<=col X
 mks:MkS s 1 c (numV m c) v b0
 mj: ∀x,MkF 1 c b0 x->(x<J\/J+5<=x)/\1000<=col x
 ob: ∀d∈ds,Obj s d (.deferred (some []))/\(d<J\/J+5<=d)/\1000<=col d
 nd:ds.Nodup
section
variable {s s':St}{col:Nat->Nat}{D M X J m c b0:Nat}{K:DkS}{v:Value}{ds:List Nat}{j j':JnS}
theorem OpR.same (h:OpR s col D M X J K m c v b0 ds j)(hm:s'.mem=s.mem)(hn:s'.next=s.next):OpR s' col D M X J K m c v b0 ds j:=
 ⟨h.dk.same hm hn,h.fl,h.jn.same hm hn,h.jc,h.ox.same hm hn,h.xj,h.mks.same hm hn,h.mj,λd hd=>⟨(h.ob d hd).1.same hm hn,(h.ob d hd).2⟩,h.nd⟩
theorem OpR.ext {F G:Nat->Prop}(h:OpR s col D M X J K m c v b0 ds j)(x:Ext F G s s')(hG: ∀y,y<s.next->G y->J<=y/\y<J+5)(hj:JnI s' J D j'):OpR s' col D M X J K m c v b0 ds j':=
 ⟨h.dk.ext x (by have:=h.fl;omega) λy hy g=>h.jc y (hG y hy g).1 (hG y hy g).2,h.fl,hj,h.jc,h.ox.ext x λg=>by have:=hG _ h.ox.1 g;have:=h.xj.1;omega,h.xj,h.mks.ext x λy hy g=>by have:=hG y (h.mks.lt y hy) g;have:=(h.mj y hy).1;omega,h.mj,λd hd=>⟨(h.ob d hd).1.ext x λg=>by have:=hG d (h.ob d hd).1.1 g;have:=(h.ob d hd).2.1;omega,(h.ob d hd).2⟩,h.nd⟩
theorem OpR.ext0 {F:Nat->Prop}(h:OpR s col D M X J K m c v b0 ds j)(x:Ext F Non s s'):OpR s' col D M X J K m c v b0 ds j:=h.ext x (λ_ _ g=>g.elim) (h.jn.ext0 x)
end
theorem AcU_ {D M X J m b0:Nat}{K:DkS}{col:Nat->Nat}{L:LsJ}{v:Value}{s0:St}{Q:Value×FrameMode->St->Prop}(hb0:s0.lim<=s0.next)(hn0: ∀x,s0.next<=x->col x=1000)(hJ0:s0.next<=J)(hL:LsOk L)(hm1:1<=m)(hm:m+L.length<=39)(hF:FJ m K.fs L)(hz:K.used<=800000)(ho:K.out=false)
  (q: ∀n tm td s ds a b,400000<=n->skim 64 td=J8->ds.length=L.length->(∀d∈ds,s0.next<=d)->s.cx= .cx none (some (ds.map Bh))->Ext Any Non (s0.cxN cxN) (s.cxN cxN)->OpR s col D M X J K m L.length v b0 ds ⟨⟨#[]⟩,a,b,false⟩->a=maxA 1 0 L->b=maxA 2 0 L->
   T.get tm 0=some (.pointer (some ⟨D,0,none⟩))->T.get tm 6=some (.pointer (some ⟨X,0,none⟩))->T.get tm 7=some v->T.get tm 8=some (.int .i64 (if L.length=0 then 1 else m+L.length:Nat))->W (runF envS n ⟨13,Dy,AD,tm,td, .run, .normal,none⟩) s Q):
  ∀(k i n:Nat) (tm:T Value) (td:List Item) (s:St) (ds:List Nat) (a b:Nat),i+k=L.length->400010+40*k<=n->skim 64 td=J0->ds.length=i->(∀d∈ds,s0.next<=d)->s.cx= .cx none (some (ds.map Bh))->Ext Any Non (s0.cxN cxN) (s.cxN cxN)->OpR s col D M X J K m L.length v b0 ds ⟨⟨#[]⟩,a,b,false⟩->a<256/\b<256->maxA 1 a (L.drop i)=maxA 1 0 L->maxA 2 b (L.drop i)=maxA 2 0 L->
   T.get tm 0=some (.pointer (some ⟨D,0,none⟩))->T.get tm 6=some (.pointer (some ⟨X,0,none⟩))->T.get tm 7=some v->T.get tm 8=some (.int .i64 (if i=0 then 1 else m+i:Nat))->T.get tm 32=some v->T.get tm 33=some (.int .i64 (L.length:Nat))->T.get tm 34=some (.int .i64 (i:Nat))->
   W (runF envS n ⟨13,Dy,AD,tm,td, .run, .normal,none⟩) s Q:=by
 intro k
 induction k with
 |zero=>
  intro i n tm td s ds a b hi hn hT hds hge hcx hx hO hab h1 h2 t0 t6 t7 t8 t32 t33 t34
  have e:i=L.length:=by omega
  subst e
  refine As_.u ?_ hT
  have d1:decide (((L.length:Nat):Int)<((L.length:Nat):Int))=false:=decide_eq_false (by omega)
  simp only[NR,RR,SS,AC,t33,t34,d1]
  refine aH CA_ ?_
  rw[List.drop_length]at h1 h2
  exact q _ _ _ s ds a b (by omega) rfl hds hge hcx hx hO h1 h2 (by simp[T.get_set,t0]) (by simp[T.get_set,t6]) (by simp[T.get_set,t7]) (by simp[T.get_set,t8])
 |succ k ih=>
  intro i n tm td s ds a b hi hn hT hds hge hcx hx hO hab h1 h2 t0 t6 t7 t8 t32 t33 t34
  have hil:i<L.length:=by omega
  have hik:i<K.fs.length:=by rw[hF.len];exact hil
  have hsf:=hF.get i hik hil
  have hlp:=hL L[i] (List.getElem_mem hil)
  have hbx:s.lim<=s.next:=hx.bnd hb0
  have hsl:s0.next<=s.next:=hx.nxt
  obtain⟨z,ev,hown⟩:=hO.mks.num hil
  have d1:decide (((i:Nat):Int)<((L.length:Nat):Int))=true:=decide_eq_true (by omega)
  refine As_.u ?_ hT
  simp only[NR,RR,SS,AC,t33,t34,d1]
  refine aK CA_ ?_
  refine AbI_.u ?_
  simp only[S0,RR,SS,Nat.reduceEqDiff, ↓reduceIte,t32,t34]
  rw[ev]
  simp only[By CF hil]
  refine aB Au hown.at' ?_
  have x1:Ext Any Non s (s.rdN (b0+(0+i*1))):=Ext.rdN s _ λ_=>trivial
  have hO1:OpR (s.rdN (b0+(0+i*1))) col D M X J K m L.length v b0 ds _:=hO.ext0 x1
  generalize s.rdN (b0+(0+i*1))=s1 at *
  refine NC_.u ?_
  simp only[YE,RR,SS,reduceCtorEq, ↓reduceIte,t0]
  refine W.itoa (k:=m+i) (by omega) ?_
  rw[LW (by have:=MG (m+i);show 8+_<=_;omega),LR]
  have hb1:s1.lim<=s1.next:=x1.bnd hbx
  refine Wv (a:=nmJ (m+i)) hb1 hO1.dk (by have:=hO.fl;omega) (by omega) (by omega) (λh=> ?_) (λ_ h=> ?_) λ_ i' h hi' s2 w x2 hw hwn=> ?_
  ·rw[ho]at h;cases h
  ·rw[hF.look (by omega) (by omega),if_pos (by omega)]at h;cases h
  rw[hF.look (by omega) (by omega),if_pos (by omega)]at h
  have h:=Option.some.inj h
  have hii:i'=i:=by omega
  subst hii
  have hw:Bs s2 w (Aq L[i'].1++L[i'].2):=by
   have e:K.fs[i'].all=Aq L[i'].1++L[i'].2:=by
    unfold FileS.all
    rw[hsf.sb,hsf.lb,List.append_nil]
   rw[<-e]
   exact hw
  have hO2:=hO1.ext0 x2
  have y2:Ext Any Non s s2:=x1.then0 x2 hbx
  have hb2:s2.lim<=s2.next:=y2.bnd hbx
  rw[AP (k:=0) rfl]
  rw[AP (k:=1) rfl]
  refine KH_.u ?_
  simp only[Ch_,RR,SS, ↓reduceIte,AL]
  refine aH NG_ ?_
  refine Op_.u ?_
  simp only[Uv,RR,SS,Nat.reduceEqDiff, ↓reduceIte]
  refine JY_ (v:=w) (by obtain⟨p,c,rfl⟩:=hw.sl;cases p<;>rfl) (by omega) λs3 n3 x3 o3=> ?_
  have hO3:=hO2.ext0 x3
  have y3:Ext Any Non s s3:=y2.then0 x3 hbx
  have hb3:s3.lim<=s3.next:=y3.bnd hbx
  have hw3:=hw.ext0 x3
  generalize htm:T.set _ 50 _=tmO
  have g0:T.get tmO 0=some (.pointer (some ⟨D,0,none⟩)):=by rw[<-htm];simp[T.get_set,t0]
  have g6:T.get tmO 6=some (.pointer (some ⟨X,0,none⟩)):=by rw[<-htm];simp[T.get_set,t6]
  have g7:T.get tmO 7=some v:=by rw[<-htm];simp[T.get_set,t7]
  have g10:T.get tmO 10=some (.int .i64 (m+i':Nat)):=by rw[<-htm];simp[T.get_set]
  have g32:T.get tmO 32=some v:=by rw[<-htm];simp[T.get_set,t32]
  have g33:T.get tmO 33=some (.int .i64 (L.length:Nat)):=by rw[<-htm];simp[T.get_set,t33]
  have g34:T.get tmO 34=some (.int .i64 (i':Nat)):=by rw[<-htm];simp[T.get_set,t34]
  have g50:T.get tmO 50=some (.func (.func 64) #[] #[.pointer (some ⟨s2.next,0,none⟩)]):=by rw[<-htm];simp[T.get_set]
  clear htm
  refine W.rangeFunc rfl AaV_ g50 Ts_ (y3.cx.trans hcx) (by omega) λs4 n4 x4 de lo=> ?_
  have hO4:=hO3.ext0 x4
  have hw4:=hw3.ext0 x4
  have o4:Own s4 s2.next 0 w:=o3.ext0 x4
  have hb4:s4.lim<=s4.next:=x4.bnd hb3
  have hJl:J+4<s1.next:=hO1.jn.o4.1
  have hJd:J+4<s2.next:=Nat.lt_of_lt_of_le hJl x2.nxt
  have hXd:X+0<s2.next:=hO2.ox.1
  refine Te_ λtmr r0 r1=> ?_
  generalize hcc:(Ctx.cx none (some (Bh s3.next::ds.map Bh)))=cc at *
  have hOp:OpI ((s4.cxN cc).cxN cxN) J D X (s3.next+1) s3.next tmO .ready ⟨⟨#[]⟩,a,b,false⟩:=by
   refine⟨lo.same rfl rfl,de.same rfl rfl,hO4.jn.same rfl rfl,hO4.ox.same rfl rfl, .inr (by omega), .inr (by omega),hO4.xj.1,by omega,by omega⟩
  refine KJ_ (Q:=λ_ s5=>Obj s5 (s3.next+1) (opL tmO .ready s3.next)/\W (runF envS _ ⟨13,Dy,AD,tmO,E6.tail, .run, .normal,none⟩) ((s5.rdN (s3.next+1)).wrN (s3.next+1) (.O (opL tmO .exhausted s3.next))) Q) (s0:=s4.cxN cc) (B:=s2.next) (t:=L[i'].2) hlp.2.2 g6 (.inr (by omega)) (by omega) (by omega) (by omega) L[i'].1 _ tmr _ _ w _ hlp.1 (by have:=hlp.2.1;omega) rfl hb4 rfl hOp hab (o4.same rfl rfl) (hw4.same rfl rfl) (λx hx g=> ?_) r0 r1 λs5 hI5 x5=> ?_
  ·have hx1:=hwn x hx
   have hx2:=hw.lt x hx
   rcases g with g|g|g<;>omega
  rw[show(s4.cxN cc).cx=cc from rfl]
  have hO5:OpR (s5.cxN cc) col D M X J K m L.length v b0 (s3.next::ds) ⟨⟨#[]⟩,maxJ 1 a L[i'].1,maxJ 2 b L[i'].1,false⟩:=by
   have e5:Ext Any (LoG J (s3.next+1) s2.next) (s4.cxN cxN) (s5.cxN cxN):=x5.cxs cxN
   have hh: ∀y,y<s1.next->LoG J (s3.next+1) s2.next y->J<=y/\y<J+5:=λy hy g=>by
    have:=x2.nxt
    rcases g with g|g|g<;>omega
   have hcol: ∀x,s0.next<=x->1000<=col x:=λx hx=>by rw[hn0 x hx];exact Nat.le_refl _
   have e15:Ext Any (LoG J (s3.next+1) s2.next) (s1.cxN cxN) (s5.cxN cxN):=((((x2.cxs cxN).gw hb1 λ_ _ g=>g.elim).on (x3.cxs cxN) hb1 λ_ _ g=>g.elim).on (x4.cxs cxN) hb1 λ_ _ g=>g.elim).on e5 hb1 λ_ _ g=>g
   have h:=((hO1.same (s':=s1.cxN cxN) rfl rfl).ext (j':=⟨⟨#[]⟩,maxJ 1 a L[i'].1,maxJ 2 b L[i'].1,false⟩) e15 hh (hI5.jn.same rfl rfl)).same (s':=s5.cxN cc) rfl rfl
   refine⟨h.dk,h.fl,h.jn,h.jc,h.ox,h.xj,h.mks,h.mj,λd hd=> ?_,List.nodup_cons.2 ⟨λhd=> ?_,h.nd⟩⟩
   ·rcases List.mem_cons.1 hd with rfl|hd
    ·exact⟨hI5.de.same rfl rfl, .inr (by omega),hcol _ (by omega)⟩
    ·exact h.ob d hd
   ·have:=(hO3.ob _ hd).1.1
    omega
  refine⟨hI5.lo.same rfl rfl, ?_⟩
  have x6:Ext (λx=>x=s3.next+1) (λx=>x=s3.next+1) (s5.cxN cc) (((s5.cxN cc).rdN (s3.next+1)).wrN (s3.next+1) (.O (opL tmO .exhausted s3.next))):=Ext.setO
  have hl3:s3.next+1<s5.next:=hI5.lo.1
  have hO6:OpR (((s5.cxN cc).rdN (s3.next+1)).wrN (s3.next+1) (.O (opL tmO .exhausted s3.next))) col D M X J K m L.length v b0 (s3.next::ds) ⟨⟨#[]⟩,maxJ 1 a L[i'].1,maxJ 2 b L[i'].1,false⟩:=by
   have c3: ∀y,y<s3.next-> ¬y=s3.next+1:=λy h=>by omega
   have n23:s2.next<=s3.next:=x3.nxt
   refine⟨hO5.dk.ext x6 (by have:=hO.fl;omega) λy _ g=> ?_,hO5.fl,hO5.jn.ext x6 λy _ g=> ?_,hO5.jc,hO5.ox.ext x6 λg=> ?_,hO5.xj,hO5.mks.ext x6 λy hy g=> ?_,hO5.mj,λd hd=>⟨(hO5.ob d hd).1.ext x6 λg=> ?_,(hO5.ob d hd).2⟩,hO5.nd⟩
   ·have g:y=s3.next+1:=g
    rw[hn0 y (by omega)]
    exact Nat.le_refl _
   ·have g:y=s3.next+1:=g
    omega
   ·have g:X+0=s3.next+1:=g
    omega
   ·have g:y=s3.next+1:=g
    have:=hO3.mks.lt y hy
    omega
   ·have g:d=s3.next+1:=g
    rcases List.mem_cons.1 hd with h|h
    ·omega
    ·have:=(hO3.ob _ h).1.1
     omega
  generalize hs6:(((s5.cxN cc).rdN (s3.next+1)).wrN (s3.next+1) (.O (opL tmO .exhausted s3.next)))=s6 at *
  have hcx6:s6.cx= .cx none (some ((s3.next::ds).map Bh)):=by rw[x6.cx];exact hcc.symm
  have hx6:Ext Any Non (s0.cxN cxN) (s6.cxN cxN):=by
   have e1:Ext Any Non (s0.cxN cxN) (s4.cxN cxN):=((hx.then0 (y3.cxs cxN) hb0).then0 (x4.cxs cxN) hb0)
   have e2:=e1.on (x5.cxs cxN) hb0 λx hx g=>by
    have hx:x<s0.next:=hx
    have:=x2.nxt
    have:=y2.nxt
    rcases g with g|g|g<;>omega
   exact e2.on (x6.cxs cxN) hb0 λx hx g=>by
    have hx:x<s0.next:=hx
    have g:x=s3.next+1:=g
    have:=y3.nxt
    omega
  refine RM_.u ?_
  have e1:wrap64 (((m+i':Nat):Int)+1)=((m+i'+1:Nat):Int):=by
   rw[Bc (by omega) (by omega)];simp
  have e2:wrap64 (((i':Nat):Int)+1)=((i'+1:Nat):Int):=by
   rw[Bc (by omega) (by omega)];simp
  simp only[Hc_,RR,SS,AO,g10,e1]
  refine OW_.u ?_
  simp only[RW,RR,SS,Nat.reduceEqDiff, ↓reduceIte,AO,g34,e2]
  rw[List.drop_eq_getElem_cons hil]at h1 h2
  exact ih (i'+1) _ _ _ s6 (s3.next::ds) _ _ (by omega) (by omega) AcI_ (by simp[hds]) (λd hd=>by
   rcases List.mem_cons.1 hd with rfl|hd
   ·have:=y3.nxt
    omega
   ·exact hge d hd) hcx6 hx6 hO6 ⟨IT hlp.1 hab.1,IT hlp.1 hab.2⟩ h1 h2 (by simp[T.get_set,g0]) (by simp[T.get_set,g6]) (by simp[T.get_set,g7]) (by simp[T.get_set];omega) (by simp[T.get_set,g32]) (by simp[T.get_set,g33]) (by simp[T.get_set])
section
variable {n D M J:Nat}{s:St}{k:DkS}{col:Nat->Nat}{j:JnS}{bv:Value}{l:List Nat}
def LayR (s:St)(col:Nat->Nat)(D M:Nat)(k:DkS)(a:ByteArray)(l:List Nat)(v:Value)(s1:St):Prop:= ∃col' k',After s s1 col col' D M k'/\k'.room=k.room/\k'.fused=k.fused/\k'.fs.length<=k.fs.length+1/\k'.used<=k.used+l.length/\
 ((v= .int .i64 0/\k'.out=false/\SG k a l k'.fs)\/(v= .int .i64 10/\k.fused=true/\k'.out=true/\(k'.fs=k.fs\/Mj k a l k'.fs)))
theorem RJ_ (hb:s.lim<=s.next)(hI:DkI s col D M k)(hJ:JnI s J D j)(hlen:k.fs.length<=290)(ha:NmOk j.file)(hB:Bs s bv l)(hBc: ∀x,BsF bv x->x<s.next/\1000<=col x)(hJc: ∀x,J<=x->x<J+5->1000<=col x)
  (hz:k.used+l.length<=900000) (hroom:((k.used+l.length:Nat):Int)<=k.room) (ho:k.out=false) (hn:900<=n):
  W (Ab envS (runF envS n) 42 [.pointer (some ⟨J,0,none⟩),bv]) s (LayR s col D M k j.file l):=
 BA_ hb hI hJ hlen ha hB hBc hJc hz hroom ho hn (λhu s1 col' fs' mx' st' le' hA hL h1 h2=>⟨col',_,hA,rfl,hu.symm,h1,h2, .inr ⟨rfl,hu,rfl,hL⟩⟩) λs1 col' fs' mx' st' le' hA hL h1 h2=>⟨col',_,hA,rfl,rfl,h1,Nat.le_of_eq h2, .inl ⟨rfl,rfl,hL⟩⟩
end
section
variable {s s':St}{col col':Nat->Nat}{D M X J m c b0:Nat}{K K':DkS}{v:Value}{ds:List Nat}{j:JnS}
theorem OpR.recol (h:OpR s col D M X J K m c v b0 ds j)(x:Ext Any (λx=>col x<1000) s s')(hI:DkI s' col' D M K')(hag: ∀x,x<s.next->1000<=col x->col' x=col x)(hl:K'.fs.length<=200):OpR s' col' D M X J K' m c v b0 ds j:=by
 have g: ∀x,x<s.next->1000<=col x->1000<=col' x:=λx h1 h2=>by rw[hag x h1 h2];exact h2
 have hJl:J+4<s.next:=h.jn.o4.1
 refine⟨hI,hl,h.jn.ext x λy hy q=> ?_,λx h1 h2=>g x (by omega) (h.jc x h1 h2),h.ox.ext x λq=> ?_,⟨h.xj.1,g X (by have:=h.ox.1;omega) h.xj.2⟩,h.mks.ext x λy hy q=> ?_,λy hy=>⟨(h.mj y hy).1,g y (h.mks.lt y hy) (h.mj y hy).2⟩,λd hd=>⟨(h.ob d hd).1.ext x λq=> ?_,(h.ob d hd).2.1,g d (h.ob d hd).1.1 (h.ob d hd).2.2⟩,h.nd⟩
 ·have q:col y<1000:=q
  rcases Nat.lt_or_ge y J with h1|h1
  ·exact .inl h1
  ·rcases Nat.lt_or_ge y (J+5)with h2|h2
   ·have:=h.jc y h1 h2
    omega
   ·exact .inr h2
 ·have q:col (X+0)<1000:=q
  have:=h.xj.2
  rw[Nat.add_zero]at q
  omega
 ·have q:col y<1000:=q
  have:=(h.mj y hy).2
  omega
 ·have q:col d<1000:=q
  have:=(h.ob d hd).2.2
  omega
end
def OutJ (m:Nat)(L:LsJ)(a b:Nat)(fs:List FileS):Prop:=
 FJ m fs L\/(∃fs0 g,fs=fs0++[g]/\FJ m fs0 L/\g.name=nmJ (m+L.length)/\g.sb=[]/\g.lb=Aq [(1,a),(2,b)])\/ ∃i,i<L.length/\FJ (m+i) fs (L.drop i++[([(1,a),(2,b)],[])])
theorem FJ.cons_inv {m:Nat}{fs:List FileS}{p:List (Nat×Nat)×List Nat}{L:LsJ}(h:FJ m fs (p::L)): ∃f fs',fs=f::fs'/\Safe f (nmJ m) (Aq p.1++p.2)/\FJ (m+1) fs' L:=by
 cases fs with
 |nil=>exact h.elim
 |cons f fs=>exact⟨f,fs,rfl,h.1,h.2⟩
section
variable {D M X J m b0:Nat}{L:LsJ}{v:Value}{s0:St}{col0:Nat->Nat}{a b:Nat}{u:Bool}{Q:Value×FrameMode->St->Prop}
theorem OJ {n:Nat}{tm:T Value}{td P:List Item}{s:St}{ds:List Nat}{x y:Value}(hb0:s0.lim<=s0.next)(hx:Ext Any (λx=>x<s0.next/\col0 x<1000) (s0.cxN cxN) (s.cxN cxN))(hds: ∀d∈ds,Obj s d (.deferred (some []))/\s0.next<=d)(nd:ds.Nodup)(hcx:s.cx= .cx none (some (ds.map Bh)))
  (hT:skim 64 td=P) (hP: ∃k,P= .code .ret::k) (hn:ds.length+3<=n) (t2:T.get tm 2=some x) (t3:T.get tm 3=some y)
  (q: ∀s1,Ext Any (λx=>x∈ds) (s.cxN cxN) s1->s1.next=s.next->Ext Any (λx=>x<s0.next/\col0 x<1000) (s0.cxN cxN) s1->Q (.tuple #[x,y], .run) s1):W (runF envS n ⟨13,Dy,AD,tm,td, .run, .normal,none⟩) s Q:=by
 refine W.endKs (rs:=[.tmp 2, .tmp 3]) (by have:=hx.bnd hb0;exact this) hT hP hn HB_ Sh_ hcx (λd hd=>(hds d hd).1) nd λs1 x1 n1=>W.resTmp t2 (W.resTmp t3 (W.resNil ?_))
 exact q s1 x1 n1 (hx.on x1 hb0 λy hy h=>by have:=(hds y h).2;have hy:y<s0.next:=hy;omega)
end
section
variable {D M X J m b0:Nat}{L:LsJ}{v:Value}{s0:St}{col0:Nat->Nat}{a b:Nat}{u:Bool}{ds:List Nat}{Q:Value×FrameMode->St->Prop}
theorem Tq_ (hb0:s0.lim<=s0.next)(hJ0:s0.next<=J)(hds: ∀d∈ds,s0.next<=d)(hlen:ds.length<=100)(hm1:1<=m)(hm:m+L.length<=39)
  (qf:u=true-> ∀s1 col' k',(∀x,x<s0.next->1000<=col0 x->col' x=col0 x)->Ext Any (λx=>x<s0.next/\col0 x<1000) (s0.cxN cxN) s1->DkI s1 col' D M k'->k'.room=1048576->k'.out=true->OutJ m L a b k'.fs->Q (.tuple #[.pointer none, .int .i64 10], .run) s1)
  (q: ∀s1 col' k' g,(∀x,x<s0.next->1000<=col0 x->col' x=col0 x)->Ext Any (λx=>x<s0.next/\col0 x<1000) (s0.cxN cxN) s1->JrI s1 col' D M J (nmJ (m+L.length)) [(1,a),(2,b)] a b u k' g->Q (.tuple #[.pointer (some ⟨J,0,none⟩), .int .i64 0], .run) s1):
  ∀(Lr:LsJ) (i n:Nat) (tm:T Value) (td:List Item) (s:St) (col:Nat->Nat) (K:DkS) (fsr:List FileS) (g:FileS),L.drop i=Lr->i+Lr.length=L.length->2000+20*Lr.length<=n->skim 64 td=JI->
   K.fs=fsr++[g]->FJ (m+i) fsr Lr->Safe g (nmJ (m+L.length)) (Aq [(1,a),(2,b)])->K.out=false->K.fused=u->K.room=1048576->OpR s col D M X J K m L.length v b0 ds ⟨nmJ (m+L.length),a,b,false⟩->s.cx= .cx none (some (ds.map Bh))->
   (∀x,x<s0.next->1000<=col0 x->col x=col0 x)->Ext Any (λx=>x<s0.next/\col0 x<1000) (s0.cxN cxN) (s.cxN cxN)->
   T.get tm 0=some (.pointer (some ⟨D,0,none⟩))->T.get tm 6=some (.pointer (some ⟨X,0,none⟩))->T.get tm 94=some v->T.get tm 95=some (.int .i64 (L.length:Nat))->T.get tm 96=some (.int .i64 (i:Nat))->
   W (runF envS n ⟨13,Dy,AD,tm,td, .run, .normal,none⟩) s Q:=by
 intro Lr
 induction Lr with
 |nil=>
  intro i n tm td s col K fsr g hd hi hn hT hK hF hg ho hu hr hO hcx hag hx t0 t6 t94 t95 t96
  have e:i=L.length:=by simpa using hi
  subst e
  have hbs:s.lim<=s.next:=hx.bnd hb0
  have hfs:fsr=[]:=by
   cases fsr with
   |nil=>rfl
   |cons f fs=>exact hF.elim
  subst hfs
  refine WR.u ?_ hT
  have d1:decide (((L.length:Nat):Int)<((L.length:Nat):Int))=false:=decide_eq_false (by omega)
  simp only[Md,RR,SS,AC,t95,t96,d1]
  refine aH TG ?_
  refine Abx_.u ?_
  simp only[Cs_,RR,SS,Nat.reduceEqDiff, ↓reduceIte,t6]
  refine aB Fw hO.ox.at' ?_
  have x1:Ext Any Non s (s.rdN (X+0)):=Ext.rdN s _ λ_=>trivial
  have hO1:=hO.ext0 x1
  have hx1:Ext Any (λx=>x<s0.next/\col0 x<1000) (s0.cxN cxN) ((s.rdN (X+0)).cxN cxN):=hx.on (x1.cxs cxN) hb0 λ_ _ g=>g.elim
  refine OJ (P:=K3) hb0 hx1 (λd hd=>⟨(hO1.ob d hd).1,hds d hd⟩) hO.nd hcx rfl Nc_ (by simp at hn;omega) (x:= .pointer (some ⟨J,0,none⟩)) (y:= .int .i64 0) (by simp[T.get_set]) (by simp[T.get_set]) λs2 x2 n2 y2=> ?_
  have hO2:=hO1.same (s':=(s.rdN (X+0)).cxN cxN) rfl rfl
  refine q s2 col K g hag y2 ⟨hO2.dk.ext x2 (by have:=hO.fl;omega) λy _ g=>(hO.ob y g).2.2,by rw[hK];rfl,hr,hu,ho,hg,hO2.jn.ext x2 λy _ g=>(hO.ob y g).2.1,hO.jc⟩
 |cons p Lr ih=>
  intro i n tm td s col K fsr g hd hi hn hT hK hF hg ho hu hr hO hcx hag hx t0 t6 t94 t95 t96
  obtain⟨f,fs',rfl,hf,hF'⟩:=hF.cons_inv
  have hil:i<L.length:=by rw[List.length_cons]at hi;omega
  have hn':2020+20*Lr.length<=n:=by rw[List.length_cons]at hn;omega
  have hbs:s.lim<=s.next:=hx.bnd hb0
  obtain⟨z,ev,hown⟩:=hO.mks.num hil
  have d1:decide (((i:Nat):Int)<((L.length:Nat):Int))=true:=decide_eq_true (by omega)
  refine WR.u ?_ hT
  simp only[Md,RR,SS,AC,t95,t96,d1]
  refine aK TG ?_
  refine Adl_.u ?_
  simp only[XN,RR,SS,Nat.reduceEqDiff, ↓reduceIte,t94,t96]
  rw[ev]
  simp only[By CF hil]
  refine aB Au hown.at' ?_
  have x1:Ext Any Non s (s.rdN (b0+(0+i*1))):=Ext.rdN s _ λ_=>trivial
  have hO1:=hO.ext0 x1
  have hx1:Ext Any (λx=>x<s0.next/\col0 x<1000) (s0.cxN cxN) ((s.rdN (b0+(0+i*1))).cxN cxN):=hx.on (x1.cxs cxN) hb0 λ_ _ g=>g.elim
  have hcx1:(s.rdN (b0+(0+i*1))).cx= .cx none (some (ds.map Bh)):=hcx
  generalize s.rdN (b0+(0+i*1))=s1 at *
  refine Rt_.u ?_
  simp only[Dx_,RR,SS,reduceCtorEq, ↓reduceIte,t0]
  refine W.itoa (k:=m+i) (by omega) ?_
  rw[LW (by have:=MG (m+i);show 8+_<=_;omega),LR]
  have hb1:s1.lim<=s1.next:=x1.bnd hbs
  have hl0:Az (f::(fs'++[g])) (nmJ (m+i))=some 0:=by
   unfold Az
   show((f.name::(fs'++[g]).map FileS.name).findIdx? _)=_
   rw[List.findIdx?_cons,hf.name,Ja]
   rfl
  have hfl:=hO1.fl
  obtain⟨kfs,mx,room,st,fu,le,ou⟩:=K
  have hK:kfs=f::(fs'++[g]):=hK
  have ho:ou=false:=ho
  have hu:fu=u:=hu
  have hr:room=1048576:=hr
  subst hK ho hu hr
  have hlf:(f::(fs'++[g])).length<=200:=hfl
  have fin: ∀(s2:St) (col2:Nat->Nat),(∀x,x<s1.next->1000<=col x->col2 x=col x)->Ext Any (λx=>col x<1000) s1 s2->(∀x,x<s0.next->1000<=col0 x->col2 x=col0 x)/\Ext Any (λx=>x<s0.next/\col0 x<1000) (s0.cxN cxN) (s2.cxN cxN):=λs2 col2 h1 h2=>by
   have hle:s0.next<=s1.next:=hx1.nxt
   refine⟨λx hx1 hx2=> ?_,hx1.on (h2.cxs cxN) hb0 λx hx hg=>⟨hx, ?_⟩⟩
   ·have e:=hag x hx1 hx2
    rw[h1 x (by omega) (by omega),e]
   ·have hx:x<s0.next:=hx
    have hg:col x<1000:=hg
    rcases Nat.lt_or_ge (col0 x) 1000 with h|h
    ·exact h
    ·have:=hag x hx h
     omega
  refine WZ_ (a:=nmJ (m+i)) hb1 hO1.dk (by rw[List.length_cons]at hlf;omega) hl0 (by omega) (λhfu s2 col2 hA=> ?_) λhnf s2 col2 st2 hI2 hag2 x2=> ?_
  ·obtain⟨g1,g2⟩:=fin s2 col2 (λx h1 _=>hA.agree x h1) hA.ext
   have hO2:=hO1.recol hA.ext hA.inv (λx h1 _=>hA.agree x h1) hlf
   have hcx2:s2.cx= .cx none (some (ds.map Bh)):=hA.ext.cx.trans hcx1
   refine SR.u ?_
   simp only[O7,RR,SS, ↓reduceIte,AL]
   refine aK UU ?_
   refine Ke_.u ?_
   simp only[ZC,RR,SS,Nat.reduceEqDiff, ↓reduceIte]
   refine OJ (P:=Pz) hb0 g2 (λd hd=>⟨(hO2.ob d hd).1,hds d hd⟩) hO.nd hcx2 rfl MU_ (by omega) (x:= .pointer none) (y:= .int .i64 10) (by simp[T.get_set]) (by simp[T.get_set]) λs3 x3 n3 y3=> ?_
   refine qf hfu.1 s3 col2 _ g1 y3 ((hO2.dk.same (s':=s2.cxN cxN) rfl rfl).ext x3 (by show(f::(fs'++[g])).length<=300;omega) λy _ g=>(hO2.ob y g).2.2) rfl rfl (.inr (.inr ⟨i,hil, ?_⟩))
   have h3:FJ (m+i) (f::fs') (p::Lr):=⟨hf,hF'⟩
   have h4:=h3.snoc (g:=g) (p:=([(1,a),(2,b)],[])) (by rw[show m+i+(p::Lr).length=m+L.length by rw[<-hi];omega,List.append_nil];exact hg)
   rw[hd]
   exact h4
  ·obtain⟨g1,g2⟩:=fin s2 col2 hag2 x2
   have hl2:(fs'++[g]).length<=200:=by rw[List.length_cons]at hlf;omega
   have hO2:=hO1.recol x2 hI2 hag2 hl2
   have hcx2:s2.cx= .cx none (some (ds.map Bh)):=x2.cx.trans hcx1
   refine SR.u ?_
   simp only[O7,RR,SS, ↓reduceIte,AL]
   refine aH UU ?_
   refine Vf_.u ?_
   have e2:wrap64 (((i:Nat):Int)+1)=((i+1:Nat):Int):=by
    rw[Bc (by omega) (by omega)];simp
   simp only[Er_,RR,SS,Nat.reduceEqDiff, ↓reduceIte,AO,t96,e2]
   have hd2:L.drop (i+1)=Lr:=by
    rw[List.drop_eq_getElem_cons hil]at hd
    exact(List.cons.inj hd).2
   exact ih (i+1) _ _ _ s2 col2 ⟨fs'++[g],mx,1048576,st2,fu,if fu then wrap64 (le-1)else le,false⟩ fs' g hd2 (by rw[List.length_cons]at hi;omega) (by omega) XN_ rfl (by rw[show m+(i+1)=m+i+1 by omega];exact hF') hg rfl rfl rfl hO2 hcx2 g1 g2 (by simp[T.get_set,t0]) (by simp[T.get_set,t6]) (by simp[T.get_set,t94]) (by simp[T.get_set,t95]) (by simp[T.get_set])
end
section
variable {D M X J m b0:Nat}{L:LsJ}{v:Value}{s0:St}{col:Nat->Nat}{a b:Nat}{ds:List Nat}{K:DkS}{Q:Value×FrameMode->St->Prop}
theorem Abt_ {n:Nat}{tm:T Value}{td:List Item}{s:St}(hb:s.lim<=s.next)(hJX:J+5<=s.next)(hm:m+L.length<=39)(hT:skim 64 td=J8)(hn:1000<=n)
  (hO:OpR s col D M X J K m L.length v b0 ds ⟨⟨#[]⟩,a,b,false⟩)
  (t6:T.get tm 6=some (.pointer (some ⟨X,0,none⟩))) (t8:T.get tm 8=some (.int .i64 (m+L.length:Nat)))
  (q: ∀n' td' tm' s',n<=n'+10->skim 64 td'=H6->(∀i,i≠68->T.get tm' i=T.get tm i)->Ext Any (λx=>J<=x/\x<J+5) s s'->OpR s' col D M X J K m L.length v b0 ds ⟨nmJ (m+L.length),a,b,false⟩->W (runF envS n' ⟨13,Dy,AD,tm',td', .run, .normal,none⟩) s' Q):
  W (runF envS n ⟨13,Dy,AD,tm,td, .run, .normal,none⟩) s Q:=by
 refine Qc_.u ?_ hT
 have d1:decide (((m+L.length:Nat):Int)>2147483647)=false:=decide_eq_false (by omega)
 simp only[Bm_,RR,SS,Bp,t8,d1]
 refine aH Va_ ?_
 refine KL_.u ?_
 simp only[Vi,RR,T.get_set,Nat.reduceEqDiff, ↓reduceIte,t6,t8,Af]
 refine aE Fw (hO.ox.same (s':=dSt s.mem s.next) rfl rfl).at' λrd0 hr0=> ?_
 simp only[A6,B2,Cb,BQ,C6,Eg]
 refine aV (W.itoa (by omega) ⟨Non,Ext.refl _,λrd1 hr1=> ?_⟩)
 show W _ (dSt s.mem s.next) _
 rw[show(oSt s.mem s.next).next=s.next from rfl]
 simp only[Af]
 rw[W_dq λs Q=>LW (s:=s) (by have:=MG (m+L.length);show 8+_<=_;omega) Q,LR]
 simp only[C4,DE O6 (by decide)]
 rw[AY]
 refine⟨Df (by simp) (by simp), ?_⟩
 refine W.cast (VO_ ..) ?_
 simp only[SS]
 generalize hsF:(⟨(dSt s.mem s.next).mem,(dSt s.mem s.next).next,s.lim,_,_,s.cx⟩:St)=sF
 have mF:sF.mem=s.mem:=by rw[<-hsF];rfl
 have nF:sF.next=s.next:=by rw[<-hsF];rfl
 have xF:Ext Any Non s sF:=by
  rw[<-hsF]
  exact Ext.draw (F:=Any) (Nat.le_refl _) (λ_ _=>rfl) (by simp) λ_ _ _ _ _=>trivial
 have hOF:=hO.ext0 xF
 refine aG CH rfl hOF.jn.o1 λs2 n2 x2 o2=> ?_
 have hj2:JnI s2 J D ⟨nmJ (m+L.length),a,b,false⟩:=⟨hOF.jn.o0.ext x2 λg=>by have h1:=g.1;omega,o2,hOF.jn.o2.ext x2 λg=>by have h1:=g.2;omega,hOF.jn.o3.ext x2 λg=>by have h1:=g.2;omega,hOF.jn.o4.ext x2 λg=>by have h1:=g.2;omega⟩
 have hG: ∀y,In J 1 1 y->J<=y/\y<J+5:=λy g=>by have h1:=g.1;have h2:=g.2;omega
 have hO2:=hOF.ext x2 (λy _ g=>hG y g) hj2
 refine q _ _ _ s2 (by omega) rfl (λi hi=>by simp[T.get_set];omega) ((xF.gw hb λ_ _ g=>g.elim).on x2 hb λy _ g=>hG y g) hO2
end
section
variable {D M X J m b0:Nat}{L:LsJ}{v:Value}{s0:St}{col:Nat->Nat}{a b:Nat}{ds:List Nat}{K:DkS}{Q:Value×FrameMode->St->Prop}
theorem QO_ {n:Nat}{tm:T Value}{td:List Item}{s:St}(hb:s.lim<=s.next)(hs0:s0.next<=s.next)(hn0: ∀x,s0.next<=x->col x=1000)(hm:m+L.length<=39)(hT:skim 64 td=H6)(hn:2000<=n)(ha:a<256)(hb2:b<256)(hz:K.used<=800000)(hr:K.room=1048576)(ho:K.out=false)
  (hO:OpR s col D M X J K m L.length v b0 ds ⟨nmJ (m+L.length),a,b,false⟩)
  (t6:T.get tm 6=some (.pointer (some ⟨X,0,none⟩)))
  (q: ∀n' td' tm' s' w,n<=n'+10->skim 64 td'=MT->(∀i,i≠15->T.get tm' i=T.get tm i)->T.get tm' 15=some w->LayR s col D M K (nmJ (m+L.length)) (Aq [(1,a),(2,b)]) w s'->W (runF envS n' ⟨13,Dy,AD,tm',td', .run, .normal,none⟩) s' Q):
  W (runF envS n ⟨13,Dy,AD,tm,td, .run, .normal,none⟩) s Q:=by
 refine Nb_.u ?_ hT
 have hO0:OpR (oSt s.mem s.next) col D M X J K m L.length v b0 ds ⟨nmJ (m+L.length),a,b,false⟩:=hO.same rfl rfl
 simp only[Yj,RR,t6,Af]
 refine aE Fw (hO.ox.same (s':=dSt s.mem s.next) rfl rfl).at' λrd0 hr0=> ?_
 simp only[Af]
 refine aE Fw (hO.ox.same (s':=dSt s.mem s.next) rfl rfl).at' λrd1 hr1=> ?_
 simp only[C4,DE Jx (by decide)]
 refine aE Au (hO.jn.o2.same (s':=dSt s.mem s.next) rfl rfl).at' λrd2 hr2=> ?_
 simp only[FF,FW,Af,BQ]
 rw[W_dq λs Q=>Ek (s:=s) (JQ _ _) Q]
 simp only[B2,Cb,BQ,C6,Eg]
 refine aV (OA (r:=(1,a)) (s:=oSt s.mem s.next) (Nat.le_refl _) ⟨by simp,by simp,ha⟩ (by omega) λs1 w1 nb1 x1 mk1 hnb1=>⟨Any,x1,λrd3 hr3=> ?_⟩)
 have hO1:=hO0.ext0 x1
 simp only[Af]
 refine aE Fw (hO1.ox.same (s':=dSt s1.mem s1.next) rfl rfl).at' λrd4 hr4=> ?_
 simp only[C4,DE Ky (by decide)]
 refine aE Au (hO1.jn.o3.same (s':=dSt s1.mem s1.next) rfl rfl).at' λrd5 hr5=> ?_
 simp only[FF]
 rw[W_dq λs Q=>Ek (s:=s) (JQ _ _) Q]
 simp only[Af]
 refine aV (OA (r:=(2,b)) (s:=oSt s1.mem s1.next) (Nat.le_refl _) ⟨by simp,by simp,hb2⟩ (by omega) λs2 w2 nb2 x2 mk2 hnb2=>⟨Any,x2,λrd6 hr6=> ?_⟩)
 have hO2:=(hO1.same (s':=oSt s1.mem s1.next) rfl rfl).ext0 x2
 have mk1':=(mk1.same (s':=oSt s1.mem s1.next) rfl rfl).ext x2 λ_ _ g=>g.elim
 simp only[Af]
 refine aV (aQ (s:=oSt s2.mem s2.next) (Nat.le_refl _) (r:=[w1,w2]) Zu (by decide) (QE ⟨_,_,_,mk1.val⟩ ⟨_,_,_,mk2.val⟩) (BW (by decide)) λs3 n3 x3 r3=>⟨Non,x3,λrd7 hr7=> ?_⟩)
 have hO3:=(hO2.same (s':=oSt s2.mem s2.next) rfl rfl).ext0 x3
 have mk1'':=(mk1'.same (s':=oSt s2.mem s2.next) rfl rfl).ext x3 λ_ _ g=>g.elim
 have mk2'':=(mk2.same (s':=oSt s2.mem s2.next) rfl rfl).ext x3 λ_ _ g=>g.elim
 have l1:(recJ (1,a)).length=9:=B7 _
 have l2:(recJ (2,b)).length=9:=B7 _
 have el:Aq [(1,a),(2,b)]=recJ (1,a)++recJ (2,b):=by simp[Aq]
 have ll:(Aq [(1,a),(2,b)]).length=18:=Et _
 simp only[Af]
 refine aV (Su (s:=oSt s3.mem s3.next) (Nat.le_refl _) (λi v e=>((r3 i v e).same rfl rfl).at') ((mk1''.same (s':=oSt s3.mem s3.next) rfl rfl).bn (by omega)).bs ((mk2''.same (s':=oSt s3.mem s3.next) rfl rfl).bn (by omega)).bs (by omega) (by omega) λs4 w4 x4 hw4 hnw4=>⟨Any,x4,λrd8 hr8=> ?_⟩)
 rw[<-el]at hw4
 have hO4:=(hO3.same (s':=oSt s3.mem s3.next) rfl rfl).ext0 x4
 simp only[Af]
 have n01:s.next<=s1.next:=x1.nxt
 have n12:s1.next<=s2.next:=x2.nxt
 have n23:s2.next<=s3.next:=x3.nxt
 have n34:s3.next<=s4.next:=x4.nxt
 refine bA ((RJ_ (s:=oSt s4.mem s4.next) (l:=Aq [(1,a),(2,b)]) (Nat.le_refl _) (hO4.dk.same rfl rfl) (hO4.jn.same rfl rfl) (by have:=hO.fl;omega) (YN (show m+L.length<40 by omega)) (hw4.same rfl rfl) (λx hx=>⟨hw4.lt x hx, ?_⟩) hO4.jc (by omega) (by rw[hr];omega) ho (by omega)).mono λw s5 hR=> ?_)
 ·have:=hnw4 x hx
  rw[hn0 x (by have:s3.next<=x:=this;omega)]
  exact Nat.le_refl _
 obtain⟨col5,K5,hA,hR1⟩:=hR
 refine⟨_,_,hA.ext,λrd9 wr9 hr9 hw9=> ?_⟩
 rw[AY]
 have oX:=hO.ox.1
 have oJ:=hO.jn.o4.1
 have e0: ∀x,x∈rd0-> ¬s.next<=x:=λx h=>by have:=hr0 x h;omega
 have e1: ∀x,x∈rd1-> ¬s.next<=x:=λx h=>by have:=hr1 x h;omega
 have e2: ∀x,x∈rd2-> ¬s.next<=x:=λx h=>by have:=hr2 x h;omega
 have e4: ∀x,x∈rd4-> ¬s.next<=x:=λx h=>by have:=hr4 x h;omega
 have e5: ∀x,x∈rd5-> ¬s.next<=x:=λx h=>by have:=hr5 x h;omega
 have lts: ∀x,s.next<=x-> ¬x<s.next:=λx h=>by omega
 refine⟨C7 ?_, ?_⟩
 ·simp only[List.reverse_cons,List.reverse_nil,List.nil_append,List.cons_append,allP,B6,List.take,Cz]
  simp+contextual [lts,e1,e2,e4,e5]
  repeat' first
   |exact .inl rfl
   |apply And.intro
 refine W.cast (Jx_ ..) ?_
 simp only[SS]
 generalize hsF:(⟨(dSt s5.mem s5.next).mem,(dSt s5.mem s5.next).next,s.lim,_,_,s.cx⟩:St)=sF
 have mF:sF.mem=s5.mem:=by rw[<-hsF];rfl
 have nF:sF.next=s5.next:=by rw[<-hsF];rfl
 have nn:s4.next<=s5.next:=hA.ext.nxt
 have xF:Ext Any (λx=>col x<1000) s sF:=by
  rw[<-hsF]
  refine aL (s:=s) (by show s.next<=s5.next;omega) (λx hx hg=> ?_) ?_ λ_ _ _ _ _=>trivial
  ·have h5:=hA.ext.mem x (by show x<s4.next;omega) hg
   have h4:=x4.mem x (by show x<s3.next;omega) id
   have h3:=x3.mem x (by show x<s2.next;omega) id
   have h2:=x2.mem x (by show x<s1.next;omega) id
   have h1:=x1.mem x hx id
   exact h5.trans (h4.trans (h3.trans (h2.trans h1)))
  ·simp only[List.mem_cons,List.not_mem_nil,or_false]
   rintro l (rfl|rfl|rfl|rfl|rfl|rfl|rfl|rfl|rfl|rfl|rfl|rfl|rfl|rfl|rfl|rfl) x hx hl<;>first|(cases hx;done)|exact(hw9 x hx).2
 exact q _ _ _ sF w (by omega) rfl (λi hi=>by simp[T.get_set];omega) (by simp[T.get_set]) ⟨col5,K5,⟨hA.inv.same mF nF,λx hx=>hA.agree x (by show x<s4.next;omega),xF⟩,hR1⟩
end
theorem Lz_ (D:Nat):E2 envS 68 [(0, .pointer (some ⟨D,0,none⟩))]=some [.pointer (some ⟨D,0,none⟩), .string ⟨#[]⟩, .int .i64 0, .int .i64 0, .bool false]:=by kernel_rfl
theorem Jp_:FT envS 26=some [.pointer none]:=by kernel_rfl
def Dl_ (D M:Nat)(K:DkS)(m c:Nat):Prop:= ∀(n:Nat) (s0:St) (col0:Nat->Nat) (Q0:Value->St->Prop),s0.lim<=s0.next->DkI s0 col0 D M K->30000<=n->(∀s1 v b,s0.next<=b->MkS s1 1 c (numV m c) v b->Ext Any Non s0 s1->Q0 v s1)->W (Ab envS (runF envS n) 38 [.pointer (some ⟨D,0,none⟩)]) s0 Q0
section
variable {n D M m:Nat}{s:St}{K:DkS}{col:Nat->Nat}{L:LsJ}{u:Bool}{Q:Value->St->Prop}
theorem Ro (hb:s.lim<=s.next)(hI:DkI s col D M K)(hF:FJ m K.fs L)(hL:LsOk L)(hm0:L=[]->m=1)(hm1:1<=m)(hm:m+L.length<=39)(hz:K.used<=800000)(hr:K.room=1048576)(ho:K.out=false)(hu:K.fused=u)(hn:500000<=n)(hf:Dl_ D M K m L.length)
  (qf:u=true-> ∀s1 col' k',(∀x,x<s.next->1000<=col x->col' x=col x)->Ext Any (λx=>col x<1000) s s1->DkI s1 col' D M k'->k'.room=1048576->k'.out=true->OutJ m L (maxA 1 0 L) (maxA 2 0 L) k'.fs->Q (.tuple #[.pointer none, .int .i64 10]) s1)
  (q: ∀s1 col' J k' g,(∀x,x<s.next->1000<=col x->col' x=col x)->Ext Any (λx=>col x<1000) s s1->s.next<=J->JrI s1 col' D M J (nmJ (m+L.length)) [(1,maxA 1 0 L),(2,maxA 2 0 L)] (maxA 1 0 L) (maxA 2 0 L) u k' g->Q (.tuple #[.pointer (some ⟨J,0,none⟩), .int .i64 0]) s1):
  W (Ab envS (runF envS n) 13 [.pointer (some ⟨D,0,none⟩)]) s Q:=by
 have hb0:(s.cxN cxN).lim<=(s.cxN cxN).next:=hb
 have hfl:K.fs.length<=40:=by rw[hF.len];omega
 have hI0:DkI (s.cxN cxN) (Av col s.next 1000) D M K:=(hI.col λx hx=>AG hx).same rfl rfl
 have hn0: ∀x,s.next<=x->Av col s.next 1000 x=1000:=λx hx=>Ch hx
 have hag0: ∀x,x<s.next->Av col s.next 1000 x=col x:=λx hx=>AG hx
 generalize hcol:Av col s.next 1000=colp at *
 refine Ug_ λtm t0=> ?_
 refine MM_.u ?_
 simp only[Bf_,RR,SS]
 refine Za_.u ?_
 simp only[Bg_,RR,SS,reduceCtorEq, ↓reduceIte,t0]
 refine Wv (a:=⟨#[]⟩) hb0 hI0 (by omega) (by omega) (by omega) (λh=>by rw[ho]at h;cases h) (λ_ _ s1 x1=> ?_) λ_ j h=>by rw[hF.lookE (by omega)]at h;cases h
 have hI1:=hI0.ext0 x1 (by omega)
 rw[AP (k:=0) rfl]
 rw[AP (k:=1) rfl]
 refine AaI_.u ?_
 simp only[EA_,RR,SS, ↓reduceIte,A0]
 refine aH UZ_ ?_
 refine JV_.u ?_
 simp only[EF_,RR,SS,reduceCtorEq, ↓reduceIte,t0,Ek (Lz_ D)]
 refine W.box λs2 n2 x2 o2=> ?_
 rw[E9]at n2 o2
 have n2':s2.next=s1.next+6:=n2
 have y2:=x1.on x2 hb0 λ_ _ h=>h
 have hI2:=hI1.ext0 x2 (by omega)
 refine W.alloc Jp_ λs3 n3 x3 o3=> ?_
 have n3':s3.next=s2.next+2:=n3
 have y3:=y2.on x3 hb0 λ_ _ h=>h
 have hI3:=hI2.ext0 x3 (by omega)
 refine aG Fw rfl (o3 0 _ rfl) λs4 n4 x4 o4=> ?_
 have hJn:s.next<=s1.next:=x1.nxt
 have hG4: ∀y,In s2.next 0 1 y->y=s2.next:=λy g=>by have h1:=g.1;have h2:=g.2;omega
 have y4:Ext Any Non (s.cxN cxN) s4:=y3.on x4 hb0 λy hy g=>by have:=hG4 y g;have hy:y<s.next:=hy;omega
 have hI4:=hI3.ext x4 (by omega) λy hy g=>by rw[hn0 y (by have:=hG4 y g;omega)];exact Nat.le_refl _
 have oj: ∀i u,Own s2 s1.next i u->Own s4 s1.next i u:=λi u h=>(h.ext0 x3).ext x4 λg=>by have:=hG4 _ g;have:=h.1;omega
 have hJ4:JnI s4 s1.next D ⟨⟨#[]⟩,0,0,false⟩:=⟨oj 0 _ (o2 0 _ rfl),oj 1 _ (o2 1 _ rfl),oj 2 _ (o2 2 _ rfl),oj 3 _ (o2 3 _ rfl),oj 4 _ (o2 4 _ rfl)⟩
 refine MO_.u ?_
 simp only[ZS,RR,SS,reduceCtorEq, ↓reduceIte,t0]
 refine hf _ s4 colp _ (y4.bnd hb0) hI4 (by omega) λs5 v b0 hb5 mk5 x5=> ?_
 have y5:=y4.on x5 hb0 λ_ _ h=>h
 have hI5:=hI4.ext0 x5 (by omega)
 have hJ5:=hJ4.ext0 x5
 have oX5:=o4.ext0 x5
 refine AaW_.u ?_
 simp only[SX,RR,SS]
 refine WA_.u ?_
 simp only[Gy_,RR,SS,Nat.reduceEqDiff, ↓reduceIte,MkS.len mk5 CF]
 have n5:s4.next<=s5.next:=x5.nxt
 have hc1: ∀x,s.next<=x->1000<=colp x:=λx hx=>by rw[hn0 x hx];exact Nat.le_refl _
 have hO5:OpR s5 colp D M s2.next s1.next K m L.length v b0 [] ⟨⟨#[]⟩,0,0,false⟩:=
  ⟨hI5,by omega,hJ5,λx h1 _=>hc1 x (by omega),oX5,⟨.inr (by omega),hc1 _ (by omega)⟩,mk5,λx hx=>by
   have h1:b0+0<=x:=hx.2.1
   exact⟨.inr (by omega),hc1 _ (by omega)⟩,λd hd=>(by cases hd),List.nodup_nil⟩
 have hcx5:s5.cx=cxN:=y5.cx
 refine AcU_ (s0:=s) (X:=s2.next) (J:=s1.next) (b0:=b0) (L:=L) (v:=v) hb hn0 hJn hL hm1 hm hF hz ho (λn6 tm6 td6 s6 ds a b hn6 hT6 hds hds6 hcx6 hx6 hO6 ea eb g0 g6 g7 g8=> ?_) L.length 0 _ _ _ s5 [] 0 0 (by omega) (by omega) rfl rfl (λd hd=>by cases hd) hcx5 (y5.cxs cxN) hO5 ⟨by decide,by decide⟩ rfl rfl (by simp[T.get_set,t0]) (by simp[T.get_set]) (by simp[T.get_set]) (by simp[T.get_set]) (by simp[T.get_set]) (by simp[T.get_set]) (by simp[T.get_set])
 have hal:a<256:=by rw[ea];exact O9 hL (by decide)
 have hbl:b<256:=by rw[eb];exact O9 hL (by decide)
 rw[<-ea,<-eb]at qf q
 clear ea eb
 have hb6:s6.lim<=s6.next:=hx6.bnd hb
 have hs6:s.next<=s6.next:=hx6.nxt
 have hJ6:s1.next+4<s6.next:=hO6.jn.o4.1
 have g8:T.get tm6 8=some (.int .i64 (m+L.length:Nat)):=by
  rw[g8]
  cases L with
  |nil=>rw[hm0 rfl];rfl
  |cons p L=>rfl
 refine Abt_ hb6 (by omega) hm hT6 (by omega) hO6 g6 g8 λn7 td7 tm7 s7 hn7 hT7 ht7 x7 hO7=> ?_
 have hx7:Ext Any Non (s.cxN cxN) (s7.cxN cxN):=hx6.on (x7.cxs cxN) hb λy hy g=>by have hy:y<s.next:=hy;omega
 have hs7:s.next<=s7.next:=hx7.nxt
 refine QO_ (s0:=s) (hx7.bnd hb) hs7 hn0 hm hT7 (by omega) hal hbl hz hr ho hO7 (by rw[ht7 6 (by decide)];exact g6) λn8 td8 tm8 s8 w hn8 hT8 ht8 hw8 hR8=> ?_
 obtain⟨col8,K8,hA,hr8,hu8,hf8,hz8,hR8⟩:=hR8
 have hcx8:s8.cx= .cx none (some (ds.map Bh)):=hA.ext.cx.trans (x7.cx.trans hcx6)
 have hno:Az K.fs (nmJ (m+L.length))=none:=by rw[hF.look (by omega) (by omega),if_neg (by omega)]
 have hO8:OpR s8 col8 D M s2.next s1.next K8 m L.length v b0 ds ⟨nmJ (m+L.length),a,b,false⟩:=hO7.recol hA.ext hA.inv (λx h1 _=>hA.agree x h1) (by omega)
 have hag8: ∀x,x<s.next->1000<=colp x->col8 x=colp x:=λx h1 _=>hA.agree x (by omega)
 have hx8:Ext Any (λx=>x<s.next/\colp x<1000) (s.cxN cxN) (s8.cxN cxN):=(hx7.gw hb λ_ _ g=>g.elim).on (hA.ext.cxs cxN) hb λx hx g=>⟨hx,g⟩
 have tt: ∀i,i≠15->i≠68->T.get tm8 i=T.get tm6 i:=λi h1 h2=>(ht8 i h1).trans (ht7 i h2)
 have hagc: ∀{c':Nat->Nat},(∀x,x<s.next->1000<=colp x->c' x=colp x)-> ∀x,x<s.next->1000<=col x->c' x=col x:=λh x h1 h2=>by rw[h x h1 (by rw[hag0 x h1];exact h2),hag0 x h1]
 have hxc: ∀{s':St},Ext Any (λx=>x<s.next/\colp x<1000) (s.cxN cxN) s'->Ext Any (λx=>col x<1000) s (s'.cxN s.cx):=λh=>(h.gw hb0 λx hx g=>by rw[<-hag0 x hx];exact g.2).cx'
 have qf':u=true-> ∀s1 col' k',(∀x,x<s.next->1000<=colp x->col' x=colp x)->Ext Any (λx=>x<s.next/\colp x<1000) (s.cxN cxN) s1->DkI s1 col' D M k'->k'.room=1048576->k'.out=true->OutJ m L a b k'.fs->Q (.tuple #[.pointer none, .int .i64 10]) (s1.cxN s.cx):=λhu' s1 col' k' h1 h2 h3 h4 h5 h6=>qf hu' _ col' k' (hagc h1) (hxc h2) (h3.same rfl rfl) h4 h5 h6
 refine UY_.u ?_ hT8
 rcases hR8 with⟨rfl,ho8,hL8⟩|⟨rfl,hu9,ho8,hL8⟩
 ·simp only[Nh,RR,SS,AL,hw8]
  refine aH WX ?_
  refine JW_.u ?_
  simp only[Ve,RR,SS,Nat.reduceEqDiff, ↓reduceIte,tt 7 (by decide) (by decide),g7,MkS.len hO8.mks CF]
  obtain⟨g,hg,hfs⟩:=hL8.2 hno
  refine Tq_ (s0:=s) (col0:=colp) (u:=u) hb hJn hds6 (by rw[hds];omega) hm1 hm (λhu' s1 col' k' h1 h2 h3 h4 h5 h6=>qf' hu' s1 col' k' h1 h2 h3 h4 h5 h6) (λs1 col' k' g h1 h2 h3=>q _ col' _ k' g (hagc h1) (hxc h2) hJn ⟨h3.dk.same rfl rfl,h3.fs,h3.room,h3.fu,h3.ou,h3.safe,h3.jn.same rfl rfl,h3.jc⟩) L 0 _ _ _ s8 col8 K8 K.fs g rfl (by omega) (by omega) rfl hfs hF hg ho8 (hu8.trans hu) (hr8.trans hr) hO8 hcx8 hag8 hx8 (by simp[T.get_set,tt 0 (by decide) (by decide),g0]) (by simp[T.get_set,tt 6 (by decide) (by decide),g6]) (by simp[T.get_set]) (by simp[T.get_set]) (by simp[T.get_set])
 ·simp only[Nh,RR,SS,AL,hw8]
  refine aK WX ?_
  refine VB_.u ?_
  simp only[DK_,RR,SS,Nat.reduceEqDiff, ↓reduceIte,hw8]
  refine OJ (P:=Lj) hb hx8 (λd hd=>⟨(hO8.ob d hd).1,hds6 d hd⟩) hO8.nd hcx8 rfl Rs_ (by omega) (x:= .pointer none) (y:= .int .i64 10) (by simp[T.get_set]) (by simp[T.get_set]) λs9 x9 n9 y9=> ?_
  refine qf' (hu ▸ hu9) s9 col8 K8 hag8 y9 ((hO8.dk.same (s':=s8.cxN cxN) rfl rfl).ext x9 (by omega) λy _ g=>(hO8.ob y g).2.2) (hr8.trans hr) ho8 ?_
  rcases hL8 with h|h
  ·rw[h]
   exact .inl hF
  ·obtain⟨g,g1,g2,g3,g4⟩:=h.2 hno
   exact .inr (.inl ⟨K.fs,g,g4,hF,g1,g2,g3⟩)
