import Derived.Test.YtndednnianphoaaGreatDoorJo24
noncomputable section
namespace Go.Proofs.YtndednnianphoaaGreatDoor.Am
open Go.RowKit
section
variable {E:Env}{s:St}{t:Nat}{xo yo:Operand}
theorem RW_ (m n:Nat)(hn:1<=n):Cl.get (aBin E .rem t xo yo) (.int .i64 (.negSucc m)) (.int .i64 (n:Nat)) s= .some (.int .i64 ((Int.negSucc m).tmod (n:Nat))) s:=by
 show AS E .rem t xo yo (.int .i64 (.negSucc m)) (.int .i64 (n:Nat)) s=_
 show M.on (semP E.P (do eqGuard .rem t xo yo (.int .i64 (.negSucc m)) (.int .i64 (n:Nat));binOp .rem t (.int .i64 (.negSucc m)) (.int .i64 (n:Nat)))) pV s=_
 have e:semP E.P (do eqGuard .rem t xo yo (.int .i64 (.negSucc m)) (.int .i64 (n:Nat));binOp .rem t (.int .i64 (.negSucc m)) (.int .i64 (n:Nat)))=some (.int .i64 ((Int.negSucc m).tmod (n:Nat))):=by
  show semP E.P (Op.intDiv .rem .i64 (.negSucc m) (n:Nat))=_
  unfold Op.intDiv
  rw[if_neg (by omega)]
  rfl
 rw[e]
 generalize (Int.negSucc m).tmod (n:Nat)=y
 have hp: ∀y:Int,pV (.int .i64 y) s= .some (.int .i64 y) s:=λy=>by
  cases y with
  |ofNat k=>first|rfl|(cases k<;>rfl)
  |negSucc k=>first|rfl|(cases k<;>rfl)
 exact hp y
theorem Rk_ {x:Int}{n:Nat}(hn:1<=n)(Q:Value->St->Prop):W (Cl.get (aBin E .rem t xo yo) (.int .i64 x) (.int .i64 (n:Nat))) s Q=Q (.int .i64 (x.tmod (n:Nat))) s:=by
 cases x with
 |ofNat m=>exact AJ (Ox_ m n hn xo yo)
 |negSucc m=>exact AJ (RW_ m n hn)
end
section
variable {n D M J:Nat}{s:St}{col:Nat->Nat}{va vm:Value}{l:List Bool}
end
section
variable {D M:Nat}{vm:Value}{a b:Nat}{many:Int}
end
open Go.RowKit Go.ChangeShapes Go.WideShapes
section
attribute [local irreducible] Ax
end
structure NmsTo (l l':List ByteArray):Prop where
 dist:EJ (l.map (·.data.toList))=true
 short:EA (l.map (·.data.toList)) 1000000=true
 sort:Ey (l.map (·.data.toList))=l'.map (·.data.toList)
 len:l.length<=300
 len':l'.length=l.length
section
variable {n P:Nat}{s:St}{a p:ByteArray}{Q:Value->St->Prop}
theorem W.sortedP {Q:Value->St->Prop}{l b m:Nat}{fs:List FileS}(hb:s.lim<=s.next)(h0:Own s b 0 (.map (some l)))(ho:Obj s l (.map (fs.map FileS.ent) m))(hbo:Bi (fs.map FileS.ent) 0 m=true){l':List ByteArray}(hN:NmsTo (fs.map FileS.name) l')(q: ∀s1 v,MkS s1 1 fs.length (l'.map Value.string) v s.next->Ext Any Non s s1->Q v s1):W (sortedM 69 [.func (.func 69) #[] #[.chan (some b)]]) s Q:=by
 show W (M.chk (Nat.beq 72 72&&(#[]:Array Value).isEmpty) (M.bind (Am.rdV ⟨b,0,none⟩) λx=>match x with
   | .map (some l)=>M.bind (Am.mapAt l) sortKs
   |_=>aA)) s Q
 refine W.chk (by decide) (W.bind (W.rdV h0.at' ?_))
 have ho1:Obj (s.rdN (b+0)) l (.map (fs.map FileS.ent) m):=ho.same rfl rfl
 refine W.bind (W.bind (W.rdC ho1.2 ho1.1 (W.pure ?_)))
 show W (M.on (Fp (fs.map FileS.ent)) λks=>M.chk (Bi (fs.map FileS.ent) 0 m&&EJ ks&&EA ks 1000000&&Nat.ble ks.length 1000000) (Am.rowM ((Ey ks).map encStr))) ((s.rdN (b+0)).rdN l) Q
 refine W.on (ZV fs) (W.chk ?_ ?_)
 ·have hl:=hN.len
  rw[hbo,hN.dist,hN.short,Nat.ble_eq_true_of_le (show((fs.map FileS.name).map (·.data.toList)).length<=1000000 by simp at hl ⊢;omega)]
  rfl
 ·rw[hN.sort,MG_]
  have y:=((Ext.refl (F:=Any) (G:=Non) s).thenRd hb (b+0)).thenRd hb l
  have hl:=hN.len
  refine W.rowM (s:=(s.rdN (b+0)).rdN l) hb (Nat.lt_of_le_of_lt (show _<=1000000 by have hl2:=hN.len';simp at hl hl2 ⊢;omega) (by decide)) λs1 v mk x1=> ?_
  refine q s1 v ?_ (y.on x1 hb λ_ _ h=>h)
  rw[show(l'.map Value.string).length=fs.length by have:=hN.len';simpa using this]at mk
  exact mk
theorem HY_ {D M:Nat}{k:DkS}{col:Nat->Nat}(hb:s.lim<=s.next)(hI:DkI s col D M k){l':List ByteArray}(hN:NmsTo (k.fs.map FileS.name) l')(hp: ∀a∈l',HasP a p)(hn:10*k.fs.length+500<=n)(q: ∀s1 v b,s.next<=b->NmR s1 v l' b->Ext Any Non s s1->Q v s1):W (Ab envS (runF envS n) 18 [.pointer (some ⟨D,0,none⟩), .string p]) s Q:=by
 have hb0:(s.cxN cxN).lim<=(s.cxN cxN).next:=hb
 have hI0:DkI (s.cxN cxN) col D M k:=hI.same rfl rfl
 have hlen:k.fs.length<=300:=by have:=hN.len;simpa using this
 refine Lt_ λtm t0 t1=> ?_
 refine Xi_.u ?_
 simp only[T7,RR,SS,t1]
 refine W.box λs1 n1 x1 o1=> ?_
 have ea:(s.cxN cxN).next=s.next:=rfl
 rw[Dt (show oneCell (.string p)=true from rfl)]at n1 o1
 rw[ea]at o1 n1 ⊢
 have n1':s1.next=s.next+2:=n1
 have y1:Ext Any Non (s.cxN cxN) s1:=x1.weak hb0 (λ_ _ _=>trivial) λ_ _ h=>h
 have hI1:=hI0.ext0 x1 hlen
 have oP:Own s1 s.next 0 (.string p):=o1 0 _ rfl
 refine QB_.u ?_
 simp only[Dw_,RR,SS,reduceCtorEq, ↓reduceIte,t0]
 refine GM (y1.bnd hb0) hI1.d0 (by omega) λs2 m2 n2 x2=> ?_
 have y2:=y1.on x2 hb0 λ_ _ h=>h
 have hI2:=hI1.same m2 n2
 have oP2:=oP.same m2 n2
 refine aH AaF_ ?_
 refine Jn_.u ?_
 simp only[VY,RR,SS,reduceCtorEq, ↓reduceIte,t0,Ai DD (by decide)]
 refine aB DM hI2.d1.at' ?_
 have y3:=y2.thenRd hb0 (D+(0+1))
 have hI3:DkI (s2.rdN (D+(0+1))) col D M k:=hI2.same rfl rfl
 have oP3:Own (s2.rdN (D+(0+1))) s.next 0 (.string p):=oP2.same rfl rfl
 have n3:(s2.rdN (D+(0+1))).next=s.next+2:=n2.trans n1'
 generalize s2.rdN (D+(0+1))=s3 at *
 refine W.orc Sd_ (W.keysQ λs4 n4 x4 o4=> ?_)
 have y4:=y3.on x4 hb0 λ_ _ h=>h
 have hI4:=hI3.ext0 x4 hlen
 have oP4:=oP3.ext0 x4
 rw[n3]at o4 n4 ⊢
 refine W.orc AaK_ (W.sortedP (y4.bnd hb0) o4 hI4.om hI4.bo hN λs5 v mk x5=> ?_)
 have y5:=y4.on x5 hb0 λ_ _ h=>h
 have oP5:=oP4.ext0 x5
 refine TM_.u ?_
 simp only[Rv,RR,SS,Nat.reduceEqDiff, ↓reduceIte]
 have hll:l'.length=k.fs.length:=by have:=hN.len';simpa using this
 have hr:NmR s5 v l' s4.next:=by
  unfold NmR
  rw[hll]
  exact mk
 refine AcK_ (P:=s.next) (y5.bnd hb0) (by omega) hr hp oP5 (by omega) λs6 m6 n6 x6=> ?_
 have y6:=y5.on x6 hb0 λ_ _ h=>h
 refine aC (rs:=[4]) (vs:=[v]) rfl (.inl OT_) (by omega) EV_ VJ_ y6.cx (by simp[T.get_set]) ?_
 exact q _ v s4.next (by omega) (MkS.same (MkS.same hr m6 n6) rfl rfl) y6.cx'
end
def AE (m c:Nat):List Nat:=[1,10,11,12,13,14,2,3,4,5,6,7,8,9].filter λk=>decide (m<=k)&&decide (k<m+c)
theorem Mr_:((List.range 14).map λm=>(List.range 13).map λc=>EJ (((List.range' (m+1) (min c (14-m))).map nmJ).map (·.data.toList)))=(List.range 14).map λ_=>(List.range 13).map λ_=>true:=by kernel_rfl
theorem Adh_:((List.range 14).map λm=>(List.range 13).map λc=>EA (((List.range' (m+1) (min c (14-m))).map nmJ).map (·.data.toList)) 1000000)=(List.range 14).map λ_=>(List.range 13).map λ_=>true:=by kernel_rfl
theorem Kp_:((List.range 14).map λm=>(List.range 13).map λc=>Ey (((List.range' (m+1) (min c (14-m))).map nmJ).map (·.data.toList)))=(List.range 14).map λm=>(List.range 13).map λc=>((AE (m+1) (min c (14-m))).map nmJ).map (·.data.toList):=by kernel_rfl
theorem MS_:((List.range 14).map λm=>(List.range 13).map λc=>(AE (m+1) (min c (14-m))).length)=(List.range 14).map λm=>(List.range 13).map λc=>min c (14-m):=by kernel_rfl
theorem NO {m c:Nat}(h1:1<=m)(h2:m+c<=15)(h3:c<=12):NmsTo ((List.range' m c).map nmJ) ((AE m c).map nmJ):=by
 obtain⟨k,rfl⟩: ∃k,m=k+1:=⟨m-1,by omega⟩
 rcases Nat.lt_or_ge k 14 with hk|hk
 ·have e:min c (14-k)=c:=by omega
  have g1:=BF (BF Mr_ hk) (show c<13 by omega)
  have g2:=BF (BF Adh_ hk) (show c<13 by omega)
  have g3:=BF (BF Kp_ hk) (show c<13 by omega)
  have g4:=BF (BF MS_ hk) (show c<13 by omega)
  simp only[e]at g1 g2 g3 g4
  exact⟨g1,g2,g3,by simp;omega,by simp[g4]⟩
 ·have e:c=0:=by omega
  subst e
  have:AE (k+1) 0=[]:=by
   unfold AE
   apply List.filter_eq_nil_iff.2
   intro x _
   simp
  rw[this]
  exact⟨rfl,rfl,rfl,by simp,rfl⟩
theorem IV {m c k:Nat}(h:k∈AE m c):m<=k/\k<m+c:=by
 unfold AE at h
 have:=(List.mem_filter.1 h).2
 simp at this
 exact this
theorem Vo_ (m c:Nat):(AE m c).Nodup:=List.Pairwise.filter _ (show List.Nodup [1,10,11,12,13,14,2,3,4,5,6,7,8,9]from by decide)
theorem ND {m c:Nat}(h1:1<=m)(h2:m+c<=15)(h3:c<=12):(AE m c).length=c:=by
 have:=(NO h1 h2 h3).len'
 simpa using this
theorem MkS.pre {s:St}{m:List Nat}{v:Value}{b kk:Nat}(h:MkS s 1 m.length (u8l m) v b)(hk:kk<=m.length)(hz:m.length<capU): ∃v',(∀(s':St) (Q:Value->St->Prop),W (Bz envS 23 v none (some (.int .i64 (kk:Nat)))) s' Q=Q v' s')/\Bs s v' (m.take kk)/\ ∀x,BsF v' x->MkF 1 m.length b x:=by
 rcases h with⟨rfl,h0,_⟩|⟨h,h0⟩
 ·have hm:m=[]:=List.eq_nil_of_length_eq_zero h0
  subst hm
  have:kk=0:=by simpa using hk
  subst this
  exact⟨.slice none 0 0,λs' Q=>TL (lo:=none) (hi:=some (.int .i64 ((0:Nat):Int))) Bk rfl rfl Q, .inl ⟨rfl,rfl⟩,λx hx=>hx.elim⟩
 ·have e:=h.val
  have hc:(capU*((b+m.length*1)*1024+1)+m.length)%capU=m.length:=HP hz
  have hok:BH (capU*((b+m.length*1)*1024+1)+m.length) 1=true:=FX hz (by decide)
  generalize capU*((b+m.length*1)*1024+1)+m.length=C at *
  obtain⟨o',e1,e2,e3,e4,e5⟩:=Bs.sub' (b:=b) (o:=0) (c:=C) (i:=0) (j:=kk) (l:=m) (Nat.zero_le _) hk (by omega) hok (λi u hu=>(h.own i u hu).at')
  rw[List.drop_zero]at e1 e2 e4 e5
  refine⟨_,λs' Q=> ?_, .inr ⟨b,o',C-0,e1,e2,e3,e4⟩,λx hx=> ?_⟩
  ·rw[e]
   exact NH (l:=0) (h:=kk) (lo:=none) (hi:=some (.int .i64 (kk:Nat))) Bk rfl rfl (Nat.zero_le _) (by omega) hok Q
  ·rw[e1]at hx
   have h1:b+o'<=x:=hx.1
   have h2:x<b+o'+(m.take kk).length:=hx.2
   rw[List.length_take]at h2
   refine⟨h0,by omega, ?_⟩
   rcases e5 with e5|e5
   ·omega
   ·rw[List.length_take]at e5
    omega
section
variable {n D M j kk:Nat}{s:St}{k:DkS}{col:Nat->Nat}{tm:T Value}{td:List Item}{Q:Value×FrameMode->St->Prop}
theorem Aak_ (hb0:s.lim<=s.next)(hI0:DkI s col D M k)(hj:j<k.fs.length)(t7:T.get tm 7=some (.pointer (some ⟨k.fs[j].blk,0,none⟩)))(t8:T.get tm 8=some (.int .i64 (kk:Nat)))(hkk:kk<=k.fs[j].lb.length)(hused:k.fs[j].sb.length+k.fs[j].lb.length<=1000000)(hlen:k.fs.length<=300)(hT:skim 64 td=GW)(hn:20<=n)
  (q: ∀td' s1 v b,skim 64 td'=Nc->DkI s1 (Av col s.next (2+3*j+1)) D M {k with fs:=k.fs.set j (k.fs[j].kept v b (k.fs[j].sb++k.fs[j].lb.take kk))}->Ext Any (λx=>col x<1000) s s1->W (runF envS (n-1) ⟨29,Hb,BB,tm,td', .run, .normal,none⟩) s1 Q):
  W (runF envS n ⟨29,Hb,BB,tm,td, .run, .normal,none⟩) s Q:=by
 have g:=hI0.fl j hj
 have k0:=g.k k.fs[j].blk (Nat.le_refl _) (by omega)
 have k1:=g.k (k.fs[j].blk+1) (by omega) (by omega)
 obtain⟨lv',hsl,hbl,hbf⟩:=g.ml.pre hkk (Nat.lt_of_le_of_lt (show _<=1000000 by omega) (by decide))
 have hkl:(k.fs[j].lb.take kk).length<=k.fs[j].lb.length:=by rw[List.length_take];omega
 refine Aax_.u ?_ hT
 simp only[Sd,RR,t7,t8,Af,A6]
 rw[W_dq λs Q=>Bu (s:=s) _ Q]
 dsimp only
 try simp only[Af]
 rw[W_dq λs Q=>Ai (s:=s) HZ (by decide) Q]
 dsimp only
 try simp only[Af]
 refine aE B9 ((g.o0.same (s':=dSt s.mem s.next) rfl rfl).at') λrd5 hr5=> ?_
 try simp only[Af,A6]
 rw[W_dq λs Q=>Bu (s:=s) _ Q]
 dsimp only
 try simp only[Af]
 rw[W_dq λs Q=>Ai (s:=s) D2 (by decide) Q]
 dsimp only
 try simp only[Af]
 refine aE B9 ((g.o1.same (s':=dSt s.mem s.next) rfl rfl).at') λrd9 hr9=> ?_
 try simp only[Af,A6,C6,BQ]
 rw[W_dq λs Q=>hsl s Q]
 dsimp only
 try simp only[Af,B2,Cb,BQ]
 refine bA ?_
 rw[Oq]
 refine W.appV (s:=oSt s.mem s.next) (Nat.le_refl _) PP (g.ms.same rfl rfl) (hbl.same (s':=oSt s.mem s.next) rfl rfl).src.g (by decide) (by decide) (by omega) (by rw[BU,Nat.mul_one]) (FO _) λs2 v2 b2 hb2 mk2 x2=>⟨_,_,x2,λrd10 wr10 hr10 hw10=> ?_⟩
 have n2:s.next<=s2.next:=x2.nxt
 try simp only[Af]
 rw[W_dq λs Q=>Bu (s:=s) _ Q]
 dsimp only
 try simp only[Af]
 rw[W_dq λs Q=>Ai (s:=s) HZ (by decide) Q]
 dsimp only
 try simp only[Af]
 refine bA ?_
 have o0:Own (oSt s2.mem s2.next) k.fs[j].blk 0 k.fs[j].sv:=((g.o0.same (s':=oSt s.mem s.next) rfl rfl).ext x2 λh=>by have h1:=g.ks _ h;rw[Nat.add_zero,k0]at h1;omega).same rfl rfl
 have o1:Own (oSt s2.mem s2.next) k.fs[j].blk 1 k.fs[j].lv:=((g.o1.same (s':=oSt s.mem s.next) rfl rfl).ext x2 λh=>by have h1:=g.ks _ h;rw[k1]at h1;omega).same rfl rfl
 refine aG B9 mk2.one o0 λs3 n3 x3 o3=>⟨_,_,x3,λrd13 wr13 hr13 hw13=> ?_⟩
 have n3':s3.next=s2.next:=n3
 try simp only[Af]
 rw[W_dq λs Q=>Bu (s:=s) _ Q]
 dsimp only
 try simp only[Af]
 rw[W_dq λs Q=>Ai (s:=s) D2 (by decide) Q,AY]
 refine⟨C7 ?_, ?_⟩
 ·simp only[List.reverse_cons,List.reverse_nil,List.nil_append,List.cons_append,allP,B6,List.take,Cz]
  have lts: ∀x,s.next<=x-> ¬x<s.next:=λx h=>by omega
  simp+contextual [lts]
  repeat' first
   |exact .inl rfl
   |apply And.intro
 ·refine W.cast (Aar_ _ _ _ _ _ _ _ _ _ _ _ _ _ _ _ _ _ _ _ _ _ _) ?_
  simp only[SS,Nat.reduceEqDiff,reduceCtorEq, ↓reduceIte]
  generalize hs':(⟨(dSt s3.mem s3.next).mem,(dSt s3.mem s3.next).next,s.lim,_,_,s.cx⟩:St)=s7
  have m7:s7.mem=s3.mem:=by rw[<-hs'];rfl
  have n7:s7.next=s3.next:=by rw[<-hs'];rfl
  have x7:Ext Any (λx=>x=k.fs[j].blk\/x=k.fs[j].blk+1\/MkF 1 k.fs[j].sb.length k.fs[j].sbk x) s s7:=by
   rw[<-hs']
   refine aL (by show s.next<=s3.next;omega) (λx hx hg=> ?_) ?_ λ_ _ _ _ _=>trivial
   ·have e1:T.get s3.mem x=T.get s2.mem x:=x3.mem x (by show x<s2.next;omega) λh=>hg (.inl (by have h1:=h.1;have h2:=h.2;omega))
    exact e1.trans (x2.mem x hx λh=>hg (.inr (.inr h)))
   ·simp only[List.mem_cons,List.not_mem_nil,or_false]
    rintro m (rfl|rfl|rfl|rfl|rfl|rfl|rfl|rfl|rfl|rfl|rfl|rfl|rfl|rfl|rfl|rfl|rfl|rfl) x hx hxl<;>first|(cases hx;done)|exact .inr (.inr (hw10 x hx).2)|exact .inl (by have h4:=(hw13 x hx).2;have h1:=h4.1;have h2:=h4.2;omega)
  have o17:Own s7 k.fs[j].blk 1 k.fs[j].lv:=(o1.ext x3 λh=>by have h1:=h.1;have h2:=h.2;omega).same m7 n7
  refine aG B9 rfl o17 λs8 n8 x8 o8=> ?_
  have y8:Ext Any (λx=>x=k.fs[j].blk\/x=k.fs[j].blk+1\/MkF 1 k.fs[j].sb.length k.fs[j].sbk x) s s8:=x7.on x8 hb0 λy _ hq=> .inr (.inl (by have h1:=hq.1;have h2:=hq.2;omega))
  have hnb: ∀x,MkF 1 (k.fs[j].sb.length+(k.fs[j].lb.take kk).length) b2 x->x≠k.fs[j].blk/\x≠k.fs[j].blk+1:=λx hx=>by
   rcases hb2 with h|h
   ·rw[h.1,h.2,Nat.add_zero]at hx
    have h1:=g.ks x hx
    exact⟨λh2=>by rw[h2]at h1;omega,λh2=>by rw[h2]at h1;omega⟩
   ·have h3:=hx.2.1
    have h4:=g.o1.1
    have h6:s.next<=b2:=h
    exact⟨by omega,by omega⟩
  have mk8:MkS s8 1 (k.fs[j].sb++k.fs[j].lb.take kk).length (u8l (k.fs[j].sb++k.fs[j].lb.take kk)) v2 b2:=by
   rw[Px,List.length_append]
   have mk3:=(mk2.same (s':=oSt s2.mem s2.next) rfl rfl).ext x3 λx hx h=>(hnb x hx).1 (by have h1:=h.1;have h2:=h.2;omega)
   exact(mk3.same m7 n7).ext x8 λx hx h=>(hnb x hx).2 (by have h1:=h.1;have h2:=h.2;omega)
  have o08:Own s8 k.fs[j].blk 0 v2:=(Own.same o3 m7 n7).ext x8 λh=>by have h1:=h.1;have h2:=h.2;omega
  have hf:=g.kept y8 o08 o8 mk8 (hb2.imp (λh=>⟨h.1,by rw[List.length_append,h.2,Nat.add_zero]⟩) λh=>h)
  have hD:=hI0.file (col':=Av col s.next (2+3*j+1)) hj y8 (λy hy h=>by
   rcases h with rfl|rfl|h
   ·omega
   ·omega
   ·have:=g.ks y h
    omega) (λy hy=>AG hy) hf (FileS.kept_ent ..)
  refine q _ _ v2 b2 rfl hD (y8.gw hb0 λy hy h=> ?_)
  rcases h with rfl|rfl|h
  ·omega
  ·omega
  ·have:=g.ks y h
   omega
end
def PQ:Nat:=Ar Tryz.f96
def TQ:Code:=Tryz.f96.body.getD .skip
theorem TW:envS.fn.get 96=some Tryz.f96:=by kernel_rfl
theorem SJ_:G2 envS 96 17 PQ TQ:=λh=>
 aI TW (h _ (by kernel_rfl) (by kernel_rfl))
theorem QJ_:Tryz.f96.results.toList=[.tmp 4]:=by kernel_rfl
def GK_:List Item:=skim 64 [.code TQ]
def GX_:=nx GK_
def Co_:=nx GX_
def WD:Rg:=λE call round tm=>
 mv (some (.bool false)) λv4=>
 setF 4 v4 tm λtm1=>
 M.pure tm1
theorem VT_:RegEq 96 17 PQ GK_ WD:={}
def Qv:Rg:=λE call round tm=>
 mv (T.get tm 0) λv5=>
 cN call round 123 [(some v5)] λv6=>
 mv (some v6) λv7=>
 sK v7 true (oS (T.get tm 1) λa=>M.pure a) λv8=>
 sK v7 true (M.on (some (.func (.func 123) #[] #[])) λf=>M.on (seqO [(some v8)]) λl=>Be call round f l) λv9=>
 sK v7 true (oS (some v9) λa=>kUn E.P .not a) λv10=>
 M.bind (M.on (some v7) λa=>M.on (some v10) λb=>M.on (some (.bool false)) λc=>Aw a b c) λv11=>
 mv (some v11) λv12=>
 sK v12 false (oS (T.get tm 0) λa=>M.pure a) λv13=>
 sK v12 false (oS (T.get tm 1) λa=>M.pure a) λv14=>
 sK v12 false (oS (some v13) λa=>oS (some v14) λb=>Cl.get (aBin E .lss 3 (.tmp 13) (.tmp 14)) a b) λv15=>
 M.bind (M.on (some v12) λa=>M.on (some (.bool true)) λb=>M.on (some v15) λc=>Aw a b c) λv16=>
 mv (some v16) λv4=>
 setF 4 v4 tm λtm1=>
 M.pure tm1
theorem OR_:RegEq 96 17 PQ GX_ Qv:={}
theorem Si_: ∃k,Co_= .code .ret::k:=⟨Co_.tail,by kernel_rfl⟩
def O5:Nat:=Ar Tryz.f123
def Gz_:Code:=Tryz.f123.body.getD .skip
theorem Qt:envS.fn.get 123=some Tryz.f123:=by kernel_rfl
theorem OX_:G1 envS 123 6 O5 Gz_:=λh=>
 aI Qt (h _ (by kernel_rfl))
theorem AcR_:Tryz.f123.results.toList=[.tmp 2]:=by kernel_rfl
def XP:List Item:=skim 64 [.code Gz_]
def Yc:=nx XP
def T1:=nx Yc
def UA:Rg:=λE call round tm=>
 mv (some (.bool false)) λv2=>
 setF 2 v2 tm λtm1=>
 M.pure tm1
theorem UX_:RegEq 123 6 O5 XP UA:={}
def FQ_:Rg:=λE call round tm=>
 mv (T.get tm 0) λv3=>
 mv (T.get tm 0) λv4=>
 bI E .neq 3 (.tmp 3) (.tmp 4) (some v3) (some v4) λv5=>
 mv (some v5) λv2=>
 setF 2 v2 tm λtm1=>
 M.pure tm1
theorem Je_:RegEq 123 6 O5 Yc FQ_:={}
theorem IK_: ∃k,T1= .code .ret::k:=⟨T1.tail,by kernel_rfl⟩
section
variable {α:Type}
theorem Iw_ (m:M α):M.chk true m=m:=rfl
theorem if_t (x y:M α):aN true x y=x:=rfl
theorem if_f (x y:M α):aN false x y=y:=rfl
end
def intV (l:List Nat):List Value:=l.map λx:Nat=>Value.int .i64 (x:Nat)
theorem AcS_ (l:List Nat):(intV l).length=l.length:=by simp[intV]
theorem DE_ {l:List Nat}{i:Nat}(h:i<l.length):(intV l)[i]?=some (.int .i64 (l.getD i 0:Nat)):=by
 simp[intV,h]
theorem An.setI {F:Nat->Prop}{s s':St}{b i x:Nat}{l:List Nat}(h:An s b 0 (intV l))(e:Ext F (In b i 1) s s')(k:Own s' b i (.int .i64 (x:Nat))):An s' b 0 (intV (l.set i x)):=λj u hj=>by
 unfold intV at hj
 rw[List.map_set]at hj
 by_cases c:i=j
 ·subst c
  rw[List.getElem?_set_self (by have:=(List.getElem?_eq_some_iff.1 hj).1;simpa using this)]at hj
  cases hj
  rw[Nat.zero_add]
  exact k
 ·rw[List.getElem?_set_ne c]at hj
  exact(h j u hj).ext e λg=>by have h1:=g.1;have h2:=g.2;omega
def Ep:Nat->List Nat->List Nat
 |0,l=>l
 |j+1,l=>if l.getD (j+1) 0<l.getD j 0 then Ep j ((l.set (j+1) (l.getD j 0)).set j (l.getD (j+1) 0))else l
def Ea:Nat->Nat->List Nat->List Nat
 |0,_,l=>l
 |k+1,i,l=>Ea k (i+1) (Ep i l)
theorem MI: ∀(j:Nat) (l:List Nat),(Ep j l).length=l.length
 |0,_=>rfl
 |j+1,l=>by
  unfold Ep
  split
  ·rw[MI,List.length_set,List.length_set]
  ·rfl
theorem ZK: ∀(k i:Nat) (l:List Nat),(Ea k i l).length=l.length
 |0,_,_=>rfl
 |k+1,i,l=>by
  unfold Ea
  rw[ZK,MI]
theorem NA_:((List.range 14).map λm=>(List.range 13).map λc=>Ea (min c (14-m)-1) 1 (AE (m+1) (min c (14-m))))=(List.range 14).map λm=>(List.range 13).map λc=>List.range' (m+1) (min c (14-m)):=by kernel_rfl
theorem OM_ {m c:Nat}(h1:1<=m)(h2:m+c<=15)(h3:c<=12)(h4:m<=14):Ea (c-1) 1 (AE m c)=List.range' m c:=by
 obtain⟨k,rfl⟩: ∃k,m=k+1:=⟨m-1,by omega⟩
 have e:min c (14-k)=c:=by omega
 have g:=BF (BF NA_ (show k<14 by omega)) (show c<13 by omega)
 simp only[e]at g
 exact g
section
variable {n:Nat}{s:St}{Q:Value->St->Prop}
theorem AbO_ {x:Nat}(hn:20<=n)(q:Q (.bool false) s):W (Ab envS (runF envS n) 123 [.int .i64 (x:Nat)]) s Q:=by
 refine OX_ λtm t0=> ?_
 refine UX_.u ?_
 simp only[UA,RR,SS]
 refine Je_.u ?_
 simp only[FQ_,RR,SS,reduceCtorEq, ↓reduceIte,AL,t0,decide_true,Bool.not_true]
 refine aC (rs:=[2]) (vs:=[.bool false]) rfl (.inl IK_) (by omega) Qt AcR_ rfl (by simp[T.get_set]) ?_
 exact q
theorem AaY_ {x y:Nat}(hn:60<=n)(q:Q (.bool (decide (x<y))) s):W (Ab envS (runF envS n) 96 [.int .i64 (x:Nat), .int .i64 (y:Nat)]) s Q:=by
 refine SJ_ λtm t0 t1=> ?_
 refine VT_.u ?_
 simp only[WD,RR,SS]
 refine OR_.u ?_
 simp only[Qv,RR,SS,Nat.reduceEqDiff,reduceCtorEq, ↓reduceIte,t0]
 refine AbO_ (by omega) ?_
 have e:decide (((x:Nat):Int)<((y:Nat):Int))=decide (x<y):=by
  by_cases h:x<y
  ·rw[decide_eq_true h,decide_eq_true (by omega)]
  ·rw[decide_eq_false h,decide_eq_false (by omega)]
 simp only[SS,reduceCtorEq, ↓reduceIte,AC,t1,e]
 refine aC (rs:=[4]) (vs:=[.bool (decide (x<y))]) rfl (.inl Si_) (by omega) TW QJ_ rfl (by simp[T.get_set]) ?_
 exact q
end
section
variable {b c z:Nat}{s0:St}{Q:Value×FrameMode->St->Prop}
theorem IA_ (hb0:s0.lim<=s0.next){i:Nat}:
  ∀(j n:Nat) (tm:T Value) (td:List Item) (s:St) (l:List Nat),20*j+100<=n->skim 64 td=Iy->Ext Any (In b 0 c) s0 s->An s b 0 (intV l)->l.length=c->j<c->c<=12->T.get tm 0=some (.slice (some ⟨b,0,none⟩) c z)->T.get tm 1=some (.int .i64 0)->T.get tm 2=some (.int .i64 (c:Nat))->T.get tm 6=some (.int .i64 (i:Nat))->T.get tm 7=some (.int .i64 (j:Nat))->
   (∀n' tm' td' s',n<=n'+(20*j+20)->skim 64 td'=OQ->Ext Any (In b 0 c) s0 s'->An s' b 0 (intV (Ep j l))->T.get tm' 0=some (.slice (some ⟨b,0,none⟩) c z)->T.get tm' 1=some (.int .i64 0)->T.get tm' 2=some (.int .i64 (c:Nat))->T.get tm' 6=some (.int .i64 (i:Nat))->W (runF envS n' ⟨90,PL,Cr,tm',td', .run, .normal,none⟩) s' Q)->
   W (runF envS n ⟨90,PL,Cr,tm,td, .run, .normal,none⟩) s Q:=by
 intro j
 induction j with
 |zero=>
  intro n tm td s l hn hT hx hr hl hj hc t0 t1 t2 t6 t7 q
  refine Bx_.u ?_ hT
  simp only[NL,RR,t0,t1,t7,Af,A6]
  rw[W_dq λs Q=>Bp (s:=s) _ _]
  have e0:decide (((0:Nat):Int)>0)=false:=rfl
  simp only[e0,A6,CE,Iw_,EB,if_f]
  rw[AY]
  refine⟨Df (by simp) (by simp), ?_⟩
  refine W.cast (Am_ ..) ?_
  simp only[SS,reduceCtorEq, ↓reduceIte]
  generalize hsF:(⟨(dSt s.mem s.next).mem,(dSt s.mem s.next).next,s.lim,_,_,s.cx⟩:St)=sF
  have mF:sF.mem=s.mem:=by rw[<-hsF];rfl
  have nF:sF.next=s.next:=by rw[<-hsF];rfl
  have xF:Ext Any Non s sF:=by
   rw[<-hsF]
   exact Ext.draw (F:=Any) (Nat.le_refl _) (λ_ _=>rfl) (by simp) λ_ _ _ _ _=>trivial
  refine aH MY ?_
  exact q _ _ _ sF (by omega) rfl (hx.on xF hb0 λ_ _ g=>g.elim) (hr.ext0 xF) (by simp[T.get_set,t0]) (by simp[T.get_set,t1]) (by simp[T.get_set,t2]) (by simp[T.get_set,t6])
 |succ j ih=>
  intro n tm td s l hn hT hx hr hl hj hc t0 t1 t2 t6 t7 q
  have hbs:=hx.bnd hb0
  have o1:Own s b (0+(j+1)*1) (.int .i64 (l.getD (j+1) 0:Nat)):=by rw[Nat.mul_one];exact hr (j+1) _ (DE_ (by omega))
  have o2:Own s b (0+j*1) (.int .i64 (l.getD j 0:Nat)):=by rw[Nat.mul_one];exact hr j _ (DE_ (by omega))
  have es:wrap64 (((j+1:Nat):Int)-1)=((j:Nat):Int):=by rw[Bc (by omega) (by omega)];omega
  refine Bx_.u ?_ hT
  simp only[NL,RR,t0,t1,t7,Af,A6]
  rw[W_dq λs Q=>Bp (s:=s) _ _]
  have e0:decide (((j+1:Nat):Int)>0)=true:=decide_eq_true (by omega)
  simp only[e0,A6,CE,Iw_,Ls,if_t]
  rw[W_dq λs Q=>By (s:=s) CF (show j+1<c by omega) Q]
  simp only[Af]
  refine aE Au (o1.same (s':=dSt s.mem s.next) rfl rfl).at' λrd1 hr1=> ?_
  simp only[A6]
  rw[W_dq λs Q=>Bq (s:=s) ((j+1:Nat):Int) 1,es]
  simp only[Af]
  rw[W_dq λs Q=>By (s:=s) CF (show j<c by omega) Q]
  simp only[Af]
  refine aE Au (o2.same (s':=dSt s.mem s.next) rfl rfl).at' λrd2 hr2=> ?_
  simp only[B2,Cb,BQ,C6,Eg]
  refine aV (AaY_ (s:=oSt s.mem s.next) (by omega) ⟨Non,Ext.refl _,λrd3 hr3=> ?_⟩)
  show W _ (dSt s.mem s.next) _
  rw[show(oSt s.mem s.next).next=s.next from rfl]
  rw[AY]
  refine⟨Df (by simp) (by simp), ?_⟩
  refine W.cast (Am_ ..) ?_
  simp only[SS, ↓reduceIte]
  generalize hsF:(⟨(dSt s.mem s.next).mem,(dSt s.mem s.next).next,s.lim,_,_,s.cx⟩:St)=sF
  have mF:sF.mem=s.mem:=by rw[<-hsF];rfl
  have nF:sF.next=s.next:=by rw[<-hsF];rfl
  have xF:Ext Any Non s sF:=by
   rw[<-hsF]
   exact Ext.draw (F:=Any) (Nat.le_refl _) (λ_ _=>rfl) (by simp) λ_ _ _ _ _=>trivial
  have yF:Ext Any (In b 0 c) s0 sF:=hx.on xF hb0 λ_ _ g=>g.elim
  have hrF:=hr.ext0 xF
  by_cases hlt:l.getD (j+1) 0<l.getD j 0
  ·have hin:Ep (j+1) l=Ep j ((l.set (j+1) (l.getD j 0)).set j (l.getD (j+1) 0)):=by
    show(if l.getD (j+1) 0<l.getD j 0 then _ else _)=_
    rw[if_pos hlt]
   rw[hin]at q
   rw[decide_eq_true hlt]
   refine aK MY ?_
   have o1:Own sF b (0+(j+1)*1) (.int .i64 (l.getD (j+1) 0:Nat)):=o1.ext0 xF
   have o2:Own sF b (0+j*1) (.int .i64 (l.getD j 0:Nat)):=o2.ext0 xF
   refine Pt_.u ?_
   simp only[WQ,RR,T.get_set,Nat.reduceEqDiff, ↓reduceIte,t0,t7,Af,A6]
   rw[W_dq λs Q=>Bq (s:=s) ((j+1:Nat):Int) 1,es]
   simp only[A6]
   rw[W_dq λs Q=>Bq (s:=s) ((j+1:Nat):Int) 1,es]
   simp only[Af]
   rw[W_dq λs Q=>By (s:=s) CF (show j<c by omega) Q]
   simp only[Af]
   refine aE Au (o2.same (s':=dSt sF.mem sF.next) rfl rfl).at' λrd4 hr4=> ?_
   simp only[A6]
   rw[W_dq λs Q=>By (s:=s) CF (show j+1<c by omega) Q]
   simp only[Af]
   refine aE Au (o1.same (s':=dSt sF.mem sF.next) rfl rfl).at' λrd5 hr5=> ?_
   simp only[Af]
   rw[W_dq λs Q=>By (s:=s) CF (show j+1<c by omega) Q]
   simp only[Af]
   refine bA (aG (s:=oSt sF.mem sF.next) Au rfl (o1.same rfl rfl) λs5 n5 x5 w5=>⟨_,_,x5,λrd6 wr6 hr6 hw6=> ?_⟩)
   have n5':s5.next=sF.next:=n5
   simp only[Af]
   rw[W_dq λs Q=>By (s:=s) CF (show j<c by omega) Q]
   rw[AY]
   refine⟨C7 ?_, ?_⟩
   ·simp only[List.reverse_cons,List.reverse_nil,List.nil_append,List.cons_append,allP,B6,List.take,Cz,n5']
    have lts: ∀x,sF.next<=x-> ¬x<sF.next:=λx h=>by omega
    have e4: ∀x,x∈wr6->x∉rd4:=λx h1 h2=>by have g1:=(hw6 x h1).2.1;have g2:=hr4 x h2;omega
    have e5: ∀x,x∈rd4->x∉wr6:=λx h2 h1=>e4 x h1 h2
    simp+contextual [lts,e4]
    repeat' first
     |exact .inl rfl
     |apply And.intro
   refine W.cast (LY_ ..) ?_
   simp only[SS]
   generalize hsG:(⟨(dSt s5.mem s5.next).mem,(dSt s5.mem s5.next).next,sF.lim,_,_,sF.cx⟩:St)=sG
   have mG:sG.mem=s5.mem:=by rw[<-hsG];rfl
   have nG:sG.next=s5.next:=by rw[<-hsG];rfl
   have xG:Ext Any (In b (0+(j+1)*1) 1) sF sG:=by
    rw[<-hsG]
    refine aL (s:=sF) (by show sF.next<=s5.next;omega) (λx hx hg=>x5.mem x hx hg) ?_ λ_ _ _ _ _=>trivial
    simp only[List.mem_cons,List.not_mem_nil,or_false]
    rintro m (rfl|rfl|rfl|rfl|rfl|rfl|rfl|rfl|rfl|rfl|rfl|rfl|rfl|rfl|rfl|rfl|rfl) x hx hl<;>first|(cases hx;done)|exact(hw6 x hx).2
   have hrG:An sG b 0 (intV (l.set (j+1) (l.getD j 0))):=by
    have x':Ext Any (In b (j+1) 1) sF sG:=by rw[show 0+(j+1)*1=j+1 by omega]at xG;exact xG
    refine hrF.setI x' ?_
    rw[show 0+(j+1)*1=j+1 by omega]at w5
    exact w5.same mG nG
   have yG:Ext Any (In b 0 c) s0 sG:=yF.on xG hb0 λx _ g=>by have h1:=g.1;have h2:=g.2;exact⟨by omega,by omega⟩
   have o3:Own sG b (0+j*1) (.int .i64 (l.getD j 0:Nat)):=o2.ext xG λg=>by have h1:=g.1;omega
   refine aG Au rfl o3 λs7 n7 x7 o7=> ?_
   have hr7:An s7 b 0 (intV ((l.set (j+1) (l.getD j 0)).set j (l.getD (j+1) 0))):=by
    rw[show 0+j*1=j by omega]at x7 o7
    exact hrG.setI x7 o7
   have y7:Ext Any (In b 0 c) s0 s7:=yG.on x7 hb0 λx _ g=>by have h1:=g.1;have h2:=g.2;exact⟨by omega,by omega⟩
   refine RN_.u ?_
   simp only[Gt_,RR,SS,Nat.reduceEqDiff, ↓reduceIte,Bq,Nat.reduceEqDiff, ↓reduceIte,t7,es]
   refine ih _ _ _ s7 _ (by omega) Rw_ y7 hr7 (by simp[hl]) (by omega) hc (by simp[T.get_set,t0]) (by simp[T.get_set,t1]) (by simp[T.get_set,t2]) (by simp[T.get_set,t6]) (by simp[T.get_set]) λn' tm' td' s' hn'=>q n' tm' td' s' (by omega)
  ·have hin:Ep (j+1) l=l:=by
    show(if l.getD (j+1) 0<l.getD j 0 then _ else _)=_
    rw[if_neg hlt]
   rw[hin]at q
   rw[decide_eq_false hlt]
   refine aH MY ?_
   exact q _ _ _ sF (by omega) rfl yF hrF (by simp[T.get_set,t0]) (by simp[T.get_set,t1]) (by simp[T.get_set,t2]) (by simp[T.get_set,t6])
theorem Abf_ (hb0:s0.lim<=s0.next)(hc:c<=12)(hcx:s0.cx=cxN){P:Value->St->Prop}(hQ: ∀v m s,P v s->Q (v,m) s)
  :
  ∀(k i n:Nat) (tm:T Value) (td:List Item) (s:St) (l:List Nat),i+k=c->500*k+500<=n->skim 64 td=IX->Ext Any (In b 0 c) s0 s->An s b 0 (intV l)->l.length=c->T.get tm 0=some (.slice (some ⟨b,0,none⟩) c z)->T.get tm 1=some (.int .i64 0)->T.get tm 2=some (.int .i64 (c:Nat))->T.get tm 6=some (.int .i64 (i:Nat))->
   (∀s',Ext Any (In b 0 c) s0 s'->An s' b 0 (intV (Ea k i l))->P (.tuple #[]) s')->
   W (runF envS n ⟨90,PL,Cr,tm,td, .run, .normal,none⟩) s Q:=by
 intro k
 induction k with
 |zero=>
  intro i n tm td s l hi hn hT hx hr hl t0 t1 t2 t6 q
  refine OU.u ?_ hT
  have d1:decide (((i:Nat):Int)<((c:Nat):Int))=false:=decide_eq_false (by omega)
  simp only[Ko,RR,SS,AC,t2,t6,d1]
  refine aH OS ?_
  refine aC (rs:=[]) (vs:=[]) rfl (.inr Vw) (by omega) Pw SZ (hx.cx.trans hcx) rfl ?_
  exact hQ _ _ _ (q s hx hr)
 |succ k ih=>
  intro i n tm td s l hi hn hT hx hr hl t0 t1 t2 t6 q
  have ei:wrap64 (((i:Nat):Int)+1)=((i+1:Nat):Int):=by
   rw[Bc (by omega) (by omega)];simp
  refine OU.u ?_ hT
  have d1:decide (((i:Nat):Int)<((c:Nat):Int))=true:=decide_eq_true (by omega)
  simp only[Ko,RR,SS,AC,t2,t6,d1]
  refine aK OS ?_
  refine Jf_.u ?_
  simp only[X6,RR,SS,Nat.reduceEqDiff, ↓reduceIte,t6]
  refine IA_ (z:=z) hb0 (i:=i) i _ _ _ s l (by omega) rfl hx hr hl (by omega) hc (by simp[T.get_set,t0]) (by simp[T.get_set,t1]) (by simp[T.get_set,t2]) (by simp[T.get_set,t6]) (by simp[T.get_set]) λn' tm' td' s' hn' hT' hx' hr' g0 g1 g2 g6=> ?_
  refine Ld_.u ?_ hT'
  simp only[Et_,RR,SS,AO,g6,ei]
  exact ih (i+1) _ _ _ s' _ (by omega) (by omega) AaD_ hx' hr' (by rw[MI];exact hl) (by simp[T.get_set,g0]) (by simp[T.get_set,g1]) (by simp[T.get_set,g2]) (by simp[T.get_set]) q
end
theorem OH_ (m:Nat)(mem:T Cell)(next lim:Nat)(rd wr:List Nat)(cx:Ctx):Ab envS (runF envS (m+30)) 79 [.int .u64 2] ⟨mem,next,lim,rd,wr,cx⟩= .some (.int .i64 2) ⟨mem,next,lim,rd,wr,cx⟩:=by kernel_rfl
theorem AcM_ (m:Nat)(mem:T Cell)(next lim:Nat)(rd wr:List Nat)(cx:Ctx):Ab envS (runF envS (m+30)) 79 [.int .u64 3] ⟨mem,next,lim,rd,wr,cx⟩= .some (.int .i64 2) ⟨mem,next,lim,rd,wr,cx⟩:=by kernel_rfl
theorem RP_ (m:Nat)(mem:T Cell)(next lim:Nat)(rd wr:List Nat)(cx:Ctx):Ab envS (runF envS (m+30)) 79 [.int .u64 4] ⟨mem,next,lim,rd,wr,cx⟩= .some (.int .i64 3) ⟨mem,next,lim,rd,wr,cx⟩:=by kernel_rfl
theorem ZC_ (m:Nat)(mem:T Cell)(next lim:Nat)(rd wr:List Nat)(cx:Ctx):Ab envS (runF envS (m+30)) 79 [.int .u64 5] ⟨mem,next,lim,rd,wr,cx⟩= .some (.int .i64 3) ⟨mem,next,lim,rd,wr,cx⟩:=by kernel_rfl
theorem Ma_ (m:Nat)(mem:T Cell)(next lim:Nat)(rd wr:List Nat)(cx:Ctx):Ab envS (runF envS (m+30)) 79 [.int .u64 6] ⟨mem,next,lim,rd,wr,cx⟩= .some (.int .i64 3) ⟨mem,next,lim,rd,wr,cx⟩:=by kernel_rfl
theorem WD_ (m:Nat)(mem:T Cell)(next lim:Nat)(rd wr:List Nat)(cx:Ctx):Ab envS (runF envS (m+30)) 79 [.int .u64 7] ⟨mem,next,lim,rd,wr,cx⟩= .some (.int .i64 3) ⟨mem,next,lim,rd,wr,cx⟩:=by kernel_rfl
theorem XW_ (m:Nat)(mem:T Cell)(next lim:Nat)(rd wr:List Nat)(cx:Ctx):Ab envS (runF envS (m+30)) 79 [.int .u64 8] ⟨mem,next,lim,rd,wr,cx⟩= .some (.int .i64 4) ⟨mem,next,lim,rd,wr,cx⟩:=by kernel_rfl
theorem WL_ (m:Nat)(mem:T Cell)(next lim:Nat)(rd wr:List Nat)(cx:Ctx):Ab envS (runF envS (m+30)) 79 [.int .u64 9] ⟨mem,next,lim,rd,wr,cx⟩= .some (.int .i64 4) ⟨mem,next,lim,rd,wr,cx⟩:=by kernel_rfl
theorem Zz_ (m:Nat)(mem:T Cell)(next lim:Nat)(rd wr:List Nat)(cx:Ctx):Ab envS (runF envS (m+30)) 79 [.int .u64 10] ⟨mem,next,lim,rd,wr,cx⟩= .some (.int .i64 4) ⟨mem,next,lim,rd,wr,cx⟩:=by kernel_rfl
theorem AbS_ (m:Nat)(mem:T Cell)(next lim:Nat)(rd wr:List Nat)(cx:Ctx):Ab envS (runF envS (m+30)) 79 [.int .u64 11] ⟨mem,next,lim,rd,wr,cx⟩= .some (.int .i64 4) ⟨mem,next,lim,rd,wr,cx⟩:=by kernel_rfl
theorem ZH_ (m:Nat)(mem:T Cell)(next lim:Nat)(rd wr:List Nat)(cx:Ctx):Ab envS (runF envS (m+30)) 79 [.int .u64 12] ⟨mem,next,lim,rd,wr,cx⟩= .some (.int .i64 4) ⟨mem,next,lim,rd,wr,cx⟩:=by kernel_rfl
section
variable {n:Nat}{s:St}{Q:Value->St->Prop}
theorem W.len12 {k:Nat}(hk:k<=12)(hn:30<=n)(q: ∀x:Int,Q (.int .i64 x) s):W (Ab envS (runF envS n) 79 [.int .u64 (k:Nat)]) s Q:=by
 obtain⟨m,rfl⟩: ∃m,n=m+30:=⟨n-30,by omega⟩
 obtain⟨mem,next,lim,rd,wr,cx⟩:=s
 have h:k=0\/k=1\/k=2\/k=3\/k=4\/k=5\/k=6\/k=7\/k=8\/k=9\/k=10\/k=11\/k=12:=by omega
 rcases h with rfl|rfl|rfl|rfl|rfl|rfl|rfl|rfl|rfl|rfl|rfl|rfl|rfl
 ·exact W.of (Re m mem next lim rd wr cx) (q _)
 ·exact W.of (XL m mem next lim rd wr cx) (q _)
 ·exact W.of (OH_ m mem next lim rd wr cx) (q _)
 ·exact W.of (AcM_ m mem next lim rd wr cx) (q _)
 ·exact W.of (RP_ m mem next lim rd wr cx) (q _)
 ·exact W.of (ZC_ m mem next lim rd wr cx) (q _)
 ·exact W.of (Ma_ m mem next lim rd wr cx) (q _)
 ·exact W.of (WD_ m mem next lim rd wr cx) (q _)
 ·exact W.of (XW_ m mem next lim rd wr cx) (q _)
 ·exact W.of (WL_ m mem next lim rd wr cx) (q _)
 ·exact W.of (Zz_ m mem next lim rd wr cx) (q _)
 ·exact W.of (AbS_ m mem next lim rd wr cx) (q _)
 ·exact W.of (ZH_ m mem next lim rd wr cx) (q _)
theorem Marked.sorted {s s1:St}{c b:Nat}{l l':List Nat}{v:Value}(h:Marked s 1 c (intV l) v b)(x:Ext Any (In b 0 c) s s1)(hr:An s1 b 0 (intV l'))(hl:l'.length=c):Marked s1 1 c (intV l') v b:=
 ⟨h.val,hr,by rw[AcS_,hl,Nat.mul_one],let ⟨q,h1,h2⟩:=h.tok;⟨q,h1,by rw[x.mem _ h.lt λg=>by have h3:=g.2;omega];exact h2⟩,Nat.lt_of_lt_of_le h.lt x.nxt⟩
theorem Tl_ {b c z:Nat}{l:List Nat}(hb:s.lim<=s.next)(hc:c<=12)(h1:1<=c)(hr:An s b 0 (intV l))(hl:l.length=c)(hn:7000<=n)(q: ∀s1,Ext Any (In b 0 c) s s1->An s1 b 0 (intV (Ea (c-1) 1 l))->Q (.tuple #[]) s1):W (Ab envS (runF envS n) 90 [.slice (some ⟨b,0,none⟩) c z, .int .i64 0, .int .i64 (c:Nat)]) s Q:=by
 have hb0:(s.cxN cxN).lim<=(s.cxN cxN).next:=hb
 have hrow:An (s.cxN cxN) b 0 (intV l):=λi u e=>(hr i u e).same rfl rfl
 refine W9 λtmi i0 i1 i2=> ?_
 have e1:wrap64 ((0:Int)+1)=((1:Nat):Int):=by decide
 refine Ga_.u ?_
 simp only[L8,RR,SS,AO,i1,e1]
 exact Abf_ (c:=c) (b:=b) (z:=z) (s0:=s.cxN cxN) (P:=λv s1=>Q v (s1.cxN s.cx)) hb0 hc rfl (λ_ _ _ h=>h) (c-1) 1 _ _ _ _ l (by omega) (by omega) rfl (Ext.refl _) hrow hl (by simp[T.get_set,i0]) (by simp[T.get_set,i1]) (by simp[T.get_set,i2]) (by simp[T.get_set]) λs1 x1 r1=>q _ x1.cx' λi u e=>(r1 i u e).same rfl rfl
theorem To_ {v:Value}{b c:Nat}{l:List Nat}(hb:s.lim<=s.next)(hc:c<=12)(h2:1<=c)(hr:MkS s 1 c (intV l) v b)(hl:l.length=c)(hn:9000<=n)(q: ∀s1,Ext Any (MkF 1 c b) s s1->MkS s1 1 c (intV (Ea (c-1) 1 l)) v b->Q (.tuple #[]) s1):W (Ab envS (runF envS n) 62 [v]) s Q:=by
 have hM:Marked s 1 c (intV l) v b:=by
  rcases hr with h|h
  ·omega
  ·exact h.1
 have hb0:(s.cxN cxN).lim<=(s.cxN cxN).next:=hb
 have ev:=hM.val
 refine Ei_ λtm t0=> ?_
 refine T8.u ?_
 simp only[No,RR,SS,t0,MkS.lenq hr CF]
 refine Um.u ?_
 have ew:IntKind.u64.wrap ((c:Nat):Int)=((c:Nat):Int):=by rw[IntKind.wrap_u64];omega
 simp only[Nn,RR,SS,reduceCtorEq, ↓reduceIte,t0,DW Fy XD,ew]
 refine W.len12 hc (by omega) λlx=> ?_
 refine AI_ λtmp p0 p1 p2 p3=> ?_
 refine Gi_.u ?_
 simp only[M7,RR,SS]
 refine HU_.u ?_
 simp only[PX,RR,SS]
 refine Ux.u ?_
 have es:wrap64 (((c:Nat):Int)-0)=((c:Nat):Int):=by rw[Bc (by omega) (by omega)];omega
 simp only[Lp,RR,SS,Nat.reduceEqDiff, ↓reduceIte,Bq,p1,p2,es]
 refine WJ.u ?_
 simp only[Oc,RR,SS, ↓reduceIte,BZ]
 refine aK Rk ?_
 refine QO.u ?_
 simp only[Lg,RR,SS,Nat.reduceEqDiff,reduceCtorEq, ↓reduceIte,p0,p1,p2]
 rw[ev]
 refine Tl_ (b:=b) (c:=c) (l:=l) (s:=(s.cxN cxN).cxN cxN) hb hc h2 (λi u e=>(hM.own i u e).same rfl rfl) hl (by omega) λs1 x1 r1=> ?_
 have x1':Ext Any (In b 0 c) s ((s1.cxN (s.cxN cxN).cx).cxN s.cx):=⟨x1.nxt,x1.lim,rfl,x1.mem,x1.rd,x1.wr⟩
 refine aC (rs:=[]) (vs:=[]) rfl (.inl XT) (by omega) My ZU x1.cx rfl ?_
 refine aC (rs:=[]) (vs:=[]) rfl (.inr Ug) (by omega) LK QX rfl rfl ?_
 exact q _ (x1'.gw hb λx _ g=>⟨by omega,g.1,by have:=g.2;omega⟩) (.inr ⟨hM.sorted x1' (λi u e=>(r1 i u e).same rfl rfl) (by rw[ZK];exact hl),by omega⟩)
end
section
variable {c m:Nat}{b:Nat}{v:Value}{s0:St}
theorem YC_ {Q:Value×FrameMode->St->Prop}(hb0:s0.lim<=s0.next)(h1:1<=m)(h2:m+c<=15)(h3:c<=12)(hr:NmR s0 v ((AE m c).map nmJ) b)
  (q: ∀n tm td s v3 b3,20000<=n->skim 64 td=IQ->Ext Any Non s0 s->MkS s 1 c (intV (AE m c)) v3 b3->s0.next<=b3\/c=0->T.get tm 3=some v3->W (runF envS n ⟨38,Lh,BX,tm,td, .run, .normal,none⟩) s Q):
  ∀(k i n:Nat) (tm:T Value) (td:List Item) (s:St) (v3:Value) (b3:Nat),i+k=c->20010+60*k<=n->skim 64 td=J9->Ext Any Non s0 s->MkS s 1 i (intV ((AE m c).take i)) v3 b3->s0.next<=b3\/i=0->T.get tm 3=some v3->T.get tm 10=some v->T.get tm 11=some (.int .i64 (c:Nat))->T.get tm 12=some (.int .i64 (i:Nat))->
   W (runF envS n ⟨38,Lh,BX,tm,td, .run, .normal,none⟩) s Q:=by
 intro k
 have hpl:=ND h1 h2 h3
 induction k with
 |zero=>
  intro i n tm td s v3 b3 hi hn hT hx hM hb3 t3 t10 t11 t12
  have e:i=c:=by omega
  subst e
  rw[show(AE m i).take i=AE m i from List.take_of_length_le (by omega)]at hM
  refine AZ_.u ?_ hT
  have d1:decide (((i:Nat):Int)<((i:Nat):Int))=false:=decide_eq_false (by omega)
  simp only[N1,RR,SS,AC,t11,t12,d1]
  refine aH ZL ?_
  exact q _ _ _ s v3 b3 (by omega) rfl hx hM hb3 (by simp[T.get_set,t3])
 |succ k ih=>
  intro i n tm td s v3 b3 hi hn hT hx hM hb3 t3 t10 t11 t12
  have hil:i<c:=by omega
  have hip:i<(AE m c).length:=by omega
  have hnl:((AE m c).map nmJ).length=c:=by simp[hpl]
  have hbs:=hx.bnd hb0
  have hrs:NmR s v ((AE m c).map nmJ) b:=MkS.ext0 hr hx
  obtain⟨cc,ev,ho⟩:=hrs.at (i:=i) (by omega)
  rw[List.getElem_map]at ho
  rw[hnl]at ev
  have hk:=IV (List.getElem_mem hip)
  generalize hkk:(AE m c)[i]=kk at *
  refine AZ_.u ?_ hT
  have d1:decide (((i:Nat):Int)<((c:Nat):Int))=true:=decide_eq_true (by omega)
  simp only[N1,RR,SS,AC,t11,t12,d1]
  refine aK ZL ?_
  refine Vw_.u ?_
  simp only[RI,RR,SS,Nat.reduceEqDiff, ↓reduceIte,t10,t12]
  rw[ev]
  simp only[By Hr_ hil]
  refine aB CH ho.at' ?_
  have y1:Ext Any Non s0 (s.rdN (b+(0+i*1))):=hx.on (Ext.rdN (F:=Any) (G:=Non) s _ λ_=>trivial) hb0 λ_ _ g=>g
  have hM1:MkS (s.rdN (b+(0+i*1))) 1 i (intV ((AE m c).take i)) v3 b3:=hM.same rfl rfl
  generalize s.rdN (b+(0+i*1))=s2 at *
  refine Ni_.u ?_
  simp only[Ff_,RR,SS, ↓reduceIte,nm_p]
  refine W.trim (by omega) ?_
  refine XQ_.u ?_
  simp only[AF_,RR,SS, ↓reduceIte]
  refine W.atoi (by omega) ?_
  rw[AP (k:=0) rfl]
  rw[AP (k:=1) rfl]
  refine Jq_.u ?_
  have d2:decide (((kk:Nat):Int)≥1)=true:=decide_eq_true (by omega)
  have d3:decide (((kk:Nat):Int)<=2147483647)=true:=decide_eq_true (by omega)
  simp only[XE,RR,SS,Nat.reduceEqDiff, ↓reduceIte,BZ,BJ,Ok_,d2,d3]
  refine W.itoa (by omega) ?_
  simp only[AaC_,beq_self_eq_true]
  refine aK Tk_ ?_
  refine XR_.u ?_
  simp only[HW_,RR,SS,Nat.reduceEqDiff, ↓reduceIte,t3]
  refine aQ (y1.bnd hb0) (r:=[.int .i64 (kk:Nat)]) Gk_ (by decide) (YL_ _) (BW (by decide)) λs3 n3 x3 r3=> ?_
  have y3:=y1.on x3 hb0 λ_ _ h=>h
  have hM3:=hM1.ext0 x3
  rw[H1]
  refine W.appU (s:=s3) (y3.bnd hb0) AaN_ hM3 (XV (n:=1) (c:=1) (An.row r3) rfl).g (by decide) (by decide) (by decide) (by omega) rfl rfl λs4 v4 b4 hb4 mk4 x4=> ?_
  have n03:s0.next<=s3.next:=y3.nxt
  have n23:s0.next<=s2.next:=y1.nxt
  have y4:Ext Any Non s0 s4:=y3.on x4 hb0 λx hx h=>by
   have h1:=h.1
   have h2:=h.2.1
   rcases hb3 with g|g<;>omega
  have ei:wrap64 (((i:Nat):Int)+1)=((i+1:Nat):Int):=by
   rw[Bc (by omega) (by omega)];simp
  refine NN_.u ?_ Zy_
  simp only[Tp,RR,SS,Nat.reduceEqDiff, ↓reduceIte,AO,Nat.reduceEqDiff, ↓reduceIte,t12,ei]
  have mk4':MkS s4 1 (i+1) (intV ((AE m c).take (i+1))) v4 b4:=by
   rw[List.take_succ_eq_append_getElem hip,hkk]
   unfold intV
   rw[List.map_append]
   exact mk4
  exact ih (i+1) _ _ _ s4 v4 b4 (by omega) (by omega) Jj_ y4 mk4' (.inl (by omega)) (by simp[T.get_set]) (by simp[T.get_set,t10]) (by simp[T.get_set,t11]) (by simp[T.get_set])
end
theorem Vs {D M:Nat}{K:DkS}{m:Nat}{L:LsJ}(hF:FJ m K.fs L)(h1:1<=m)(h2:m+L.length<=15)(h3:L.length<=12)(h4:m<=14):Dl_ D M K m L.length:=λn s col Q hb hI hn q=>by
 have hb0:(s.cxN cxN).lim<=(s.cxN cxN).next:=hb
 have hpl:=ND h1 h2 h3
 refine Pr_ λtm t0=> ?_
 refine RF_.u ?_
 simp only[Qz,RR,SS]
 refine Acb_.u ?_
 simp only[Dk_,RR,SS]
 refine Ny_.u ?_
 simp only[Hm_,RR,SS,reduceCtorEq, ↓reduceIte,t0]
 refine HY_ (p:=preJ) (l':=(AE m L.length).map nmJ) hb0 (hI.same (s':=s.cxN cxN) rfl rfl) (by rw[hF.names];exact NO h1 h2 h3) (λa ha=>by
  obtain⟨k,hk,rfl⟩:=List.mem_map.1 ha
  have:=IV hk
  exact Xt_ (by omega)) (by rw[hF.len];omega) λs1 v b hb1 hr x1=> ?_
 have hnl:((AE m L.length).map nmJ).length=L.length:=by simp[hpl]
 have hr':MkS s1 1 L.length (((AE m L.length).map nmJ).map Value.string) v b:=by
  have h:=hr
  unfold NmR at h
  rw[hnl]at h
  exact h
 simp only[MkS.lenq hr' Hr_]
 refine YC_ (m:=m) (c:=L.length) (b:=b) (v:=v) (s0:=s1) (x1.bnd hb0) h1 h2 h3 hr (λn2 tm2 td2 s2 v3 b3 hn2 hT2 x2 hM2 hb3 g3=> ?_) L.length 0 _ _ _ s1 (.slice none 0 0) 0 (by omega) (by omega) rfl (Ext.refl _) (.inl ⟨rfl,rfl,rfl⟩) (.inr rfl) (by simp[T.get_set]) (by simp[T.get_set]) (by simp[T.get_set]) (by simp[T.get_set])
 have y2:=x1.on x2 hb0 λ_ _ g=>g
 have n1:s.next<=s1.next:=x1.nxt
 refine QW_.u ?_ hT2
 simp only[U2,RR,SS,g3]
 have fin: ∀(s3:St) (n':Nat) (tm':T Value) (b4:Nat),100<=n'->Ext Any Non (s.cxN cxN) s3->MkS s3 1 L.length (numV m L.length) v3 b4->s.next<=b4->T.get tm' 3=some v3->W (runF envS n' ⟨38,Lh,BX,tm',IQ.tail, .run, .normal,none⟩) s3 λp s1=>Q p.1 (s1.cxN s.cx):=λs3 n' tm' b4 hn' y3 hM3 hb4 t3=>by
  refine ZJ_.u ?_
  simp only[YH,RR,SS,t3]
  refine aC (rs:=[2]) (vs:=[v3]) rfl (.inl Pl_) (by omega) Yh Acu_ y3.cx (by simp[T.get_set]) ?_
  exact q _ v3 b4 hb4 (hM3.same rfl rfl) y3.cx'
 rcases Nat.eq_zero_or_pos L.length with hc0|hc0
 ·rw[hc0]at hM2
  refine Nw_ (k:=0) (by omega) hM2 (by omega) ?_
  have hv:v3= .slice none 0 0:=by
   rcases hM2 with h|h
   ·exact h.1
   ·exact absurd h.2 (by omega)
  refine fin s2 _ _ s.next (by omega) y2 ?_ (Nat.le_refl _) g3
  rw[hc0]
  exact .inl ⟨hv,rfl,rfl⟩
 ·have hb3':s1.next<=b3:=by rcases hb3 with h|h<;>omega
  refine To_ (y2.bnd hb0) h3 hc0 hM2 hpl (by omega) λs3 x3 hM3=> ?_
  rw[OM_ h1 h2 h3 h4]at hM3
  exact fin s3 _ _ b3 (by omega) (y2.on x3 hb0 λx hx g=>by have h5:=g.2.1;have hx:x<s.next:=hx;omega) hM3 (by omega) g3
theorem Mn:slN envS 63=some 1:=by kernel_rfl
theorem VU_:tyS envS 3=some (1,false):=by kernel_rfl
theorem Ext.rdG {G:Nat->Prop}{s s':St}(h:Ext Any G s s')(hb:s.lim<=s.next)(x:Nat):Ext Any G s (s'.rdN x):=h.on (Ext.rdN (F:=Any) (G:=Non) s' x λ_=>trivial) hb λ_ _ h=>h.elim
def KsF (v:Value):Nat->Prop:=match v with
 | .slice (some a) n _=>In a.block a.off n
 |_=>λ_=>False
def KsR (s:St)(v:Value)(ks:List Int):Prop:=(v= .slice none 0 0/\ks=[])\/ ∃b o c,v= .slice (some ⟨b,o,none⟩) ks.length c/\An s b o (ks.map (Value.int .i64))
theorem KsR.ext {F G:Nat->Prop}{s s':St}{v:Value}{ks:List Int}(h:KsR s v ks)(e:Ext F G s s')(hG: ∀x,KsF v x-> ¬G x):KsR s' v ks:=by
 rcases h with h|⟨b,o,c,rfl,h⟩
 ·exact .inl h
 ·exact .inr ⟨b,o,c,rfl,h.ext e λi hi=>hG _ (show In b o ks.length _ from⟨by omega,by rw[List.length_map]at hi;omega⟩)⟩
theorem KsR.ext0 {F:Nat->Prop}{s s':St}{v:Value}{ks:List Int}(h:KsR s v ks)(e:Ext F Non s s'):KsR s' v ks:=h.ext e λ_ _=>id
theorem KsR.same {s s':St}{v:Value}{ks:List Int}(h:KsR s v ks)(hm:s'.mem=s.mem)(hn:s'.next=s.next):KsR s' v ks:=by
 rcases h with h|⟨b,o,c,rfl,h⟩
 ·exact .inl h
 ·exact .inr ⟨b,o,c,rfl,λi u e=>(h i u e).same hm hn⟩
theorem KsR.len {s s':St}{v:Value}{ks:List Int}{Q:Value->St->Prop}(h:KsR s v ks):W (A8 envS .len [63] [v]) s' Q=Q (.int .i64 (ks.length:Nat)) s':=by
 rcases h with⟨rfl,rfl⟩|⟨b,o,c,rfl,h⟩
 ·exact B0 (n:=0) Mn Q
 ·exact B0 Mn Q
theorem KsR.at {s:St}{v:Value}{ks:List Int}{i:Nat}(h:KsR s v ks)(hi:i<ks.length): ∃b o c,v= .slice (some ⟨b,o,none⟩) ks.length c/\Own s b (o+i*1) (.int .i64 ks[i]):=by
 rcases h with⟨rfl,rfl⟩|⟨b,o,c,rfl,h⟩
 ·cases hi
 ·exact⟨b,o,c,rfl,by rw[Nat.mul_one];exact h i _ (by simp[hi])⟩
def Ed (ks:List Int)(i L:Nat):Nat:=if h:i<ks.length then(ks[i]%((L+1:Nat):Int)).toNat else 0
theorem Fb_ (ks:List Int)(i L:Nat):Ed ks i L<=L:=by
 unfold Ed
 split
 ·have h1:=Int.emod_lt_of_pos ks[i] (b:=((L+1:Nat):Int)) (by omega)
  have h2:=Int.emod_nonneg ks[i] (b:=((L+1:Nat):Int)) (by omega)
  omega
 ·exact Nat.zero_le _
theorem KT_ {x:Int}{m:Nat}(hm:1<=m):(x.tmod (m:Nat)+(m:Nat)).tmod (m:Nat)=x%(m:Nat):=by
 have b2: -(m:Nat)<x.tmod (m:Nat):=by
  have:=Int.lt_tmod_of_pos x (b:=(m:Nat)) (by omega)
  omega
 have e:x=x.tmod (m:Nat)+(m:Nat)*x.tdiv (m:Nat):=(Int.tmod_add_mul_tdiv x (m:Nat)).symm
 rw[Int.tmod_eq_emod_of_nonneg (by omega),Int.add_emod_right]
 conv=>rhs;rw[e]
 rw[Int.add_mul_emod_self_left]
def CrG (fs fs':List FileS)(V:Nat->Prop):Prop:=fs'.length=fs.length/\ ∀t (h:t<fs.length) (h':t<fs'.length),(V t-> ∃v b kk,kk<=fs[t].lb.length/\fs'[t]=fs[t].kept v b (fs[t].sb++fs[t].lb.take kk))/\(¬V t->fs'[t]=fs[t])
theorem CrG.iff {fs fs':List FileS}{V V':Nat->Prop}(h:CrG fs fs' V)(e: ∀t,V t↔V' t):CrG fs fs' V':=⟨h.1,λt h1 h2=>⟨λq=>(h.2 t h1 h2).1 ((e t).2 q),λq=>(h.2 t h1 h2).2 λg=>q ((e t).1 g)⟩⟩
theorem CrG.names {fs fs':List FileS}{V:Nat->Prop}(h:CrG fs fs' V):fs'.map FileS.name=fs.map FileS.name:=by
 apply List.ext_getElem
 ·simp[h.1]
 ·intro t h1 h2
  rw[List.getElem_map,List.getElem_map]
  rw[List.length_map]at h1 h2
  by_cases q:V t
  ·obtain⟨v,b,kk,_,e⟩:=(h.2 t h2 h1).1 q
   rw[e]
   rfl
  ·rw[(h.2 t h2 h1).2 q]
theorem CrG.succ {fs fs':List FileS}{V:Nat->Prop}{p b kk:Nat}{v:Value}(h:CrG fs fs' V)(hi:p<fs.length)(hi':p<fs'.length)(hk:kk<=fs'[p].lb.length)(hV: ¬V p):CrG fs (fs'.set p (fs'[p].kept v b (fs'[p].sb++fs'[p].lb.take kk))) (λt=>V t\/t=p):=by
 have ei:=(h.2 p hi hi').2 hV
 refine⟨by rw[List.length_set];exact h.1,λt h1 h2=>⟨λq=> ?_,λq=> ?_⟩⟩
 ·rw[List.length_set]at h2
  by_cases c:t=p
  ·subst c
   exact⟨v,b,kk,by rw[<-ei];exact hk,by rw[List.getElem_set_self,ei]⟩
  ·rw[List.getElem_set_ne (by omega)]
   exact(h.2 t h1 h2).1 (q.resolve_right c)
 ·rw[List.length_set]at h2
  rw[List.getElem_set_ne (λe=>q (.inr e.symm))]
  exact(h.2 t h1 h2).2 λg=>q (.inl g)
section
variable {D M:Nat}{k:DkS}{ks:List Int}{kv v:Value}{bN:Nat}{l':List ByteArray}{p:Nat->Nat}{col0:Nat->Nat}{s0:St}
theorem Js_ {Q:Value×FrameMode->St->Prop}(hb0:s0.lim<=s0.next)(hlen:k.fs.length<=300)(hz:k.used<=1000000)(hll:l'.length=k.fs.length)(hp: ∀i,i<k.fs.length->p i<k.fs.length)(hpi: ∀i j,i<k.fs.length->j<k.fs.length->p i=p j->i=j)(hlk: ∀i (h:i<l'.length),Az k.fs l'[i]=some (p i))
  (hv0:NmR s0 v l' bN) (hk0:KsR s0 kv ks) (hcv: ∀x,MkF 1 k.fs.length bN x->1000<=col0 x) (hck: ∀x,KsF kv x->1000<=col0 x/\x<s0.next)
  (q: ∀n' tm' td' s1 col' fs',100<=n'->skim 64 td'=OY->T.get tm' 0=some (.pointer (some ⟨D,0,none⟩))->DkI s1 col' D M {k with fs:=fs'}->CrG k.fs fs' (λt=> ∃x,x<k.fs.length/\p x=t)->(∀x,x<s0.next->col' x=col0 x)->Ext Any (λx=>col0 x<1000) s0 s1->W (runF envS n' ⟨29,Hb,BB,tm',td', .run, .normal,none⟩) s1 Q):
  ∀(m i n:Nat) (tm:T Value) (s:St) (td:List Item) (col':Nat->Nat) (fs':List FileS),i+m=k.fs.length->20*m+200<=n->skim 64 td=IF->Ext Any (λx=>col0 x<1000) s0 s->DkI s col' D M {k with fs:=fs'}->CrG k.fs fs' (λt=> ∃x,x<i/\p x=t)->(∀x,x<s0.next->col' x=col0 x)->
  T.get tm 0=some (.pointer (some ⟨D,0,none⟩))->T.get tm 1=some kv->T.get tm 13=some v->T.get tm 14=some (.int .i64 (k.fs.length:Nat))->T.get tm 15=some (.int .i64 (i:Nat))->
  W (runF envS n ⟨29,Hb,BB,tm,td, .run, .normal,none⟩) s Q:=by
 intro m
 induction m with
 |zero=>
  intro i n tm s td col' fs' hi hn hT hx hI hC hag h0 h1 h13 h14 h15
  refine GI_.u ?_ hT
  simp only[Ob,RR,SS,AC,h14,h15]
  refine aH ZA ?_
  have e:i=k.fs.length:=by omega
  subst e
  exact q _ _ _ _ _ _ (by omega) rfl (by simp[T.get_set,h0]) hI hC hag hx
 |succ m ih=>
  intro i n tm s td col' fs' hi hn hT hx hI hC hag h0 h1 h13 h14 h15
  have hil:i<k.fs.length:=by omega
  have hpl:=hp i hil
  have hil':p i<fs'.length:=by rw[hC.1];exact hpl
  have ei:=(hC.2 (p i) hpl hil').2 (λ⟨x,hx1,hx2⟩=>by have:=hpi x i (by omega) hil hx2;omega)
  have hv:NmR s v l' bN:=MkS.ext hv0 hx λx hxx hg=>by
   rw[hll]at hxx
   have:=hcv x hxx
   omega
  have hk:KsR s kv ks:=hk0.ext hx λx hxx hg=>by have:=(hck x hxx).1;omega
  obtain⟨c,ev,ho⟩:=NmR.at hv (i:=i) (by omega)
  rw[hll]at ev
  have hil2:i<l'.length:=by omega
  refine GI_.u ?_ hT
  simp only[Ob,RR,SS,AC,h14,h15]
  refine aK ZA ?_
  refine Xq_.u ?_
  simp only[Zv,RR,SS,Nat.reduceEqDiff, ↓reduceIte,h13,h15,ev,By IN hil]
  refine aB CH ho.at' ?_
  have x1:=hx.rdG hb0 (bN+(0+i*1))
  refine IY_.u ?_
  simp only[QY,RR,SS,reduceCtorEq, ↓reduceIte,h0,Ai DD (by decide)]
  refine aB DM (hI.d1.same (s':=s.rdN (bN+(0+i*1))) rfl rfl).at' ?_
  have x2:=x1.rdG hb0 (D+(0+1))
  refine HF (fs:=fs') (mx:=k.mx) (hI.om.same rfl rfl) ?_
  have x3:=x2.rdG hb0 M
  have hI3:DkI (((s.rdN (bN+(0+i*1))).rdN (D+(0+1))).rdN M) col' D M {k with fs:=fs'}:=hI.same rfl rfl
  have hk3:KsR (((s.rdN (bN+(0+i*1))).rdN (D+(0+1))).rdN M) kv ks:=hk.same rfl rfl
  generalize ((s.rdN (bN+(0+i*1))).rdN (D+(0+1))).rdN M=s3 at *
  have hlj:Az fs' l'[i]=some (p i):=by
   unfold Az
   rw[hC.names]
   exact hlk i hil2
  have hlv:A7 fs' l'[i]= .pointer (some ⟨fs'[p i].blk,0,none⟩):=by
   unfold A7
   rw[hlj]
   simp only[List.getElem?_eq_getElem hil']
  rw[hlv]
  have hus:=aW hpl
  have hus':fs'[p i].sb.length+fs'[p i].lb.length<=1000000:=by rw[ei];omega
  have g:=hI3.fl (p i) hil'
  have fin: ∀(n':Nat) (tm':T Value) (td':List Item) (s':St),n<=n'+12->skim 64 td'=GW->Ext Any (λx=>col0 x<1000) s0 s'->DkI s' col' D M {k with fs:=fs'}->T.get tm' 0=some (.pointer (some ⟨D,0,none⟩))->T.get tm' 1=some kv->T.get tm' 13=some v->T.get tm' 14=some (.int .i64 (k.fs.length:Nat))->T.get tm' 15=some (.int .i64 (i:Nat))->T.get tm' 7=some (.pointer (some ⟨fs'[p i].blk,0,none⟩))->T.get tm' 8=some (.int .i64 (Ed ks i fs'[p i].lb.length:Nat))->
    W (runF envS n' ⟨29,Hb,BB,tm',td', .run, .normal,none⟩) s' Q:=by
   intro n' tm' td' s' hn' hT' x' hI' g0 g1 g13 g14 g15 g7 g8
   refine Aak_ (j:=p i) (kk:=Ed ks i fs'[p i].lb.length) (k:={k with fs:=fs'}) (x'.bnd hb0) hI' hil' g7 g8 (Fb_ ..) hus' (by show fs'.length<=300;rw[hC.1];exact hlen) hT' (by omega) λtd2 s2 v2 b2 hT2 hI2 x2=> ?_
   refine YH_.u ?_ hT2
   have ei':wrap64 ((i:Nat)+1:Int)=((i+1:Nat):Int):=by
    rw[Bc (by omega) (by omega)];simp
   simp only[Bh_,RR,SS,AO,g15,ei']
   have hn0:=x'.nxt
   have hC2:=(hC.succ (v:=v2) (b:=b2) hpl hil' (Fb_ ks i fs'[p i].lb.length) (λ⟨x,hx1,hx2⟩=>by have:=hpi x i (by omega) hil hx2;omega)).iff (V':=λt=> ∃x,x<i+1/\p x=t) λt=>⟨λh=>by
    rcases h with⟨x,hx1,hx2⟩|h
    ·exact⟨x,by omega,hx2⟩
    ·exact⟨i,by omega,h.symm⟩,λ⟨x,hx1,hx2⟩=>by
    by_cases hxi:x=i
    ·exact .inr (by rw[<-hx2,hxi])
    ·exact .inl ⟨x,by omega,hx2⟩⟩
   exact ih (i+1) _ _ _ _ _ _ (by omega) (by omega) Mf_ (x'.on x2 hb0 λy hy h=>by rw[hag y hy]at h;exact h) hI2 hC2 (λx hx=>(AG (by omega)).trans (hag x hx)) (by simp[T.get_set,g0]) (by simp[T.get_set,g1]) (by simp[T.get_set,g13]) (by simp[T.get_set,g14]) (by simp[T.get_set])
  refine Ls_.u ?_
  simp only[Tr,RR,SS,Nat.reduceEqDiff, ↓reduceIte,AC,h1,hk3.len]
  by_cases hki:i<ks.length
  ·refine aK V6 ?_
   refine Xe_.u ?_
   simp only[SF,RR,SS,Nat.reduceEqDiff, ↓reduceIte,Ai D2 (by decide)]
   refine aB B9 g.o1.at' ?_
   have x4:=x3.rdG hb0 (fs'[p i].blk+(0+1))
   have eo:wrap64 (((fs'[p i].lb.length:Nat):Int)+1)=((fs'[p i].lb.length+1:Nat):Int):=by
    rw[Bc (by omega) (by omega)];simp
   simp only[AO,MkS.lenq g.ml Sh,eo]
   obtain⟨kb,ko,kc,ekv,hko⟩:=hk3.at hki
   refine Acp_.u ?_
   simp only[Fi_,RR,SS,Nat.reduceEqDiff, ↓reduceIte,h1,ekv,By Mn hki]
   refine aB VU_ (hko.same (s':=s3.rdN (fs'[p i].blk+(0+1))) rfl rfl).at' ?_
   have x5:=x4.rdG hb0 (kb+(ko+i*1))
   have b1:(ks[i]).tmod ((fs'[p i].lb.length+1:Nat):Int)<((fs'[p i].lb.length+1:Nat):Int):=Int.tmod_lt_of_pos _ (by omega)
   have b2: -((fs'[p i].lb.length+1:Nat):Int)<(ks[i]).tmod ((fs'[p i].lb.length+1:Nat):Int):=by
    have:=Int.lt_tmod_of_pos ks[i] (b:=((fs'[p i].lb.length+1:Nat):Int)) (by omega)
    omega
   have ew:wrap64 ((ks[i]).tmod ((fs'[p i].lb.length+1:Nat):Int)+((fs'[p i].lb.length+1:Nat):Int))=(ks[i]).tmod ((fs'[p i].lb.length+1:Nat):Int)+((fs'[p i].lb.length+1:Nat):Int):=Bc (by omega) (by omega)
   have ek:ks[i]%((fs'[p i].lb.length+1:Nat):Int)=((Ed ks i fs'[p i].lb.length:Nat):Int):=by
    unfold Ed
    rw[dif_pos hki]
    have h2:=Int.emod_nonneg ks[i] (b:=((fs'[p i].lb.length+1:Nat):Int)) (by omega)
    omega
   simp only[AO,Rk_ (n:=fs'[p i].lb.length+1) (by omega),ew,KT_ (m:=fs'[p i].lb.length+1) (by omega),ek]
   exact fin _ _ _ _ (by omega) Wn_ x5 (hI3.same rfl rfl) (by simp[T.get_set,h0]) (by simp[T.get_set,h1,ekv]) (by simp[T.get_set,h13,ev]) (by simp[T.get_set,h14]) (by simp[T.get_set,h15]) (by simp[T.get_set]) (by simp[T.get_set])
  ·refine aH V6 ?_
   have ek:Ed ks i fs'[p i].lb.length=0:=by unfold Ed;rw[dif_neg hki]
   exact fin _ _ _ _ (by omega) rfl x3 hI3 (by simp[T.get_set,h0]) (by simp[T.get_set,h1]) (by simp[T.get_set,h13,ev]) (by simp[T.get_set,h14]) (by simp[T.get_set,h15]) (by simp[T.get_set]) (by rw[ek];simp[T.get_set])
end
section
variable {D M n:Nat}{k:DkS}{ks:List Int}{kv:Value}{col:Nat->Nat}{s:St}{a:ByteArray}{Q:Value->St->Prop}
theorem Pu_ (hb:s.lim<=s.next)(hI:DkI s col D M k){l':List ByteArray}{p:Nat->Nat}(hN:NmsTo (k.fs.map FileS.name) l')(hpr: ∀a∈l',HasP a ⟨#[]⟩)(hp: ∀i,i<k.fs.length->p i<k.fs.length)(hpi: ∀i j,i<k.fs.length->j<k.fs.length->p i=p j->i=j)(hlk: ∀i (h:i<l'.length),Az k.fs l'[i]=some (p i))(hz:k.used<=1000000)(hk:KsR s kv ks)(hck: ∀x,KsF kv x->1000<=col x/\x<s.next)(hn:40*k.fs.length+800<=n)
  (q: ∀s1 col' fs',After s s1 col col' D M {k with fs:=fs',fused:=false,left:=0,out:=false}->CrG k.fs fs' (λt=> ∃x,x<k.fs.length/\p x=t)->Q (.int .i64 0) s1):
  W (Ab envS (runF envS n) 29 [.pointer (some ⟨D,0,none⟩),kv]) s Q:=by
 have hb0:(s.cxN cxN).lim<=(s.cxN cxN).next:=hb
 have hlen:k.fs.length<=300:=by have:=hN.len;simpa using this
 have hnl:l'.length=k.fs.length:=by have:=hN.len';simpa using this
 have hI0:DkI (s.cxN cxN) (Av col s.next 1000) D M k:=(hI.col λx hx=>AG hx).same rfl rfl
 have hag: ∀x,x<s.next->Av col s.next 1000 x=col x:=λx hx=>AG hx
 have hnew: ∀x,s.next<=x->Av col s.next 1000 x=1000:=λx hx=>Ch hx
 have hDlt:D+6<s.next:=hI.d6.1
 generalize hcol1:Av col s.next 1000=col1 at *
 refine PI_ λtm t0 t1=> ?_
 refine La_.u ?_
 simp only[FY_,RR,SS]
 refine Abi_.u ?_
 simp only[Y8,RR,SS,reduceCtorEq, ↓reduceIte,t0]
 refine GM hb0 hI0.d0 (by omega) λs1 m1 n1 x1=> ?_
 have hI1:=hI0.same m1 n1
 have n1':s1.next=s.next:=n1
 refine aH IU_ ?_
 refine QU_.u ?_
 simp only[VN,RR,SS,reduceCtorEq, ↓reduceIte,t0]
 refine HY_ (p:=⟨#[]⟩) (x1.bnd hb0) hI1 hN hpr (by omega) λs2 v bN hbN hr x2=> ?_
 have y2:=x1.on x2 hb0 λ_ _ h=>h
 have hI2:=hI1.ext0 x2 hlen
 have hn2:s.next<=s2.next:=y2.nxt
 simp only[MkS.lenq hr IN]
 rw[hnl]
 have hks2:KsR s2 kv ks:=KsR.ext0 (hk.same (s':=s.cxN cxN) rfl rfl) y2
 refine Js_ (l':=l') (p:=p) (k:=k) (ks:=ks) (col0:=col1) (D:=D) (M:=M) (v:=v) (bN:=bN) (kv:=kv) (y2.bnd hb0) hlen hz hnl hp hpi hlk hr hks2 (λx hx=>by rw[hnew x (by have:=hx.2.1;omega)];exact Nat.le_refl _) (λx hx=>by have h1:=hck x hx;rw[hag x h1.2];omega) (λn' tm' td' s3 col' fs' hn' hT' h0 hI3 hC hag3 x3=> ?_) k.fs.length 0 _ _ _ _ col1 k.fs (by omega) (by omega) rfl (Ext.refl _) hI2 ⟨rfl,λt _ _=>⟨λ⟨x,hx,_⟩=>absurd hx (Nat.not_lt_zero _),λ_=>rfl⟩⟩ (λ_ _=>rfl) (by simp[T.get_set,t0]) (by simp[T.get_set,t1]) (by simp[T.get_set]) (by simp[T.get_set]) (by simp[T.get_set])
 have y3:=(y2.gw (G':=λx=>col1 x<1000) hb0 λ_ _ h=>h.elim).on x3 hb0 λy hy h=>h
 have hk0: ∀x,D<=x->x<D+7->col1 x<1000:=λx h1 h2=>by rw[hI0.kd x h1 h2];decide
 refine Sv_.u ?_ hT'
 simp only[QL,RR,SS,h0,Ai Kx (by decide)]
 refine aG Bx rfl hI3.d6 λs4 n4 x4 o4=> ?_
 have z4:Ext Any (λy=>y=D+6) s3 s4:=x4.weak (y3.bnd hb0) (λ_ _ _=>trivial) λy _ hq=>by have h1:=hq.1;have h2:=hq.2;omega
 have hI4:=hI3.own (st:=k.steps) (fu:=k.fused) (le:=k.left) (ou:=false) z4 (λy _ h=>by omega) (hI3.d3.ext z4 λh=>by omega) (hI3.d4.ext z4 λh=>by omega) (hI3.d5.ext z4 λh=>by omega) o4
 simp only[Ai Ii (by decide)]
 refine aG Bx rfl hI4.d4 λs5 n5 x5 o5=> ?_
 have y4:=y3.on z4 hb0 λy hy h=>hk0 y (by omega) (by omega)
 have z5:Ext Any (λy=>y=D+4) s4 s5:=x5.weak (y4.bnd hb0) (λ_ _ _=>trivial) λy _ hq=>by have h1:=hq.1;have h2:=hq.2;omega
 have hI5:=hI4.own (st:=k.steps) (fu:=false) (le:=k.left) (ou:=false) z5 (λy _ h=>by omega) (hI4.d3.ext z5 λh=>by omega) o5 (hI4.d5.ext z5 λh=>by omega) (hI4.d6.ext z5 λh=>by omega)
 simp only[Ai Jm (by decide)]
 refine aG Au rfl hI5.d5 λs6 n6 x6 o6=> ?_
 have y5:=y4.on z5 hb0 λy hy h=>hk0 y (by omega) (by omega)
 have z6:Ext Any (λy=>y=D+5) s5 s6:=x6.weak (y5.bnd hb0) (λ_ _ _=>trivial) λy _ hq=>by have h1:=hq.1;have h2:=hq.2;omega
 have hI6:=hI5.own (st:=k.steps) (fu:=false) (le:=0) (ou:=false) z6 (λy _ h=>by omega) (hI5.d3.ext z6 λh=>by omega) (hI5.d4.ext z6 λh=>by omega) o6 (hI5.d6.ext z6 λh=>by omega)
 have y6:=y5.on z6 hb0 λy hy h=>hk0 y (by omega) (by omega)
 refine Rj_.u ?_
 simp only[Ql,RR,SS]
 refine aC (rs:=[4]) (vs:=[.int .i64 0]) rfl (.inl Aae_) (by omega) Zm UA_ y6.cx (by simp[T.get_set]) ?_
 exact q _ col' fs' ⟨hI6.same rfl rfl,λx hx=>(hag3 x (by omega)).trans (hag x hx),(y6.gw hb0 λy hy h=>by rw[<-hag y hy];exact h).cx'⟩ hC
