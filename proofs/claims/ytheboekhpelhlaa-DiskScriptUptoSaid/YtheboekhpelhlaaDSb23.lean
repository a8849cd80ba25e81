import Derived.Test.YtheboekhpelhlaaDSb22
namespace Go.Proofs.Ytheboekhpelhlaa.Am
open Go.RowKit
theorem Qf_:envS.orc.get 20=some usedM:=X
theorem OM {call round:Ag}{f:Nat}{l:List Value}:AU call round (.func (.func f) #[] #[]) l=call f l:=by
 show call f ([]++(l++[]))=_
 rw[List.append_nil,List.nil_append]
theorem Bs.lenq {E:Env}{s s':St}{t sz:Nat}{v:Value}{l:List Nat}(h:Bs s v l)(ht:slN E t=some sz)(Q:Value->St->Prop):W (AH E .len [t] [v]) s' Q=Q (.int .i64 (l.length:Nat)) s':=by
 obtain⟨p,c,rfl⟩:=h.sl
 exact Bt ht Q
theorem Bs.oneq {s:St}{v:Value}{l:List Nat}(h:Bs s v l):oneCell v=true:=by
 obtain⟨p,c,rfl⟩:=h.sl
 rfl
theorem W.usedD {D Mp:Nat}{k:DkS}{col:Nat->Nat}{s:St}{β:Type}{n:Nat}{f:Value×OpLog->M β}{Q:β->St->Prop}(hI:DkI s col D Mp k)(hz:k.used<=5000000)(q: ∀rd,(∀x∈rd,x<s.next)->W (f (.int .i64 (k.used:Nat),⟨s.next,s.next,rd,[]⟩)) (dSt s.mem s.next) Q):W (M.bind (apartO (Ac envS (runF envS n) 20 [.pointer (some ⟨D,0,none⟩)])) f) (dSt s.mem s.next) Q:=by
 refine aO (W.orc Qf_ (W.used (s:=oSt s.mem s.next) (Nat.le_refl _) (hI.d0.same rfl rfl).at' (hI.d1.same rfl rfl).at' (hI.om.same rfl rfl) hI.bo (ns:=k.fs.map λf=>f.sb.length+f.lb.length) am (λi e n h1 h2=>(hI.lens i e n h1 h2).same rfl rfl) λs1 m1 n1 x1=>⟨Any,x1,λrd hr=> ?_⟩))
 have e:wrap64 (((k.fs.map λf=>f.sb.length+f.lb.length).sum:Nat):Int)=((k.used:Nat):Int):=by
  show wrap64 ((k.used:Nat):Int)=_
  exact Bh J J
 rw[e,m1,n1]
 exact q rd λx hx=>(hr x hx).1
theorem DkI.own {F G:Nat->Prop}{s s':St}{col:Nat->Nat}{D M:Nat}{k:DkS}{st le:Int}{fu ou:Bool}(h:DkI s col D M k)(x:Ext F G s s')(hG: ∀y,y<s.next->G y->D+3<=y/\y<D+7)(h3:Own s' D 3 (.int .i64 st))(h4:Own s' D 4 (.bool fu))(h5:Own s' D 5 (.int .i64 le))(h6:Own s' D 6 (.bool ou)):DkI s' col D M {k with steps:=st,fused:=fu,left:=le,out:=ou}:=by
 have c: ∀o,o<3->D+o<s.next-> ¬G (D+o):=λo ho hn g=>by have:=hG _ hn g;omega
 have z: ∀y,y<s.next->G y->col y=0:=λy hy g=>h.kd y (by have:=hG y hy g;omega) (by have:=hG y hy g;omega)
 exact⟨h.d0.ext x (c 0 al h.d0.1),h.d1.ext x (c 1 al h.d1.1),h.d2.ext x (c 2 al h.d2.1),h3,h4,h5,h6,h.kd,h.om.ext x λg=>by
  have h1:=z _ h.om.1 g
  have h2:=h.km
  omega,h.km,h.bo,λi hi=>(h.fl i hi).ext x λy hy g=>by
  have h1:=z y hy g
  omega⟩
section
variable {n D M:Nat}{s:St}{k:DkS}{col:Nat->Nat}{a:ByteArray}{bv:Value}{l:List Nat}{Q:Value->St->Prop}
theorem AhQ_ (hb:s.lim<=s.next)(hI:DkI s col D M k)(hlen:k.fs.length<=300)(hB:Bs s bv l)(hBc: ∀x,BsF bv x->x<s.next/\1000<=col x)(hz:k.used+l.length<=4000000)(hn:10*a.size+900<=n)
  (q0:k.out=false->AC a=false-> ∀s1 col',After s s1 col col' D M k->Q (.int .i64 2) s1)
  (q1:k.out=true-> ∀s1 col',After s s1 col col' D M k->Q (.int .i64 10) s1)
  (q2:k.out=false->AC a=true->k.room<(k.used+l.length:Nat)-> ∀s1 col',After s s1 col col' D M k->Q (.int .i64 8) s1)
  (q3:k.out=false->AC a=true->((k.used+l.length:Nat):Int)<=k.room->(k.fused=true/\k.left=0)-> ∀s1 col',After s s1 col col' D M {k with out:=true}->Q (.int .i64 10) s1)
  (q4:k.out=false->AC a=true->((k.used+l.length:Nat):Int)<=k.room-> ¬(k.fused=true/\k.left=0)-> ∀s1 col' blk v b,After s s1 col col' D M {k with fs:=CV k a blk v b l,mx:=Gw k a,steps:=wrap64 (k.steps+1),left:=if k.fused then wrap64 (k.left-1)else k.left}->Q (.int .i64 0) s1):
  W (Ac envS (runF envS n) 19 [.pointer (some ⟨D,0,none⟩), .string a,bv]) s Q:=by
 have hb0:(s.cxN cxN).lim<=(s.cxN cxN).next:=hb
 have hI0:DkI (s.cxN cxN) (paint col s.next 1000) D M k:=(hI.col λx hx=>AX hx).same rfl rfl
 have hag: ∀x,x<s.next->paint col s.next 1000 x=col x:=λx hx=>AX hx
 have hnew: ∀x,s.next<=x->paint col s.next 1000 x=1000:=λx hx=>C2 hx
 have hBc': ∀x,BsF bv x->1000<=paint col s.next 1000 x:=λx hx=>by rw[hag x (hBc x hx).1];exact(hBc x hx).2
 have hDlt:D+6<s.next:=hI.d6.1
 generalize hcol1:paint col s.next 1000=col1 at *
 refine Yy_ λtm t0 t1 t2=> ?_
 refine Aaj_.u ?_
 simp only[Fl_,RR,SS,Nat.reduceEqDiff, ↓reduceIte,t0]
 refine W.box λsa na xa oa=> ?_
 have ea:(s.cxN cxN).next=s.next:=rfl
 rw[CK (show oneCell (.pointer (some ⟨D,0,none⟩))=true from rfl)]at na oa
 rw[ea]at oa na ⊢
 have na':sa.next=s.next+2:=na
 simp only[SS,t1]
 refine W.box λsb nb xb ob=> ?_
 rw[CK (show oneCell (.string a)=true from rfl)]at nb ob
 rw[na']at ob nb ⊢
 have nb':sb.next=s.next+4:=nb
 simp only[SS,t2]
 refine W.box λsc nc xc oc=> ?_
 rw[CK hB.oneq]at nc oc
 rw[nb']at oc nc ⊢
 have nc':sc.next=s.next+6:=nc
 have yc:=(((Ext.refl (F:=Any) (G:=Non) (s.cxN cxN)).on xa hb0 λ_ _ h=>h).on xb hb0 λ_ _ h=>h).on xc hb0 λ_ _ h=>h
 have c0:Own sc s.next 0 (.pointer (some ⟨D,0,none⟩)):=((oa 0 _ rfl).ext0 xb).ext0 xc
 have c2:Own sc (s.next+2) 0 (.string a):=(ob 0 _ rfl).ext0 xc
 have c4:Own sc (s.next+4) 0 bv:=oc 0 _ rfl
 have hIc:DkI sc col1 D M k:=hI0.ext0 yc hlen
 have hBsc:Bs sc bv l:=(hB.same (s':=s.cxN cxN) rfl rfl).ext0 yc
 refine Xs_.u ?_
 simp only[Kx_,RR,SS,Nat.reduceEqDiff, ↓reduceIte]
 refine aA Ci c0.at' ?_
 have yd:=yc.thenRd hb0 (s.next+0)
 refine I2 (o:=k.out) (yd.bnd hb0) (hIc.d0.same rfl rfl) (hIc.d6.same rfl rfl) J λs1 m1 n1 x1=> ?_
 have y1:=yd.on x1 hb0 λ_ _ h=>h
 have m1':s1.mem=sc.mem:=m1
 have n1':s1.next=s.next+6:=by have:s1.next=sc.next:=n1;omega
 have hI1:DkI s1 col1 D M k:=hIc.same m1' J
 have d0:=c0.same m1' (show s1.next=sc.next by omega)
 have d2:=c2.same m1' (show s1.next=sc.next by omega)
 have d4:=c4.same m1' (show s1.next=sc.next by omega)
 have hB1:=hBsc.same m1' (show s1.next=sc.next by omega)
 refine Aow_.u ?_
 cases ho:k.out with
 |true=>
  simp only[Sj,RR,SS, ↓reduceIte,Cr]
  refine aJ QM_ ?_
  refine Adi_.u ?_
  simp only[TD,RR,SS,Nat.reduceEqDiff, ↓reduceIte]
  refine aB (rs:=[6]) (vs:=[.int .i64 10]) rfl (.inl TH_) J GY HS y1.cx Y ?_
  exact q1 ho _ col1 ⟨hI1.same rfl rfl,hag,(y1.gw hb0 λ_ _ h=>h.elim).cx'⟩
 |false=>
  simp only[Sj,RR,SS,reduceCtorEq, ↓reduceIte,Cr]
  refine aG QM_ ?_
  refine Akg_.u ?_
  simp only[Ax_,RR,T.get_set,Nat.reduceEqDiff,reduceIte,Aa]
  refine aD Ci ((d0.same (s':=dSt s1.mem s1.next) rfl rfl).at') λrd0 hr0=> ?_
  try simp only[Aa]
  rw[W_dq λs Q=>AD (s:=s) _ Q]
  dsimp only
  try simp only[Aa]
  rw[W_dq λs Q=>Ab (s:=s) B4 al Q]
  dsimp only
  try simp only[Aa]
  refine aD B7 ((hI1.d1.same (s':=dSt s1.mem s1.next) rfl rfl).at') λrd3 hr3=> ?_
  refine aD AQ ((d2.same (s':=dSt s1.mem s1.next) rfl rfl).at') λrd4 hr4=> ?_
  try simp only[Aa]
  refine aO (DE (s:=oSt s1.mem s1.next) (fs:=k.fs) (mx:=k.mx) (hI1.om.same rfl rfl) ⟨Any,Ext.rdN (F:=Any) (G:=Non) _ M λ_=>trivial,λrd5 hr5=> ?_⟩)
  show W _ (dSt s1.mem s1.next) _
  refine aO (W.alloc (s:=oSt s1.mem s1.next) Sm λs2 n2 x2 o2=>⟨Non,x2,λrd6 hr6=> ?_⟩)
  obtain rfl:=CU (λx hx=>(hr6 x hx).2)
  have n2':s2.next=s.next+8:=by
   have:s2.next=s1.next+2:=n2
   omega
  simp only[E8,AI]
  refine⟨CP ?_, ?_⟩
  ·simp only[List.reverse_cons,List.reverse_nil,List.nil_append,List.cons_append,allP,BS,List.take,Cu]
   have lts: ∀x,s1.next<=x-> ¬x<s1.next:=λx h=>J
   have e5: ∀x,x∈rd5->s1.next<=x->False:=λx h1 h2=>by have:=(hr5 x h1).1;omega
   simp+contextual [lts]
  ·refine aK (WR_ _ _ _ _ _ _ _ _ _ _ _ _) ?_
   simp only[SS]
   generalize hs':(⟨(dSt s2.mem s2.next).mem,(dSt s2.mem s2.next).next,s1.lim,_,_,s1.cx⟩:St)=s3
   have m3:s3.mem=s2.mem:=by rw[<-hs'];rfl
   have n3:s3.next=s2.next:=by rw[<-hs'];rfl
   have x3:Ext Any Non s1 s3:=by
    rw[<-hs']
    exact Ext.draw (F:=Any) (by show s1.next<=s2.next;omega) (λx hx=>x2.mem x hx λh=>h) am λ_ _ _ _ _=>trivial
   have y3:=y1.on x3 hb0 λ_ _ h=>h.elim
   have hlv:oneCell (AG k.fs a)=true:=by
    unfold AG
    cases An k.fs a with
    |none=>rfl
    |some j=>simp only;cases k.fs[j]?<;>rfl
   have oK3:Own s3 s1.next 0 (.pointer none):=(o2 0 _ rfl).same m3 n3
   rw[show(oSt s1.mem s1.next).next=s.next+6 from n1'] 
   rw[n1']at oK3
   refine aI Ca hlv oK3 λs4 n4 x4 o4=> ?_
   have x4':Ext Any (λy=>y=s.next+6) s3 s4:=x4.weak (y3.bnd hb0) (λ_ _ _=>trivial) λy _ hq=>by have h1:=hq.1;have h2:=hq.2;omega
   have y4:Ext Any Non (s.cxN cxN) s4:=y3.on x4' hb0 λy hy h=>by have:y<s.next:=hy;omega
   have hI4:DkI s4 col1 D M k:=(hI1.ext0 x3 hlen).ext x4' hlen λy _ h=>by rw[hnew y J];exact Nat.le_refl _
   have keep: ∀o u,o<6->Own s1 (s.next+o) 0 u->Own s4 (s.next+o) 0 u:=λo u ho hu=>(hu.ext0 x3).ext x4' λh=>J
   have e0:=keep 0 _ al d0
   have e2:=keep 2 _ al d2
   have e4:=keep 4 _ al d4
   have hB4:Bs s4 bv l:=(Bs.ext0 hB1 x3).ext x4' λx hx h=>by have:=(hBc x hx).1;omega
   have n4':s4.next=s.next+8:=J
   refine Aez_.u ?_
   simp only[T3,RR,SS,Nat.reduceEqDiff, ↓reduceIte]
   refine aA AQ e2.at' ?_
   have y5:=y4.thenRd hb0 (s.next+2+0)
   refine Nt_ (y5.bnd hb0) J λs6 x6=> ?_
   have y6:=y5.on x6 hb0 λ_ _ h=>h
   have x46:Ext Any Non s4 s6:=((Ext.refl (F:=Any) (G:=Non) s4).thenRd (y4.bnd hb0) _).on x6 (y4.bnd hb0) λ_ _ h=>h
   have hI6:=hI4.ext0 x46 hlen
   have f0:=e0.ext0 x46
   have f2:=e2.ext0 x46
   have f4:=e4.ext0 x46
   have fK:=o4.ext0 x46
   have hB6:=Bs.ext0 hB4 x46
   simp only[A5]
   cases hnb:AC a with
   |false=>
    refine aJ DU_ ?_
    refine AnA_.u ?_
    simp only[Zl,RR,SS]
    refine aB (rs:=[6]) (vs:=[.int .i64 2]) rfl (.inl Aa_) J GY HS y6.cx Y ?_
    exact q0 ho hnb _ col1 ⟨hI6.same rfl rfl,hag,(y6.gw hb0 λ_ _ h=>h.elim).cx'⟩
   |true=>
   refine aG DU_ ?_
   refine Aop_.u ?_
   have full: ∀(n':Nat) (tm':T Value) (td':List Item) (s':St),n<=n'+20->skim 64 td'=Jz->Ext Any Non (s.cxN cxN) s'->Ext Any Non s6 s'->T.get tm' 3=some (.pointer (some ⟨s.next,0,none⟩))->T.get tm' 4=some (.pointer (some ⟨s.next+2,0,none⟩))->T.get tm' 5=some (.pointer (some ⟨s.next+4,0,none⟩))->T.get tm' 8=some (.pointer (some ⟨s.next+6,0,none⟩))->
     W (runF envS n' ⟨19,AnP_,Cn,tm',td', .run, .normal,none⟩) s' λp s1=>Q p.1 (s1.cxN s.cx):=by
    intro n' tm' td' s' hn' hT' y' x' g3 g4 g5 g8
    have hI':=hI6.ext0 x' hlen
    have p0:=f0.ext0 x'
    have p4:=f4.ext0 x'
    have pK:=fK.ext0 x'
    have p2:=f2.ext0 x'
    have hB':=Bs.ext0 hB6 x'
    refine UG_.u ?_ hT'
    simp only[Hb_,RR,g3,g5,Aa,Cb,A0,A3,AW,OM]
    refine aD Ci ((p0.same (s':=dSt s'.mem s'.next) rfl rfl).at') λrd0 hr0=> ?_
    try simp only[Cb]
    refine W.usedD hI' J λrd1 hr1=> ?_
    refine aD A2 ((p4.same (s':=dSt s'.mem s'.next) rfl rfl).at') λrd2 hr2=> ?_
    try simp only[Aa]
    rw[W_dq λs Q=>Bs.lenq (s':=s) hB' BH Q]
    dsimp only
    try simp only[Aa]
    rw[W_dq λs Q=>Hr (s:=s) _ _ Q]
    have es:wrap64 (((k.used:Nat):Int)+((l.length:Nat):Int))=((k.used+l.length:Nat):Int):=by
     rw[Bh J J];omega
    rw[es]
    dsimp only
    refine aD Ci ((p0.same (s':=dSt s'.mem s'.next) rfl rfl).at') λrd5 hr5=> ?_
    try simp only[Aa]
    rw[W_dq λs Q=>AD (s:=s) _ Q]
    dsimp only
    try simp only[Aa]
    rw[W_dq λs Q=>Ab (s:=s) VI al Q]
    dsimp only
    try simp only[Aa]
    refine aD Bv ((hI'.d2.same (s':=dSt s'.mem s'.next) rfl rfl).at') λrd8 hr8=> ?_
    try simp only[Aa]
    rw[W_dq λs Q=>Ck (s:=s) (Q:=Q) _ _,AI]
    refine⟨BZ am am, ?_⟩
    refine aK (Ajt_ _ _ _ _ _ _ _ _ _ _ _ _ _ _ _) ?_
    simp only[SS]
    generalize hs':(⟨(dSt s'.mem s'.next).mem,(dSt s'.mem s'.next).next,s'.lim,_,_,s'.cx⟩:St)=s7
    have x7:Ext Any Non s' s7:=by
     rw[<-hs']
     exact Ext.draw (F:=Any) (Nat.le_refl _) (λ_ _=>rfl) am λ_ _ _ _ _=>trivial
    have y7:=y'.on x7 hb0 λ_ _ h=>h
    have hI7:=hI'.ext0 x7 hlen
    have r0:=p0.ext0 x7
    have r2:=p2.ext0 x7
    have r4:=p4.ext0 x7
    have rK:=pK.ext0 x7
    have hB7:=Bs.ext0 hB' x7
    by_cases hfu:k.room<((k.used+l.length:Nat):Int)
    ·refine aJ MH_ ?_ Fn_ (by simp[T.get_set];exact hfu)
     refine Aoi_.u ?_
     simp only[YF,RR,SS]
     refine aB (rs:=[6]) (vs:=[.int .i64 8]) Yt_ (.inl Aa_) J GY HS y7.cx Y ?_
     exact q2 ho hnb hfu _ col1 ⟨hI7.same rfl rfl,hag,(y7.gw hb0 λ_ _ h=>h.elim).cx'⟩
    ·refine aG MH_ ?_ Fn_
     refine ApX_.u ?_
     simp only[PX_,RR,SS,Nat.reduceEqDiff, ↓reduceIte,g3,g4,g5,g8]
     refine aA Ci r0.at' ?_
     have y8:=y7.thenRd hb0 (s.next+0)
     have hI8:DkI (s7.rdN (s.next+0)) col1 D M k:=hI7.same rfl rfl
     have u0:Own (s7.rdN (s.next+0)) s.next 0 (.pointer (some ⟨D,0,none⟩)):=r0.same rfl rfl
     have u2:Own (s7.rdN (s.next+0)) (s.next+2) 0 (.string a):=r2.same rfl rfl
     have u4:Own (s7.rdN (s.next+0)) (s.next+4) 0 bv:=r4.same rfl rfl
     have uK:Own (s7.rdN (s.next+0)) (s.next+6) 0 (AG k.fs a):=rK.same rfl rfl
     have hB8:Bs (s7.rdN (s.next+0)) bv l:=hB7.same rfl rfl
     generalize s7.rdN (s.next+0)=s8 at *
     have hD0:=hI8.kd
     refine KQ (f2:=51) (y8.bnd hb0) hI8.d3 hI8.d4 hI8.d5 hI8.d6 J (λhf s9 n9 x9 o9=> ?_) λhf n9 s9 hn9 hcx9 hnx9 x9 o93 o95=> ?_
     ·have y9:Ext Any (λx=>col1 x<1000) (s.cxN cxN) s9:=(y8.gw hb0 λ_ _ h=>h.elim).on x9 hb0 λy _ h=>by rw[h,hD0 (D+6) J J];decide
      refine aB (rs:=[6]) (vs:=[.int .i64 10]) rfl (.inl WT) J GY HS y9.cx Y ?_
      have hd:Ext Any (λy=>y=D+6) s8 s9:=x9
      have hI9:=hI8.own (st:=k.steps) (fu:=k.fused) (le:=k.left) (ou:=true) hd (λy _ h=>J) (hI8.d3.ext hd λh=>J) (hI8.d4.ext hd λh=>J) (hI8.d5.ext hd λh=>J) o9
      exact q3 ho hnb J hf _ col1 ⟨hI9.same rfl rfl,hag,(y9.gw hb0 λy hy h=>by rw[<-hag y hy];exact h).cx'⟩
     ·have hd:Ext Any (λy=>y=D+3\/y=D+5) s8 (s9.cxN s8.cx):=x9
      have hI9':=hI8.own (st:=wrap64 (k.steps+1)) (fu:=k.fused) (le:=if k.fused then wrap64 (k.left-1)else k.left) (ou:=k.out) hd (λy _ h=>J) (o93.same rfl rfl) (hI8.d4.ext hd λh=>J) (o95.same rfl rfl) (hI8.d6.ext hd λh=>J)
      have hI9:=hI9'.same (s':=s9) rfl rfl
      have v0:=(u0.ext hd λh=>J).same (s':=s9) rfl rfl
      have v2:=(u2.ext hd λh=>J).same (s':=s9) rfl rfl
      have v4:=(u4.ext hd λh=>J).same (s':=s9) rfl rfl
      have vK:=(uK.ext hd λh=>J).same (s':=s9) rfl rfl
      have hB9:Bs s9 bv l:=(hB8.ext hd λx hx h=>by
       have h1:=hBc' x hx
       have h2:=hD0 x J J
       omega).same rfl rfl
      have y9:Ext Any (λx=>col1 x<1000) (s.cxN cxN) (s9.cxN s8.cx):=(y8.gw hb0 λ_ _ h=>h.elim).on hd hb0 λy _ h=>by rw[hD0 y J J];decide
      have y9':Ext Any (λx=>col1 x<1000) (s.cxN cxN) s9:=⟨y9.nxt,y9.lim,hcx9,y9.mem,y9.rd,y9.wr⟩
      have hn9':s9.next=s8.next:=hnx9
      show W (Ac envS (runF envS n9) 51 [.pointer (some ⟨s.next+6,0,none⟩), .pointer (some ⟨s.next,0,none⟩), .pointer (some ⟨s.next+2,0,none⟩), .pointer (some ⟨s.next+4,0,none⟩)]) s9 _
      refine Age_ (C:=s.next) (K:=s.next+6) (y9'.bnd hb0) hI9 hlen hB9 v0 v2 v4 vK (λx h1 h2=>by rw[hnew x h1];exact Nat.le_refl _) (by rw[hnew _ J];exact Nat.le_refl _) (λx hx=>⟨λh=>by have:=(hBc x hx).1;omega,hBc' x hx⟩) (.inr J) (by show DkS.used _+_<=_;exact hz) J λs10 col' blk v b hI10 hag10 x10=> ?_
      refine⟨x10.cx.trans hcx9, ?_⟩
      have y10:=y9'.on x10 hb0 λy hy h=>by
       have h0:y<s.next:=hy
       rcases h with h|h
       ·exact h
       ·omega
      have e8:s8.cx=cxN:=y8.cx
      rw[e8]
      refine aB (rs:=[6]) (vs:=[.int .i64 0]) rfl (.inl WT) J GY HS rfl Y ?_
      have hn8:s.next<=s8.next:=y8.nxt
      exact q4 ho hnb J hf _ col' blk v b ⟨hI10.same rfl rfl,λx hx=>(hag10 x J).trans (hag x hx),(y10.gw hb0 λy hy h=>by rw[<-hag y hy];exact h).cx'⟩
   simp only[XS,RR,SS,Nat.reduceEqDiff, ↓reduceIte]
   refine aA Ca fK.at' ?_
   have y7:=y6.thenRd hb0 (s.next+6+0)
   have x7:=(Ext.refl (F:=Any) (G:=Non) s6).thenRd (y6.bnd hb0) (s.next+6+0)
   cases hj:An k.fs a with
   |none=>
    have hv:AG k.fs a= .pointer none:=by unfold AG;rw[hj]
    rw[hv]
    simp only[SS, ↓reduceIte,Fb]
    refine aA Ci (f0.same (s':=s6.rdN (s.next+6+0)) rfl rfl).at' ?_
    simp only[AD,Ab B4 al]
    refine aA B7 (hI6.d1.same rfl rfl).at' ?_
    refine W.lenM Aeo_ (hI6.om.same rfl rfl) ?_
    have e7:decide ((1000:Int)<=((k.fs.map FileS.ent).length:Nat))=false:=by
     rw[List.length_map]
     exact decide_eq_false J
    simp only[B9,e7]
    refine aG Nf_ ?_
    exact full _ _ _ _ J rfl (((y7.thenRd hb0 _).thenRd hb0 _).thenRd hb0 _) (((x7.thenRd (y6.bnd hb0) _).thenRd (y6.bnd hb0) _).thenRd (y6.bnd hb0) _) Y Y Y Y
   |some j=> 
    have hlt:=Dh hj
    have hv:AG k.fs a= .pointer (some ⟨k.fs[j].blk,0,none⟩):=by
     unfold AG
     rw[hj]
     simp only[List.getElem?_eq_getElem hlt]
    rw[hv]
    simp only[AI,Bk,Hk,Fy,EP,Df,reduceCtorEq, ↓reduceIte,C5 ED]
    refine aG Nf_ ?_
    exact full _ _ _ _ J rfl y7 x7 Y Y Y Y
end
section
variable {E:Env}{s s':St}{t:Nat}{xo yo:Operand}
theorem AjU_ (m n:Nat)(hn:1<=n)(hm:m<=9223372036854775807):Cl.get (aBin E .quo t xo yo) (.int .i64 (m:Nat)) (.int .i64 (n:Nat)) s= .some (.int .i64 (m/n:Nat)) s:=by
 show int3 quoK (AJ E .quo t xo yo) (.int .i64 (.ofNat m)) (.int .i64 (.ofNat n)) s=_
 show Option.rec (motive:=λ_=>R Value) _ (λv=> .some v s) (quoK .i64 .i64 m n)=_
 have:quoK .i64 .i64 m n=some (.int .i64 (m/n:Nat)):=by
  unfold quoK B0
  rw[Nat.beq_refl,Nat.ble_eq_true_of_le hn]
  exact AfI_ (Nat.le_trans (Nat.div_le_self m n) hm)
 rw[this]
theorem JP {m:Nat}(hm:m<=9223372036854775807)(Q:Value->St->Prop):W (Cl.get (aBin E .quo t xo yo) (.int .i64 (m:Nat)) (.int .i64 8)) s Q=Q (.int .i64 (m/8:Nat)) s:=As (AjU_ m 8 al hm)
theorem UD {m:Nat}(Q:Value->St->Prop):W (Cl.get (aBin E .rem t xo yo) (.int .i64 (m:Nat)) (.int .i64 8)) s Q=Q (.int .i64 (m%8:Nat)) s:=AK_ (n:=8) al Q
theorem MkS.bs {l:List Nat}{v:Value}{b:Nat}(h:MkS s 1 l.length (u8l l) v b)(hn:l.length<capU):Bs s v l:=by
 rcases h with⟨rfl,h0,_⟩|⟨h,_⟩
 ·exact .inl ⟨rfl,List.eq_nil_of_length_eq_zero h0⟩
 ·refine .inr ⟨b,0,_,h.val, ?_,D9 hn al,λi u e=>(h.own i u e).at'⟩
  rw[Nat.mul_add_mod,Nat.mod_eq_of_lt hn]
  exact Nat.le_refl _
theorem MkS.put {l:List Nat}{k x:Nat}{v:Value}{b:Nat}{G:Nat->Prop}(h:MkS s 1 l.length (u8l l) v b)(hk:k<l.length)(hn:s'.next=s.next)(e:Ext G (In b k 1) s s')(ho:Own s' b k (.int .u8 (x:Nat))):MkS s' 1 (l.set k x).length (u8l (l.set k x)) v b:=by
 rw[List.length_set]
 rcases h with⟨_,h0,_⟩|⟨h,h0⟩
 ·omega
 ·refine .inr ⟨⟨h.val,λi u hi=> ?_, ?_, ?_,by rw[hn];exact h.lt⟩,h0⟩
  ·by_cases hik:i=k
   ·subst hik
    unfold u8l at hi
    rw[List.getElem?_map,List.getElem?_set_self hk]at hi
    have:u= .int .u8 (x:Nat):=by injection hi with hi;exact hi.symm
    subst this
    rwa [Nat.zero_add]
   ·have hi':(u8l l)[i]?=some u:=by
     unfold u8l at hi ⊢
     rw[List.getElem?_map,List.getElem?_set_ne (λq=>hik q.symm)]at hi
     rw[List.getElem?_map]
     exact hi
    exact(h.own i u hi').ext e λq=>by
     have h1:=In1.1 q
     omega
  ·rw[Br,List.length_set,Nat.mul_one]
  ·have hlt:b+l.length*1<s.next:=h.lt
   rw[e.mem _ hlt λq=>by have h1:=In1.1 q;omega]
   exact h.tok
theorem MkS.get {l:List Nat}{k:Nat}{v:Value}{b:Nat}(h:MkS s 1 l.length (u8l l) v b)(hk:k<l.length): ∃c,v= .slice (some ⟨b,0,none⟩) l.length c/\Own s b k (.int .u8 (l.getD k 0:Nat)):=by
 rcases h with⟨_,h0,_⟩|⟨h,h0⟩
 ·omega
 ·refine⟨_,h.val, ?_⟩
  have:=h.own k (.int .u8 (l.getD k 0:Nat)) (by
   unfold u8l
   rw[List.getElem?_map,List.getElem?_eq_getElem hk,List.getD_eq_getElem?_getD,List.getElem?_eq_getElem hk]
   rfl)
  rwa [Nat.zero_add]at this
end
def FileS.kept (f:FileS)(v:Value)(b:Nat)(m:List Nat):FileS:={f with sv:=v,sbk:=b,sb:=m,lv:= .slice none 0 0,lbk:=0,lb:=[]}
theorem FileI.kept {F:Nat->Prop}{s s':St}{col:Nat->Nat}{c b:Nat}{v:Value}{m:List Nat}{f:FileS}(h:FileI s col c f)(x:Ext F (λy=>y=f.blk\/y=f.blk+1\/MkF 1 f.sb.length f.sbk y) s s')(h0:Own s' f.blk 0 v)(h1:Own s' f.blk 1 (.slice none 0 0))(hm:MkS s' 1 m.length (u8l m) v b)(hb:b=f.sbk/\m.length=f.sb.length\/s.next<=b):FileI s' (paint col s.next (c+1)) c (f.kept v b m):=by
 have b1:=h.o1.1
 refine⟨h0,h1,λy q1 q2=>(AX (by have h3:y<f.blk+2:=q2;omega)).trans (h.k y q1 q2),hm,λy hy=> ?_, .inl ⟨rfl,rfl,rfl⟩,λy hy=>absurd hy.1 (Nat.lt_irrefl 0)⟩
 have hy':MkF 1 m.length b y:=hy
 rcases hb with⟨q1,q2⟩|q1
 ·rw[q1,q2]at hy'
  exact(AX (h.ms.lt y hy')).trans (h.ks y hy')
 ·exact C2 (by have:=hy'.2.1;omega)
theorem FileS.kept_ent (f:FileS)(v:Value)(b:Nat)(m:List Nat):(f.kept v b m).ent=f.ent:=rfl
theorem ZC_:AiO_=[]:=X
section
variable {n D M K j:Nat}{s:St}{k:DkS}{col:Nat->Nat}{a:ByteArray}{Q:Value->St->Prop}
theorem YQ_ (hb:s.lim<=s.next)(hI:DkI s col D M k)(hj:j<k.fs.length)(hK:Own s K 0 (.pointer (some ⟨k.fs[j].blk,0,none⟩)))(kK:1000<=col K)(hlen:k.fs.length<=300)(hz:k.used<=4000000)(hn:20<=n)
  (q: ∀s1 col' v b,DkI s1 col' D M {k with fs:=k.fs.set j (k.fs[j].kept v b (k.fs[j].sb++k.fs[j].lb))}->(∀x,x<s.next->col' x=col x)->Ext Any (λx=>col x<1000) s s1->Q (.tuple #[]) s1):
  W (Ac envS (runF envS n) 53 [.pointer (some ⟨K,0,none⟩)]) s Q:=by
 have hb0:(s.cxN cxN).lim<=(s.cxN cxN).next:=hb
 have hused:=aV hj
 refine Aal_ λtm t0=> ?_
 have g:FileI (s.cxN cxN) col (2+3*j) k.fs[j]:=(hI.fl j hj).same rfl rfl
 have hI0:DkI (s.cxN cxN) col D M k:=hI.same rfl rfl
 have hK0:Own (s.cxN cxN) K 0 (.pointer (some ⟨k.fs[j].blk,0,none⟩)):=hK.same rfl rfl
 have hn0:(s.cxN cxN).next=s.next:=rfl
 have hcx:(s.cxN cxN).cx=cxN:=rfl
 generalize hs0:s.cxN cxN=s0 at *
 have kKs: ∀x,MkF 1 k.fs[j].sb.length k.fs[j].sbk x->x≠K:=λx hx h=>by have:=g.ks x hx;rw[h]at this;omega
 have k0:=g.k k.fs[j].blk (Nat.le_refl _) J
 have k1:=g.k (k.fs[j].blk+1) J J
 refine Abp_.u ?_
 simp only[YN,RR,t0,Aa]
 refine aD Ca ((hK0.same (s':=dSt s0.mem s0.next) rfl rfl).at') λrd0 hr0=> ?_
 refine aD Ca ((hK0.same (s':=dSt s0.mem s0.next) rfl rfl).at') λrd1 hr1=> ?_
 refine aD Ca ((hK0.same (s':=dSt s0.mem s0.next) rfl rfl).at') λrd2 hr2=> ?_
 try simp only[Aa]
 rw[W_dq λs Q=>AD (s:=s) _ Q]
 dsimp only
 try simp only[Aa]
 rw[W_dq λs Q=>Ab (s:=s) F9 al Q]
 dsimp only
 try simp only[Aa]
 refine aD A2 ((g.o0.same (s':=dSt s0.mem s0.next) rfl rfl).at') λrd5 hr5=> ?_
 refine aD Ca ((hK0.same (s':=dSt s0.mem s0.next) rfl rfl).at') λrd6 hr6=> ?_
 try simp only[Aa]
 rw[W_dq λs Q=>AD (s:=s) _ Q]
 dsimp only
 try simp only[Aa]
 rw[W_dq λs Q=>Ab (s:=s) CS al Q]
 dsimp only
 try simp only[Aa]
 refine aD A2 ((g.o1.same (s':=dSt s0.mem s0.next) rfl rfl).at') λrd9 hr9=> ?_
 try simp only[Aa,A0,A3,AW]
 refine aS ?_
 rw[DL]
 refine W.appV (s:=oSt s0.mem s0.next) (Nat.le_refl _) LE (g.ms.same rfl rfl) ((g.ml.bs (Nat.lt_of_le_of_lt (show _<=5000000 by omega) al)).same (s':=oSt s0.mem s0.next) rfl rfl).src.g al al J (by rw[Br,Nat.mul_one]) (FF _) λs2 v2 b2 hb2 mk2 x2=>⟨_,_,x2,λrd10 wr10 hr10 hw10=> ?_⟩
 have n2:s0.next<=s2.next:=x2.nxt
 try simp only[Aa]
 rw[W_dq λs Q=>AD (s:=s) _ Q]
 dsimp only
 try simp only[Aa]
 rw[W_dq λs Q=>Ab (s:=s) F9 al Q]
 dsimp only
 try simp only[Aa]
 refine aS ?_
 have o0:Own (oSt s2.mem s2.next) k.fs[j].blk 0 k.fs[j].sv:=((g.o0.same (s':=oSt s0.mem s0.next) rfl rfl).ext x2 λh=>by have h1:=g.ks _ h;rw[Nat.add_zero,k0]at h1;omega).same rfl rfl
 have o1:Own (oSt s2.mem s2.next) k.fs[j].blk 1 k.fs[j].lv:=((g.o1.same (s':=oSt s0.mem s0.next) rfl rfl).ext x2 λh=>by have h1:=g.ks _ h;rw[k1]at h1;omega).same rfl rfl
 refine aI A2 mk2.one o0 λs3 n3 x3 o3=>⟨_,_,x3,λrd13 wr13 hr13 hw13=> ?_⟩
 have n3':s3.next=s2.next:=n3
 try simp only[Aa]
 rw[W_dq λs Q=>AD (s:=s) _ Q]
 dsimp only
 try simp only[Aa]
 rw[W_dq λs Q=>Ab (s:=s) CS al Q,AI]
 refine⟨CP ?_, ?_⟩
 ·simp only[List.reverse_cons,List.reverse_nil,List.nil_append,List.cons_append,allP,BS,List.take,Cu]
  have lts: ∀x,s0.next<=x-> ¬x<s0.next:=λx h=>J
  have g10: ∀x,x∈wr10-> ¬x∈rd0:=λx h1 h2=>kKs x (hw10 x h1).2 (by have:=hr0 x h2;omega)
  have g11: ∀x,x∈wr10-> ¬x∈rd1:=λx h1 h2=>kKs x (hw10 x h1).2 (by have:=hr1 x h2;omega)
  have g13: ∀x,x∈wr13-> ¬x∈rd1:=λx h1 h2=>by
   have h4:=hr1 x h2
   have h3:K=k.fs[j].blk:=by have h5:=(hw13 x h1).2;have h6:=h5.1;have h7:=h5.2;omega
   rw[<-h3]at k0
   omega
  have a10: ∀x,x∈rd10->s0.next<=x->False:=λx h1 h2=>by have h3:x<s0.next:=(hr10 x h1).1;omega
  have b10: ∀x,x∈wr10->s0.next<=x->False:=λx h1 h2=>by have h3:x<s0.next:=(hw10 x h1).1;omega
  simp+contextual [lts,g10,g11,g13]
  exact⟨⟨.inl rfl, .inl rfl, .inl rfl, .inl rfl⟩, .inl rfl, .inl rfl, .inl rfl, .inl rfl, .inl rfl⟩
 ·refine aK (AnI_ _ _ _ _ _ _ _ _ _ _ _ _ _ _ _ _ _ _ _ _) ?_
  simp only[SS]
  generalize hs':(⟨(dSt s3.mem s3.next).mem,(dSt s3.mem s3.next).next,s0.lim,_,_,s0.cx⟩:St)=s7
  have m7:s7.mem=s3.mem:=by rw[<-hs'];rfl
  have n7:s7.next=s3.next:=by rw[<-hs'];rfl
  have x7:Ext Any (λx=>x=k.fs[j].blk\/x=k.fs[j].blk+1\/MkF 1 k.fs[j].sb.length k.fs[j].sbk x) s0 s7:=by
   rw[<-hs']
   refine aU (by show s0.next<=s3.next;omega) (λx hx hg=> ?_) ?_ λ_ _ _ _ _=>trivial
   ·have e1:T.get s3.mem x=T.get s2.mem x:=x3.mem x (by show x<s2.next;omega) λh=>hg (.inl (by have h1:=h.1;have h2:=h.2;omega))
    exact e1.trans (x2.mem x hx λh=>hg (.inr (.inr h)))
   ·simp only[List.mem_cons,List.not_mem_nil,or_false]
    rintro m (rfl|rfl|rfl|rfl|rfl|rfl|rfl|rfl|rfl|rfl|rfl|rfl|rfl|rfl|rfl|rfl) x hx hxl<;>first|(cases hx;done)|exact .inr (.inr (hw10 x hx).2)|exact .inl (by have h4:=(hw13 x hx).2;have h1:=h4.1;have h2:=h4.2;omega)
  have o17:Own s7 k.fs[j].blk 1 k.fs[j].lv:=(o1.ext x3 λh=>by have h1:=h.1;have h2:=h.2;omega).same m7 n7
  refine aI A2 rfl o17 λs8 n8 x8 o8=> ?_
  have y8:Ext Any (λx=>x=k.fs[j].blk\/x=k.fs[j].blk+1\/MkF 1 k.fs[j].sb.length k.fs[j].sbk x) s0 s8:=x7.on x8 hb0 λy _ hq=> .inr (.inl (by have h1:=hq.1;have h2:=hq.2;omega))
  have hnb: ∀x,MkF 1 (k.fs[j].sb.length+k.fs[j].lb.length) b2 x->x≠k.fs[j].blk/\x≠k.fs[j].blk+1:=λx hx=>by
   rcases hb2 with h|h
   ·rw[h.1,h.2,Nat.add_zero]at hx
    have h1:=g.ks x hx
    exact⟨λh2=>by rw[h2]at h1;omega,λh2=>by rw[h2]at h1;omega⟩
   ·have h3:=hx.2.1
    have h4:=g.o1.1
    have h6:s0.next<=b2:=h
    exact⟨J,J⟩
  have mk8:MkS s8 1 (k.fs[j].sb++k.fs[j].lb).length (u8l (k.fs[j].sb++k.fs[j].lb)) v2 b2:=by
   rw[RX,List.length_append]
   have mk3:=(mk2.same (s':=oSt s2.mem s2.next) rfl rfl).ext x3 λx hx h=>(hnb x hx).1 (by have h1:=h.1;have h2:=h.2;omega)
   exact(mk3.same m7 n7).ext x8 λx hx h=>(hnb x hx).2 (by have h1:=h.1;have h2:=h.2;omega)
  have o08:Own s8 k.fs[j].blk 0 v2:=(Own.same o3 m7 n7).ext x8 λh=>by have h1:=h.1;have h2:=h.2;omega
  have hf:=g.kept y8 o08 o8 mk8 (hb2.imp (λh=>⟨h.1,by rw[List.length_append,h.2,Nat.add_zero]⟩) λh=>h)
  have hD:=hI0.file (col':=paint col s0.next (2+3*j+1)) hj y8 (λy hy h=>by
   rcases h with rfl|rfl|h
   ·omega
   ·omega
   ·have:=g.ks y h
    omega) (λy hy=>AX hy) hf (FileS.kept_ent ..)
  refine aB (rs:=[]) (vs:=[]) rfl (.inr ZC_) J Nq_ Acj_ (y8.cx.trans hcx) rfl ?_
  refine q _ (paint col s0.next (2+3*j+1)) v2 b2 (hD.same rfl rfl) (λx hx=>AX J) ?_
  have y9:=y8.gw (G':=λx=>col x<1000) hb0 λy hy h=>by
   rcases h with rfl|rfl|h
   ·omega
   ·omega
   ·have:=g.ks y h
    omega
  rw[<-hs0]at y9
  exact y9.cx'
theorem Aho_ (hb:s.lim<=s.next)(hI:DkI s col D M k)(hlen:k.fs.length<=300)(hz:k.used<=4000000)(hn:200<=n)
  (q1:k.out=true-> ∀s1 col',After s s1 col col' D M k->Q (.int .i64 10) s1)
  (q2:k.out=false->An k.fs a=none-> ∀s1 col',After s s1 col col' D M k->Q (.int .i64 6) s1)
  (q3:k.out=false-> ∀j,An k.fs a=some j->(k.fused=true/\k.left=0)-> ∀s1 col',After s s1 col col' D M {k with out:=true}->Q (.int .i64 10) s1)
  (q4:k.out=false-> ∀j,An k.fs a=some j-> ∀hj:j<k.fs.length,¬(k.fused=true/\k.left=0)-> ∀s1 col' v b,After s s1 col col' D M {k with fs:=k.fs.set j (k.fs[j].kept v b (k.fs[j].sb++k.fs[j].lb)),steps:=wrap64 (k.steps+1),left:=if k.fused then wrap64 (k.left-1)else k.left}->Q (.int .i64 0) s1):
  W (Ac envS (runF envS n) 22 [.pointer (some ⟨D,0,none⟩), .string a]) s Q:=by
 have hb0:(s.cxN cxN).lim<=(s.cxN cxN).next:=hb
 have hI0:DkI (s.cxN cxN) (paint col s.next 1000) D M k:=(hI.col λx hx=>AX hx).same rfl rfl
 have hag: ∀x,x<s.next->paint col s.next 1000 x=col x:=λx hx=>AX hx
 have hnew: ∀x,s.next<=x->paint col s.next 1000 x=1000:=λx hx=>C2 hx
 have hDlt:D+6<s.next:=hI.d6.1
 generalize hcol1:paint col s.next 1000=col1 at *
 refine AiS_ λtm t0 t1=> ?_
 refine Wd_.u ?_
 simp only[HB_,RR,SS]
 refine AaP_.u ?_
 simp only[IX_,RR,SS,reduceCtorEq, ↓reduceIte,t0]
 refine I2 (o:=k.out) hb0 (hI0.d0.same rfl rfl) (hI0.d6.same rfl rfl) J λs1 m1 n1 x1=> ?_
 have y1:=x1
 have n1':s1.next=s.next:=n1
 have hI1:DkI s1 col1 D M k:=hI0.same m1 n1
 refine Akj_.u ?_
 cases ho:k.out with
 |true=>
  simp only[R0,RR,SS, ↓reduceIte,Cr]
  refine aJ CL_ ?_
  refine Afm_.u ?_
  simp only[Og_,RR,SS,Nat.reduceEqDiff, ↓reduceIte]
  refine aB (rs:=[4]) (vs:=[.int .i64 10]) rfl (.inl Ub_) J IE JE y1.cx Y ?_
  exact q1 ho _ col1 ⟨hI1.same rfl rfl,hag,(y1.gw hb0 λ_ _ h=>h.elim).cx'⟩
 |false=>
  simp only[R0,RR,SS,reduceCtorEq, ↓reduceIte,Cr]
  refine aG CL_ ?_
  refine Aab_.u ?_
  simp only[VT,RR,SS,Nat.reduceEqDiff,reduceCtorEq, ↓reduceIte,t0,t1,Ab B4 al]
  refine aA B7 hI1.d1.at' ?_
  refine DE (fs:=k.fs) (mx:=k.mx) (hI1.om.same rfl rfl) ?_
  refine W.alloc Sm λs2 n2 x2 o2=> ?_
  have y1':=(y1.thenRd hb0 (D+(0+1))).thenRd hb0 M
  have y2:=y1'.on x2 hb0 λ_ _ h=>h
  have x12:Ext Any Non s1 s2:=(((Ext.refl (F:=Any) (G:=Non) s1).thenRd (y1.bnd hb0) (D+(0+1))).thenRd (y1.bnd hb0) M).on x2 (y1.bnd hb0) λ_ _ h=>h
  have hI2:=hI1.ext0 x12 hlen
  have en:((s1.rdN (D+(0+1))).rdN M).next=s.next:=n1'
  rw[en]at o2 n2 ⊢
  have n2':s2.next=s.next+2:=n2
  have hlv:oneCell (AG k.fs a)=true:=by
   unfold AG
   cases An k.fs a with
   |none=>rfl
   |some j=>simp only;cases k.fs[j]?<;>rfl
  refine aI Ca hlv (o2 0 _ rfl) λs3 n3 x3 o3=> ?_
  have x3':Ext Any (λy=>y=s.next) s2 s3:=x3.weak (y2.bnd hb0) (λ_ _ _=>trivial) λy _ hq=>by have h1:=hq.1;have h2:=hq.2;omega
  have y3:Ext Any Non (s.cxN cxN) s3:=y2.on x3' hb0 λy hy h=>by have:y<s.next:=hy;omega
  have hI3:DkI s3 col1 D M k:=hI2.ext x3' hlen λy _ h=>by rw[hnew y J];exact Nat.le_refl _
  have n3':s3.next=s.next+2:=J
  refine AaQ_.u ?_
  simp only[MD_,RR,SS, ↓reduceIte]
  refine aA Ca o3.at' ?_
  have y4:=y3.thenRd hb0 (s.next+0)
  have hI4:DkI (s3.rdN (s.next+0)) col1 D M k:=hI3.same rfl rfl
  have oK:Own (s3.rdN (s.next+0)) s.next 0 (AG k.fs a):=o3.same rfl rfl
  have n4:(s3.rdN (s.next+0)).next=s.next+2:=n3'
  generalize s3.rdN (s.next+0)=s4 at *
  cases hj:An k.fs a with
  |none=>
   have hv:AG k.fs a= .pointer none:=by unfold AG;rw[hj]
   rw[hv]
   simp only[Fb]
   refine aJ Hm_ ?_
   refine AqC_.u ?_
   simp only[Jp_,RR,SS]
   refine aB (rs:=[4]) (vs:=[.int .i64 6]) rfl (.inl XT_) J IE JE y4.cx Y ?_
   exact q2 ho hj _ col1 ⟨hI4.same rfl rfl,hag,(y4.gw hb0 λ_ _ h=>h.elim).cx'⟩
  |some j=>
   have hlt:=Dh hj
   have hv:AG k.fs a= .pointer (some ⟨k.fs[j].blk,0,none⟩):=by
    unfold AG
    rw[hj]
    simp only[List.getElem?_eq_getElem hlt]
   rw[hv]at oK ⊢
   simp only[C5 ED]
   refine aG Hm_ ?_
   refine Akh_.u ?_
   simp only[OR_,RR,SS,Nat.reduceEqDiff,reduceCtorEq, ↓reduceIte,t0]
   have hD0:=hI4.kd
   refine KQ (f2:=53) (y4.bnd hb0) hI4.d3 hI4.d4 hI4.d5 hI4.d6 J (λhf s9 n9 x9 o9=> ?_) λhf n9 s9 hn9 hcx9 hnx9 x9 o93 o95=> ?_
   ·have y9:Ext Any (λx=>col1 x<1000) (s.cxN cxN) s9:=(y4.gw hb0 λ_ _ h=>h.elim).on x9 hb0 λy _ h=>by rw[h,hD0 (D+6) J J];decide
    refine aB (rs:=[4]) (vs:=[.int .i64 10]) rfl (.inl ZP) J IE JE y9.cx Y ?_
    have hd:Ext Any (λy=>y=D+6) s4 s9:=x9
    have hI9:=hI4.own (st:=k.steps) (fu:=k.fused) (le:=k.left) (ou:=true) hd (λy _ h=>J) (hI4.d3.ext hd λh=>J) (hI4.d4.ext hd λh=>J) (hI4.d5.ext hd λh=>J) o9
    exact q3 ho j hj hf _ col1 ⟨hI9.same rfl rfl,hag,(y9.gw hb0 λy hy h=>by rw[<-hag y hy];exact h).cx'⟩
   ·have hd:Ext Any (λy=>y=D+3\/y=D+5) s4 (s9.cxN s4.cx):=x9
    have hI9':=hI4.own (st:=wrap64 (k.steps+1)) (fu:=k.fused) (le:=if k.fused then wrap64 (k.left-1)else k.left) (ou:=k.out) hd (λy _ h=>J) (o93.same rfl rfl) (hI4.d4.ext hd λh=>J) (o95.same rfl rfl) (hI4.d6.ext hd λh=>J)
    have hI9:=hI9'.same (s':=s9) rfl rfl
    have vK:=(oK.ext hd λh=>J).same (s':=s9) rfl rfl
    have y9:Ext Any (λx=>col1 x<1000) (s.cxN cxN) (s9.cxN s4.cx):=(y4.gw hb0 λ_ _ h=>h.elim).on hd hb0 λy _ h=>by rw[hD0 y J J];decide
    have y9':Ext Any (λx=>col1 x<1000) (s.cxN cxN) s9:=⟨y9.nxt,y9.lim,hcx9,y9.mem,y9.rd,y9.wr⟩
    have hn9':s9.next=s4.next:=hnx9
    show W (Ac envS (runF envS n9) 53 [.pointer (some ⟨s.next,0,none⟩)]) s9 _
    refine YQ_ (K:=s.next) (y9'.bnd hb0) hI9 hlt vK (by rw[hnew _ J];exact Nat.le_refl _) hlen (by show DkS.used _<=_;exact hz) J λs10 col' v b hI10 hag10 x10=> ?_
    refine⟨x10.cx.trans hcx9, ?_⟩
    have y10:=y9'.on x10 hb0 λy hy h=>h
    have e8:s4.cx=cxN:=y4.cx
    rw[e8]
    refine aB (rs:=[4]) (vs:=[.int .i64 0]) rfl (.inl ZP) J IE JE rfl Y ?_
    exact q4 ho j hj hlt hf _ col' v b ⟨hI10.same rfl rfl,λx hx=>(hag10 x J).trans (hag x hx),(y10.gw hb0 λy hy h=>by rw[<-hag y hy];exact h).cx'⟩
end
section
variable {s:St}
def Bn (s:St)(v:Value)(l:List Nat):Prop:= ∃b o c,v= .slice (some ⟨b,o,none⟩) l.length c/\l.length<=c%capU/\Bu c 1=true/\Row s b o (u8l l)
theorem Bn.bs {v:Value}{l:List Nat}(h:Bn s v l):Bs s v l:= .inr h
def Byt (l:List Nat):Prop:= ∀x∈l,x<256
end
theorem Bp:slN envS 32=some 1:=X
theorem FH:slN envS 97=some 1:=X
theorem WA:elT envS 32=some (1,1,[.int .u8 0]):=X
theorem Tf:appT envS 32 32=some (1,1,false,[.int .u8 0]):=X
theorem VM_:appT envS 32 3=some (1,1,true,[.int .u8 0]):=X
theorem Fv:tyS envS 32=some (1,false):=X
theorem H1:tyS envS 5=some (1,false):=X
theorem Kx (n:Nat):rep n [Value.int .u8 0]=List.replicate n (Value.int .u8 0):=by
 induction n with
 |zero=>rfl
 |succ n ih=>
  show [Value.int .u8 0]++rep n [Value.int .u8 0]=_
  rw[ih];rfl
structure Room (s s':St)(N:Nat)(v:Value)(b:Nat):Prop where
 val:v= .slice (some ⟨b,0,none⟩) 0 (capU*((b+N*1)*1024+1)+N)
 new:s.next<=b
 own:Ai s' b 0 (List.replicate N (.int .u8 0))
 tok:T.get s'.mem (b+N)=some (.O (.tok false 1025))
 lt:b+N<s'.next
theorem AqZ_ {n N:Nat}{s:St}{Q:Value->St->Prop}(hbd:s.lim<=s.next)(hn:20<=n)(hN:0<N)(hN2:N<=1000000)
  (q: ∀s1 v b,Room s s1 N v b->Ext Non Non s s1->Q v s1):W (Ac envS (runF envS n) 77 [.slice none 0 0, .int .i64 (N:Nat)]) s Q:=by
 refine Hv_ λtm h0 h1=> ?_
 refine WE.u ?_
 simp -implicitDefEqProofs only[Ro,RR,SS]
 refine CT_.u ?_
 simp -implicitDefEqProofs only[M4,RR,SS,Nat.reduceEqDiff, ↓reduceIte,Ap,h1]
 refine aG CI_ ?_
 refine BO_.u ?_
 simp -implicitDefEqProofs only[LX,RR,SS,Nat.reduceEqDiff,reduceCtorEq, ↓reduceIte,HX,h0,h1,L7 Bp,Bt Bp]
 refine QK_.u ?_
 have e1:wrap64 ((N:Int)-wrap64 (((0:Nat):Int)-((0:Nat):Int)))=(N:Nat):=by
  rw[Bh (n:=((0:Nat):Int)-((0:Nat):Int)) am am,Bh]<;>simp<;>omega
 simp -implicitDefEqProofs only[RP,RR,SS, ↓reduceIte,Ck,e1]
 refine aJ ZX ?_ rfl (an hN)
 refine AjY_.u ?_
 simp -implicitDefEqProofs only[RJ_,RR,SS,Nat.reduceEqDiff,reduceCtorEq, ↓reduceIte,h0,L7 Bp,HT (lo:=none) (hi:=some (.int .i64 ((0:Nat):Int))) Bp rfl rfl,QN]
 refine W.appNilT (s:=s.cxN cxN) hbd (n:=N) (l:=rep N [.int .u8 0]) VM_ (Wi_ J) hN al al J (by rw[Kx];simp) (by rw[Kx];simp[oneCell]) λs2 v b hf hT x2=> ?_
 obtain⟨rfl,hnew,hown,hlen,htok,hlt⟩:=hf
 have hc:=EZ (q:=(b+N*1)*1024+1) (BD (n:=N) J)
 simp -implicitDefEqProofs only[Bt Bp,CW (l:=0) (h:=0) (lo:=none) (hi:=some (.int .i64 ((0:Nat):Int))) Bp rfl rfl (Nat.le_refl _) (Nat.zero_le _) (D9 (m:=b+N*1) (BD (n:=N) J) al), ↓reduceIte,hc,hN]
 refine IN_.u ?_ Acd_
 simp -implicitDefEqProofs only[R6,RR,SS, ↓reduceIte]
 refine aB (rs:=[4]) (vs:=[.slice (some ⟨b,0,none⟩) 0 (capU*((b+N*1)*1024+1)+N)]) rfl (.inl Cu_) J N7 Gb_ x2.cx Y ?_
 exact q _ _ b ⟨rfl,hnew,λi v e=>(hown i v (by rw[Kx];exact e)).same rfl rfl,by rw[Nat.mul_one]at hT;exact hT,by rw[Nat.mul_one]at hlt;exact hlt⟩ ⟨x2.nxt,x2.lim,rfl,x2.mem,x2.rd,x2.wr⟩
def tot (l:List (Value×List Nat)):Nat:=(l.map λp=>p.2.length).sum
theorem Agn_ {l:List (Value×List Nat)}{i:Nat}{p:Value×List Nat}(h:l[i]?=some p):tot (l.take (i+1))=tot (l.take i)+p.2.length:=by
 unfold tot
 rw[List.take_add_one,h]
 simp
theorem PR {l:List (Value×List Nat)}(i:Nat):tot (l.take i)<=tot l:=by
 unfold tot
 have:(l.map λp=>p.2.length).sum=((l.take i).map λp=>p.2.length).sum+((l.drop i).map λp=>p.2.length).sum:=by
  rw[<-List.sum_append,<-List.map_append,List.take_append_drop]
 omega
def Dn (b o:Nat)(l:List (Value×List Nat)):Nat->Prop:=λx=>In b o l.length x\/ ∃p∈l,BsF p.1 x
structure Parts (s:St)(b o:Nat)(l:List (Value×List Nat)):Prop where
 row:Row s b o (l.map (·.1))
 bs: ∀p∈l,Bs s p.1 p.2
theorem Parts.same {s s':St}{b o:Nat}{l:List (Value×List Nat)}(h:Parts s b o l)(hm:s'.mem=s.mem)(hn:s'.next=s.next):Parts s' b o l:=
 ⟨λi v e=>(h.row i v e).same hm hn,λp hp=>(h.bs p hp).same hm hn⟩
theorem Parts.ext0 {F:Nat->Prop}{s s':St}{b o:Nat}{l:List (Value×List Nat)}(h:Parts s b o l)(e:Ext F Non s s'):Parts s' b o l:=⟨h.row.ext0 e,λp hp=>(h.bs p hp).ext0 e⟩
section
variable {b o c:Nat}{parts:List (Value×List Nat)}
theorem Parts.get {s:St}(h:Parts s b o parts){i:Nat}(hi:i<parts.length):At s b (o+i*1) parts[i].1/\Bs s parts[i].1 parts[i].2:=by
 refine⟨?_,h.bs _ (List.getElem_mem hi)⟩
 rw[Nat.mul_one]
 exact h.row i _ (by simp[hi])
theorem QQ {i:Nat}(hi:i<parts.length):tot (parts.take (i+1))=tot (parts.take i)+parts[i].2.length:=Agn_ (List.getElem?_eq_getElem hi)
theorem Jt_ (ht:tot parts<=1000000)(hlen:parts.length<=4611686018427387904){F:Nat->Prop}(hF: ∀x,Dn b o parts x->F x){Q:Value×FrameMode->St->Prop}{s0:St}(hb0:s0.lim<=s0.next)(hp:Parts s0 b o parts): ∀(k i n:Nat) (tm:T Value) (s:St) (td:List Item),i+k=parts.length->7*k+7<=n->skim 64 td=KI->Ext F Non s0 s->s.mem=s0.mem->s.next=s0.next->
  T.get tm 0=some (.slice (some ⟨b,o,none⟩) parts.length c)->T.get tm 9=some (.slice (some ⟨b,o,none⟩) parts.length c)->T.get tm 10=some (.int .i64 (parts.length:Nat))->T.get tm 11=some (.int .i64 (i:Nat))->T.get tm 3=some (.int .i64 (tot (parts.take i):Nat))->
  (∀n' tm' s1 td',n<=n'+7*k+2->skim 64 td'=Nm->Ext F Non s0 s1->s1.mem=s0.mem->s1.next=s0.next->T.get tm' 0=some (.slice (some ⟨b,o,none⟩) parts.length c)->T.get tm' 3=some (.int .i64 (tot parts:Nat))->W (runF envS n' ⟨66,Hs,BA,tm',td', .run, .normal,none⟩) s1 Q)->
  W (runF envS n ⟨66,Hs,BA,tm,td, .run, .normal,none⟩) s Q:=by
 intro k
 induction k with
 |zero=>
  intro i n tm s td hi hn hT hx hm hnx h0 h9 h10 h11 h3 q
  refine U7.u ?_ hT
  simp -implicitDefEqProofs only[Pb,RR,SS,Ap,h10,h11]
  refine aG Tk ?_
  have e:tot (parts.take i)=tot parts:=by rw[show i=parts.length by omega,List.take_length]
  rw[e]at h3
  exact q _ _ _ _ J rfl hx hm hnx (an h0) (an h3)
 |succ k ih=>
  intro i n tm s td hi hn hT hx hm hnx h0 h9 h10 h11 h3 q
  have hil:i<parts.length:=J
  obtain⟨g1,g2⟩:=hp.get hil
  have hlt:=QQ hil
  have htl:=PR (l:=parts) (i+1)
  refine U7.u ?_ hT
  simp -implicitDefEqProofs only[Pb,RR,SS,Ap,h10,h11]
  refine aJ Tk ?_
  refine AcY_.u ?_
  simp -implicitDefEqProofs only[FJ_,RR,SS,Nat.reduceEqDiff, ↓reduceIte,h9,h11,AA FH hil]
  refine aA Fv (g1.same hm hnx) ?_
  refine Alb_.u ?_
  have ew:wrap64 ((tot (parts.take i):Nat)+(parts[i].2.length:Nat):Int)=(tot (parts.take (i+1)):Nat):=by
   rw[Bh J J,hlt];simp
  have ei:wrap64 ((i:Nat)+1:Int)=((i+1:Nat):Int):=by
   have:parts.length<=4611686018427387904:=hlen
   rw[Bh J J];simp
  have hx1:Ext F Non s0 (s.rdN (b+(o+i*1))):=hx.trans (Ext.rdN (F:=F) s _ λ_=>hF _ (.inl ⟨J,J⟩)) hb0 (λ_ _ h=>h) λ_ _ h=>h
  simp -implicitDefEqProofs only[AU_,RR,SS,Nat.reduceEqDiff, ↓reduceIte,AY,h3,Bs.len (s:=s.rdN (b+(o+i*1))) (g2.same hm hnx) Bp,ew]
  refine Akt_.u ?_
  simp -implicitDefEqProofs only[Yr,RR,SS, ↓reduceIte,Ap]
  refine aG Aem_ ?_
  refine Amw_.u ?_
  simp -implicitDefEqProofs only[Ae_,RR,SS,Nat.reduceEqDiff, ↓reduceIte,AY,h11,ei]
  exact ih (i+1) _ _ _ _ J J YT_ hx1 hm hnx (an h0) (an h9) (an h10) Y Y λn' tm' s1 td' e=>q n' tm' s1 td' J
end
section
variable {b o c:Nat}{parts:List (Value×List Nat)}
def fl (l:List (Value×List Nat)):List Nat:=(l.map (·.2)).flatten
theorem Ey (l:List (Value×List Nat)):(fl l).length=tot l:=by
 unfold fl tot
 rw[List.length_flatten,List.map_map]
 rfl
theorem AjN_ {l:List (Value×List Nat)}{i:Nat}(h:i<l.length):fl (l.take (i+1))=fl (l.take i)++l[i].2:=by
 unfold fl
 rw[List.take_add_one,List.getElem?_eq_getElem h,List.map_append,List.flatten_append]
 simp
theorem Ann_ (ht:tot parts<=1000000)(hlen:parts.length<=4611686018427387904){F:Nat->Prop}(hF: ∀x,Dn b o parts x->F x){Q:Value×FrameMode->St->Prop}{s0:St}(hb0:s0.lim<=s0.next)(hp:Parts s0 b o parts){nb cc:Nat}(hnb:s0.next<=nb)(hcc:cc%capU=tot parts){z:Nat}{ce:Cell}(hz:nb+tot parts<=z): ∀(k i n:Nat) (tm:T Value) (s:St) (td:List Item),i+k=parts.length->6*k+6<=n->skim 64 td=I5->Ext F Non s0 s->FY s nb 0 (tot parts)->Ai s nb 0 (u8l (fl (parts.take i)))->(T.get s.mem z=some ce/\z<s.next)->
  T.get tm 25=some (.slice (some ⟨b,o,none⟩) parts.length c)->T.get tm 26=some (.int .i64 (parts.length:Nat))->T.get tm 27=some (.int .i64 (i:Nat))->T.get tm 6=some (.slice (some ⟨nb,0,none⟩) (tot (parts.take i)) cc)->
  (∀n' tm' s1 td',n<=n'+6*k+2->skim 64 td'=KK->Ext F Non s0 s1->Ai s1 nb 0 (u8l (fl parts))->(T.get s1.mem z=some ce/\z<s1.next)->T.get tm' 6=some (.slice (some ⟨nb,0,none⟩) (tot parts) cc)->W (runF envS n' ⟨66,Hs,BA,tm',td', .run, .normal,none⟩) s1 Q)->
  W (runF envS n ⟨66,Hs,BA,tm,td, .run, .normal,none⟩) s Q:=by
 intro k
 induction k with
 |zero=>
  intro i n tm s td hi hn hT hx hown hrow hce h25 h26 h27 h6 q
  refine J5.u ?_ hT
  simp -implicitDefEqProofs only[H6,RR,SS,Ap,h26,h27]
  refine aG La ?_
  have e:parts.take i=parts:=by rw[show i=parts.length by omega,List.take_length]
  rw[e]at h6 hrow
  exact q _ _ _ _ J rfl hx hrow hce (an h6)
 |succ k ih=>
  intro i n tm s td hi hn hT hx hown hrow hce h25 h26 h27 h6 q
  have hil:i<parts.length:=J
  obtain⟨g1,g2⟩:=(hp.ext0 hx).get hil
  have hlt:=QQ hil
  have htl:=PR (l:=parts) (i+1)
  refine J5.u ?_ hT
  simp -implicitDefEqProofs only[H6,RR,SS,Ap,h26,h27]
  refine aJ La ?_
  refine Dg_.u ?_
  simp -implicitDefEqProofs only[Qc,RR,SS,Nat.reduceEqDiff, ↓reduceIte,h25,h27,AA FH hil]
  refine aA Fv g1 ?_
  have hx1:Ext F Non s0 (s.rdN (b+(o+i*1))):=hx.trans (Ext.rdN (F:=F) s _ λ_=>hF _ (.inl ⟨J,J⟩)) hb0 (λ_ _ h=>h) λ_ _ h=>h
  refine Zj.u ?_
  simp -implicitDefEqProofs only[Qn,RR,SS,Nat.reduceEqDiff, ↓reduceIte,h6,QN]
  refine W.appIn (s:=s.rdN (b+(o+i*1))) Tf (g2.same (s':=s.rdN (b+(o+i*1))) rfl rfl).src.g (by rw[hcc];omega) (by rw[Br,Nat.mul_one]) (FF _) (λj hj=> ?_) λs2 n2 x2 r2=> ?_
  ·obtain⟨u,hu⟩:=hown (tot (parts.take i)+j) J
   exact⟨u,by rw[show 0+tot (parts.take i)*1+j=0+(tot (parts.take i)+j) by omega];exact hu⟩
  have ei:=eiW (i:=i) J
  have hx2:Ext F Non s0 s2:=hx1.step x2 hb0 (λl hl h=>by
   rcases h with h|h
   ·exact hF _ (.inr ⟨_,List.getElem_mem hil,h⟩)
   ·exact absurd h.1 J) λl h=>by have:=h.1;omega
  have el:parts[i].2.length*1=(u8l parts[i].2).length:=by rw[Br,Nat.mul_one]
  rw[el]at x2
  have hown2:FY s2 nb 0 (tot parts):=FY.ext (s:=s.rdN (b+(o+i*1))) (λj hj=>let ⟨u,hu⟩:=hown j hj;⟨u,hu.same rfl rfl⟩) x2 r2
  have hrow2:Ai s2 nb 0 (u8l (fl (parts.take (i+1)))):=by
   rw[AjN_ hil]
   unfold u8l
   rw[List.map_append]
   refine Ai.append (Ai.ext (s:=s.rdN (b+(o+i*1))) (λj v e=>(hrow j v e).same rfl rfl) x2 λj hj=> ?_) ?_
   ·rw[Br,Ey]at hj
    intro h
    have:=h.1
    omega
   ·rw[Br,Ey]
    rw[Nat.mul_one]at r2
    exact r2
  refine Pt_.u ?_
  simp -implicitDefEqProofs only[Qf,RR,SS,Nat.reduceEqDiff, ↓reduceIte,AY,h27,ei]
  exact ih (i+1) _ _ _ _ J J Ka_ hx2 hown2 hrow2 ⟨by rw[x2.mem z hce.2 λh=>by have h1:=h.2;rw[Br]at h1;omega];exact hce.1,Nat.lt_of_lt_of_le hce.2 x2.nxt⟩ (an h25) (an h26) Y (an hlt) λn' tm' s1 td' e=>q n' tm' s1 td' J
end
structure New (s s':St)(v:Value)(l:List Nat):Prop where
 bn:Bn s' v l
 new: ∀x,BsF v x->s.next<=x
structure MkG (s:St)(v:Value)(l:List Nat)(b:Nat):Prop where
 val:v= .slice (some ⟨b,0,none⟩) l.length (capU*((b+l.length)*1024+1)+l.length)
 own:Ai s b 0 (u8l l)
 tok:T.get s.mem (b+l.length)=some (.O (.tok false 1025))
 lt:b+l.length<s.next
theorem MkG.same {s s':St}{v:Value}{l:List Nat}{b:Nat}(h:MkG s v l b)(hm:s'.mem=s.mem)(hn:s'.next=s.next):MkG s' v l b:=
 ⟨h.val,λi u e=>(h.own i u e).same hm hn,by rw[hm];exact h.tok,by rw[hn];exact h.lt⟩
theorem MkG.ext {F G:Nat->Prop}{s s':St}{v:Value}{l:List Nat}{b:Nat}(h:MkG s v l b)(e:Ext F G s s')(hG: ∀x,In b 0 (l.length+1) x-> ¬G x):MkG s' v l b:=
 ⟨h.val,λi u q=>(h.own i u q).ext e (hG _ ⟨J,by have:=(List.getElem?_eq_some_iff.1 q).1;rw[Br]at this;omega⟩),by rw[e.mem _ h.lt (hG _ ⟨J,J⟩)];exact h.tok,Nat.lt_of_lt_of_le h.lt e.nxt⟩
theorem MkG.bn {s:St}{v:Value}{l:List Nat}{b:Nat}(h:MkG s v l b)(hl:l.length<=1073741824):Bn s v l:=
 ⟨b,0,_,h.val,by rw[EZ (BD hl)];exact Nat.le_refl _,D9 (BD hl) al,h.own.row⟩
theorem Aoe_ {n:Nat}{s:St}{b o c:Nat}{parts:List (Value×List Nat)}{Q:Value->St->Prop}(hbd:s.lim<=s.next)(hp:Parts s b o parts)(h0:0<tot parts)(ht:tot parts<=1000000)(hlen:parts.length<=4611686018427387904)(hn:13*parts.length+60<=n)
  (q: ∀s1 v nb,Ext (Dn b o parts) Non s s1->MkG s1 v (fl parts) nb->s.next<=nb->Q v s1):W (Ac envS (runF envS n) 66 [.slice (some ⟨b,o,none⟩) parts.length c]) s Q:=by
 refine GV_ λtm hk0=> ?_
 have hpc:Parts (s.cxN cxN) b o parts:=hp.same rfl rfl
 refine Rb_.u ?_
 simp -implicitDefEqProofs only[Sp,RR,SS]
 refine Ow_.u ?_
 simp -implicitDefEqProofs only[Np,RR,SS]
 refine FD_.u ?_
 simp -implicitDefEqProofs only[M9,RR,SS,reduceCtorEq, ↓reduceIte,hk0,Bt FH]
 refine Jt_ (c:=c) ht hlen (F:=Dn b o parts) (λ_ h=>h) (s0:=s.cxN cxN) hbd hpc parts.length 0 _ _ _ _ J J rfl (Ext.refl _) rfl rfl (an hk0) Y Y Y (by simp[T.get_set,tot]) λn1 tm1 s1 td1 hn1 hT1 hx1 hm1 hnx1 g0 g3=> ?_
 refine Ic_.u ?_ hT1
 simp -implicitDefEqProofs only[NJ,RR,SS,g3]
 have hb1:s1.lim<=s1.next:=hx1.bnd hbd
 refine AqZ_ hb1 J h0 ht λs2 v nb hr x2=> ?_
 obtain⟨rfl,hnew,hown,htok,hlt⟩:=hr
 have hx2:Ext (Dn b o parts) Non (s.cxN cxN) s2:=hx1.step x2 hbd (λ_ _ h=>h.elim) λ_ h=>h.elim
 have hnb:s.next<=nb:=by
  have:s1.next=s.next:=hnx1
  omega
 have hcc:=EZ (q:=(nb+tot parts*1)*1024+1) (BD (n:=tot parts) J)
 have hok:=D9 (m:=nb+tot parts*1) (sz:=1) (BD (n:=tot parts) J) al
 generalize hC:capU*((nb+tot parts*1)*1024+1)+tot parts=C at *
 refine Gi_.u ?_
 simp -implicitDefEqProofs only[RA,RR,SS,reduceCtorEq, ↓reduceIte,g0,Bt FH]
 refine Ann_ (c:=c) ht hlen (F:=Dn b o parts) (λ_ h=>h) (s0:=s.cxN cxN) hbd hpc (nb:=nb) (cc:=C) hnb hcc (z:=nb+tot parts) (Nat.le_refl _) parts.length 0 _ _ _ _ J J rfl hx2 (by have:=hown.owned;rwa [List.length_replicate]at this) (λi v e=>by simp[fl]at e) ⟨htok,hlt⟩ Y Y Y (by simp[T.get_set,tot]) λn3 tm3 s3 td3 hn3 hT3 hx3 hrow hz3 g6=> ?_
 refine YL.u ?_ hT3
 simp -implicitDefEqProofs only[QJ,RR,SS,g6]
 refine aB (rs:=[2]) (vs:=[.slice (some ⟨nb,0,none⟩) (tot parts) C]) rfl (.inl OO_) J O9 Ad_ hx3.cx Y ?_
 have hC':C=capU*((nb+(fl parts).length)*1024+1)+(fl parts).length:=by rw[<-hC,Ey,Nat.mul_one]
 refine q _ (.slice (some ⟨nb,0,none⟩) (tot parts) C) nb hx3.cx' ⟨by rw[<-hC',Ey],λi u e=>(hrow i u e).same rfl rfl,by rw[Ey];exact hz3.1,by rw[Ey];exact hz3.2⟩ hnb
theorem Uy_ {n:Nat}{s:St}{Q:Value->St->Prop}(hbd:s.lim<=s.next)(hn:20<=n)(q: ∀s1,s1.mem=s.mem->s1.next=s.next->Ext Non Non s s1->Q (.slice none 0 0) s1):W (Ac envS (runF envS n) 77 [.slice none 0 0, .int .i64 ((0:Nat):Int)]) s Q:=by
 refine Hv_ λtm h0 h1=> ?_
 refine WE.u ?_
 simp -implicitDefEqProofs only[Ro,RR,SS]
 refine CT_.u ?_
 simp -implicitDefEqProofs only[M4,RR,SS,Nat.reduceEqDiff, ↓reduceIte,Ap,h1]
 refine aG CI_ ?_
 refine BO_.u ?_
 simp -implicitDefEqProofs only[LX,RR,SS,Nat.reduceEqDiff,reduceCtorEq, ↓reduceIte,HX,h0,h1,L7 Bp,Bt Bp]
 refine QK_.u ?_
 have e1:wrap64 (((0:Nat):Int)-wrap64 (((0:Nat):Int)-((0:Nat):Int)))=((0:Nat):Int):=al
 simp -implicitDefEqProofs only[RP,RR,SS, ↓reduceIte,Ck,e1]
 refine aG ZX ?_
 refine IN_.u ?_
 simp -implicitDefEqProofs only[R6,RR,SS,reduceCtorEq, ↓reduceIte,h0]
 refine aB (rs:=[4]) (vs:=[.slice none 0 0]) rfl (.inl Cu_) J N7 Gb_ rfl Y ?_
 exact q _ rfl rfl (Ext.refl _)
section
variable {b o c:Nat}{parts:List (Value×List Nat)}
theorem AdU_ (ht:tot parts=0)(hlen:parts.length<=4611686018427387904){F:Nat->Prop}(hF: ∀x,Dn b o parts x->F x){Q:Value×FrameMode->St->Prop}{s0:St}(hb0:s0.lim<=s0.next)(hp:Parts s0 b o parts): ∀(k i n:Nat) (tm:T Value) (s:St) (td:List Item),i+k=parts.length->6*k+6<=n->skim 64 td=I5->Ext F Non s0 s->
  T.get tm 25=some (.slice (some ⟨b,o,none⟩) parts.length c)->T.get tm 26=some (.int .i64 (parts.length:Nat))->T.get tm 27=some (.int .i64 (i:Nat))->T.get tm 6=some (.slice none 0 0)->
  (∀n' tm' s1 td',n<=n'+6*k+2->skim 64 td'=KK->Ext F Non s0 s1->T.get tm' 6=some (.slice none 0 0)->W (runF envS n' ⟨66,Hs,BA,tm',td', .run, .normal,none⟩) s1 Q)->
  W (runF envS n ⟨66,Hs,BA,tm,td, .run, .normal,none⟩) s Q:=by
 intro k
 induction k with
 |zero=>
  intro i n tm s td hi hn hT hx h25 h26 h27 h6 q
  refine J5.u ?_ hT
  simp -implicitDefEqProofs only[H6,RR,SS,Ap,h26,h27]
  refine aG La ?_
  exact q _ _ _ _ J rfl hx (an h6)
 |succ k ih=>
  intro i n tm s td hi hn hT hx h25 h26 h27 h6 q
  have hil:i<parts.length:=J
  obtain⟨g1,g2⟩:=(hp.ext0 hx).get hil
  have hlt:=QQ hil
  have htl:=PR (l:=parts) (i+1)
  have hl0:parts[i].2.length=0:=J
  refine J5.u ?_ hT
  simp -implicitDefEqProofs only[H6,RR,SS,Ap,h26,h27]
  refine aJ La ?_
  refine Dg_.u ?_
  simp -implicitDefEqProofs only[Qc,RR,SS,Nat.reduceEqDiff, ↓reduceIte,h25,h27,AA FH hil]
  refine aA Fv g1 ?_
  have hx1:Ext F Non s0 (s.rdN (b+(o+i*1))):=hx.trans (Ext.rdN (F:=F) s _ λ_=>hF _ (.inl ⟨J,J⟩)) hb0 (λ_ _ h=>h) λ_ _ h=>h
  refine Zj.u ?_
  simp -implicitDefEqProofs only[Qn,RR,SS,Nat.reduceEqDiff, ↓reduceIte,h6,QN]
  refine W.appV (s:=s.rdN (b+(o+i*1))) (hx1.bnd hb0) Tf (len:=0) (b:=0) (old:=[]) (.inl ⟨rfl,rfl,rfl⟩) (g2.same (s':=s.rdN (b+(o+i*1))) rfl rfl).src.g al al J (by rw[Br,Nat.mul_one]) (FF _) λs2 v2 b2 hb2 mk2 x2=> ?_
  have hv2:v2= .slice none 0 0:=by
   rcases mk2 with h|h
   ·exact h.1
   ·have:=h.2
    omega
  subst hv2
  have ei:=eiW (i:=i) J
  have hx2:Ext F Non s0 s2:=hx1.step x2 hb0 (λl hl h=>by
   rcases h with h|h
   ·exact hF _ (.inr ⟨_,List.getElem_mem hil,h⟩)
   ·exact absurd h.1 J) λl h=>by have:=h.1;omega
  refine Pt_.u ?_
  simp -implicitDefEqProofs only[Qf,RR,SS,Nat.reduceEqDiff, ↓reduceIte,AY,h27,ei]
  exact ih (i+1) _ _ _ _ J J Ka_ hx2 (an h25) (an h26) Y Y λn' tm' s1 td' e=>q n' tm' s1 td' J
end
theorem Gm_:elT envS 97=some (1,24,[.slice none 0 0]):=X
theorem Tp {va vb:Value}(ha: ∃p n c,va= .slice p n c)(hb: ∃p n c,vb= .slice p n c):CY (λk=>some (k*1,1)) [(0,va),(1,vb)] (rep 2 [.slice none 0 0])=some [va,vb]:=by
 obtain⟨p,n,c,rfl⟩:=ha
 obtain⟨p',n',c',rfl⟩:=hb
 rfl
section
variable {n D M:Nat}{s:St}{k:DkS}{col:Nat->Nat}{a:ByteArray}{Q:Value->St->Prop}
end
def BsO (s:St)(v:Value)(l:List Nat)(n0:Nat):Prop:=(v= .slice none 0 0/\l=[])\/ ∃nb,MkG s v l nb/\0<l.length/\n0<=nb
theorem BsO.same {s s':St}{v:Value}{l:List Nat}{n0:Nat}(h:BsO s v l n0)(hm:s'.mem=s.mem)(hn:s'.next=s.next):BsO s' v l n0:=by
 rcases h with h|⟨nb,h,h0,h1⟩
 ·exact .inl h
 ·exact .inr ⟨nb,h.same hm hn,h0,h1⟩
theorem BsO.ext0 {F:Nat->Prop}{s s':St}{v:Value}{l:List Nat}{n0:Nat}(h:BsO s v l n0)(e:Ext F Non s s'):BsO s' v l n0:=by
 rcases h with h|⟨nb,h,h0,h1⟩
 ·exact .inl h
 ·exact .inr ⟨nb,h.ext e λ_ _ g=>g,h0,h1⟩
theorem BsO.bs {s:St}{v:Value}{l:List Nat}{n0:Nat}(h:BsO s v l n0)(hl:l.length<=1000000):Bs s v l/\ ∀x,BsF v x->n0<=x:=by
 rcases h with⟨rfl,rfl⟩|⟨nb,h,h0,h1⟩
 ·exact⟨.inl ⟨rfl,rfl⟩,λ_ h=>h.elim⟩
 ·refine⟨(h.bn J).bs,λx hx=> ?_⟩
  rw[h.val]at hx
  have:nb+0<=x:=hx.1
  omega
theorem BsO.mono {s:St}{v:Value}{l:List Nat}{n0 n1:Nat}(h:BsO s v l n0)(hn:n1<=n0):BsO s v l n1:=by
 rcases h with h|⟨nb,h,h0,h1⟩
 ·exact .inl h
 ·exact .inr ⟨nb,h,h0,Nat.le_trans hn h1⟩
theorem AaX_ {n:Nat}{s:St}{b o c:Nat}{parts:List (Value×List Nat)}{Q:Value->St->Prop}(hbd:s.lim<=s.next)(hp:Parts s b o parts)(ht:tot parts<=1000000)(hlen:parts.length<=4611686018427387904)(hn:13*parts.length+60<=n)
  (q: ∀s1 v,Ext (Dn b o parts) Non s s1->BsO s1 v (fl parts) s.next->Q v s1):W (Ac envS (runF envS n) 66 [.slice (some ⟨b,o,none⟩) parts.length c]) s Q:=by
 by_cases h0:tot parts=0
 ·refine GV_ λtm hk0=> ?_
  have hpc:Parts (s.cxN cxN) b o parts:=hp.same rfl rfl
  refine Rb_.u ?_
  simp only[Sp,RR,SS]
  refine Ow_.u ?_
  simp only[Np,RR,SS]
  refine FD_.u ?_
  simp only[M9,RR,SS,reduceCtorEq, ↓reduceIte,hk0,Bt FH]
  refine Jt_ (c:=c) ht hlen (F:=Dn b o parts) (λ_ h=>h) (s0:=s.cxN cxN) hbd hpc parts.length 0 _ _ _ _ J J rfl (Ext.refl _) rfl rfl (an hk0) Y Y Y (by simp[T.get_set,tot]) λn1 tm1 s1 td1 hn1 hT1 hx1 hm1 hnx1 g0 g3=> ?_
  refine Ic_.u ?_ hT1
  rw[h0]at g3
  simp only[NJ,RR,SS,g3]
  have hb1:s1.lim<=s1.next:=hx1.bnd hbd
  refine Uy_ hb1 J λs2 m2 nx2 x2=> ?_
  have hx2:Ext (Dn b o parts) Non (s.cxN cxN) s2:=hx1.step x2 hbd (λ_ _ h=>h.elim) λ_ h=>h.elim
  refine Gi_.u ?_
  simp only[RA,RR,SS,reduceCtorEq, ↓reduceIte,g0,Bt FH]
  refine AdU_ (c:=c) h0 hlen (F:=Dn b o parts) (λ_ h=>h) (s0:=s.cxN cxN) hbd hpc parts.length 0 _ _ _ _ J J rfl hx2 Y Y Y Y λn3 tm3 s3 td3 hn3 hT3 hx3 g6=> ?_
  refine YL.u ?_ hT3
  simp only[QJ,RR,SS,g6]
  refine aB (rs:=[2]) (vs:=[.slice none 0 0]) rfl (.inl OO_) J O9 Ad_ hx3.cx Y ?_
  have e0:fl parts=[]:=List.eq_nil_of_length_eq_zero (by rw[Ey];exact h0)
  refine q _ _ hx3.cx' ?_
  rw[e0]
  exact .inl ⟨rfl,rfl⟩
 ·exact Aoe_ hbd hp J ht hlen hn λs1 v nb x1 h1 h2=>q s1 v x1 (.inr ⟨nb,h1,by rw[Ey];omega,h2⟩)
theorem VF_ {n b c:Nat}{s:St}{va vb:Value}{la lb:List Nat}{Q:Value->St->Prop}(hbd:s.lim<=s.next)(ra:Row s b 0 [va,vb])(ba:Bs s va la)(bb:Bs s vb lb)(ht:la.length+lb.length<=1000000)(hn:100<=n)(q: ∀s1 v,Ext Any Non s s1->BsO s1 v (la++lb) s.next->Q v s1):W (Ac envS (runF envS n) 66 [.slice (some ⟨b,0,none⟩) 2 c]) s Q:=by
 have hp:Parts s b 0 [(va,la),(vb,lb)]:=⟨ra,λp hp=>by
  simp only[List.mem_cons,List.not_mem_nil,or_false]at hp
  rcases hp with rfl|rfl
  ·exact ba
  ·exact bb⟩
 have ef:fl [(va,la),(vb,lb)]=la++lb:=by
  show la++(lb++[])=_
  rw[List.append_nil]
 have et:tot [(va,la),(vb,lb)]=la.length+lb.length:=by
  rw[<-Ey,ef,List.length_append]
 have el:[(va,la),(vb,lb)].length=2:=rfl
 generalize [(va,la),(vb,lb)]=ps at *
 have:=AaX_ (n:=n) (s:=s) (b:=b) (o:=0) (c:=c) (parts:=ps) (Q:=Q) hbd hp J J J λs1 v x1 h1=>q s1 v (x1.weak hbd (λ_ _ _=>trivial) λ_ _ h=>h) (by rw[<-ef];exact h1)
 rwa [el]at this
section
variable {n D M:Nat}{s:St}{k:DkS}{col:Nat->Nat}{a:ByteArray}{Q:Value->St->Prop}
theorem Ale_ (hb:s.lim<=s.next)(hI:DkI s col D M k)(hlen:k.fs.length<=300)(hz:k.used<=1000000)(hn:400<=n)
  (q1:k.out=true-> ∀s1,Ext Any Non s s1->Q (.tuple #[.slice none 0 0, .int .i64 10]) s1)
  (q2:k.out=false->An k.fs a=none-> ∀s1,Ext Any Non s s1->Q (.tuple #[.slice none 0 0, .int .i64 6]) s1)
  (q3:k.out=false-> ∀j,An k.fs a=some j-> ∀hj:j<k.fs.length,∀s1 v,Ext Any Non s s1->BsO s1 v k.fs[j].all s.next->Q (.tuple #[v, .int .i64 0]) s1):
  W (Ac envS (runF envS n) 43 [.pointer (some ⟨D,0,none⟩), .string a]) s Q:=by
 have hb0:(s.cxN cxN).lim<=(s.cxN cxN).next:=hb
 have hI0:DkI (s.cxN cxN) col D M k:=hI.same rfl rfl
 refine AkH_ λtm t0 t1=> ?_
 refine ArA_.u ?_
 simp only[EU_,RR,SS]
 refine TR_.u ?_
 simp only[WC,RR,SS,reduceCtorEq, ↓reduceIte,t0]
 refine I2 (o:=k.out) hb0 (hI0.d0.same rfl rfl) (hI0.d6.same rfl rfl) J λs1 m1 n1 x1=> ?_
 have y1:=x1
 have n1':s1.next=s.next:=n1
 have hI1:DkI s1 col D M k:=hI0.same m1 n1
 refine AgO_.u ?_
 cases ho:k.out with
 |true=>
  simp only[QS,RR,SS, ↓reduceIte,Cr]
  refine aJ Tt ?_
  refine UK_.u ?_
  simp only[KD_,RR,SS,Nat.reduceEqDiff, ↓reduceIte]
  refine aB (rs:=[4,5]) (vs:=[.slice none 0 0, .int .i64 10]) rfl (.inl ZQ_) J Je Rf y1.cx Y ?_
  exact q1 ho _ y1.cx'
 |false=>
  simp only[QS,RR,SS,reduceCtorEq, ↓reduceIte,Cr]
  refine aG Tt ?_
  refine Ahe_.u ?_
  simp only[FB_,RR,SS,Nat.reduceEqDiff,reduceCtorEq, ↓reduceIte,t0,t1,Ab B4 al]
  refine aA B7 hI1.d1.at' ?_
  refine DE (fs:=k.fs) (mx:=k.mx) (hI1.om.same rfl rfl) ?_
  have y2:=(y1.thenRd hb0 (D+(0+1))).thenRd hb0 M
  have hI2:DkI ((s1.rdN (D+(0+1))).rdN M) col D M k:=hI1.same rfl rfl
  have n2:((s1.rdN (D+(0+1))).rdN M).next=s.next:=n1'
  generalize (s1.rdN (D+(0+1))).rdN M=s2 at *
  refine AiV_.u ?_
  cases hj:An k.fs a with
  |none=>
   have hv:AG k.fs a= .pointer none:=by unfold AG;rw[hj]
   rw[hv]
   simp only[Qd,RR,SS, ↓reduceIte,Fb]
   refine aJ DZ_ ?_
   refine Adw_.u ?_
   simp only[Rg_,RR,SS]
   refine aB (rs:=[4,5]) (vs:=[.slice none 0 0, .int .i64 6]) rfl (.inl SQ_) J Je Rf y2.cx Y ?_
   exact q2 ho hj _ y2.cx'
  |some j=>
   have hlt:=Dh hj
   have hv:AG k.fs a= .pointer (some ⟨k.fs[j].blk,0,none⟩):=by
    unfold AG
    rw[hj]
    simp only[List.getElem?_eq_getElem hlt]
   rw[hv]
   simp only[Qd,RR,SS, ↓reduceIte,C5 ED]
   refine aG DZ_ ?_
   have g:=hI2.fl j hlt
   have hused:=aV hlt
   refine Ye_.u ?_
   simp only[Ee_,RR,T.get_set,Nat.reduceEqDiff,reduceIte,Aa,Cb,A0,A3,LL,EN,AW,OM,Aj]
   rw[W_dq λs Q=>AD (s:=s) _ Q]
   dsimp only
   try simp only[Aa]
   rw[W_dq λs Q=>Ab (s:=s) F9 al Q]
   dsimp only
   try simp only[Aa]
   refine aD A2 ((g.o0.same (s':=dSt s2.mem s2.next) rfl rfl).at') λrd3 hr3=> ?_
   try simp only[Aj]
   rw[W_dq λs Q=>AD (s:=s) _ Q]
   dsimp only
   try simp only[Aa]
   rw[W_dq λs Q=>Ab (s:=s) CS al Q]
   dsimp only
   try simp only[Aa]
   refine aD A2 ((g.o1.same (s':=dSt s2.mem s2.next) rfl rfl).at') λrd7 hr7=> ?_
   try simp only[Aa]
   refine aO (aQ (s:=oSt s2.mem s2.next) (Nat.le_refl _) (r:=[k.fs[j].sv,k.fs[j].lv]) Gm_ al (Tp (g.ms.sl.imp λp h=>⟨_,h⟩) (g.ml.sl.imp λp h=>⟨_,h⟩)) (BD al) λsa na xa ra=>⟨Non,xa,λrd8 hr8=> ?_⟩)
   obtain rfl:=CU λx hx=>(hr8 x hx).2
   try simp only[Aa]
   have bs:Bs s2 k.fs[j].sv k.fs[j].sb:=g.ms.bs (Nat.lt_of_le_of_lt (show _<=1000000 by omega) al)
   have bl:Bs s2 k.fs[j].lv k.fs[j].lb:=g.ml.bs (Nat.lt_of_le_of_lt (show _<=1000000 by omega) al)
   refine aO (VF_ (s:=oSt sa.mem sa.next) (Nat.le_refl _) (λi v e=>((ra i v e).same rfl rfl).at') (((bs.same (s':=oSt s2.mem s2.next) rfl rfl).ext0 xa).same rfl rfl) (((bl.same (s':=oSt s2.mem s2.next) rfl rfl).ext0 xa).same rfl rfl) J J λsb v xb hbs=>⟨_,xb,λrd9 hr9=> ?_⟩)
   refine Eq.mpr (Aj v _ _ _ _) ?_
   dsimp only
   try simp only[E8]
   have na':sa.next=s2.next+3:=na
   have nb':sa.next<=sb.next:=xb.nxt
   rw[AI]
   refine⟨CP ?_, ?_⟩
   ·simp only[List.reverse_cons,List.reverse_nil,List.nil_append,List.cons_append,allP,BS,List.take,Cu]
    have lts: ∀x,s2.next<=x-> ¬x<s2.next:=λx h=>J
    simp+contextual [lts]
    exact .inl rfl
   ·refine aK (SR_ _ _ _ _ _ _ _ _ _ _ _ _ _ _ _ _) ?_
    simp only[SS]
    generalize hs':(⟨(dSt sb.mem sb.next).mem,(dSt sb.mem sb.next).next,s2.lim,_,_,s2.cx⟩:St)=s7
    have x7:Ext Any Non s2 s7:=by
     rw[<-hs']
     exact Ext.draw (F:=Any) (by show s2.next<=sb.next;omega) (λx hx=>(xb.mem x (by show x<sa.next;omega) id).trans (xa.mem x hx id)) am λ_ _ _ _ _=>trivial
    have m7:s7.mem=sb.mem:=by rw[<-hs'];rfl
    have n7:s7.next=sb.next:=by rw[<-hs'];rfl
    have y7:=y2.on x7 hb0 λ_ _ h=>h
    refine aB (rs:=[4,5]) (vs:=[v, .int .i64 0]) rfl (.inl AcE_) J Je Rf y7.cx Y ?_
    exact q3 ho j hj hlt _ v y7.cx' ((hbs.same (s':=s7.cxN s.cx) m7 n7).mono (by show s.next<=sa.next;omega))
