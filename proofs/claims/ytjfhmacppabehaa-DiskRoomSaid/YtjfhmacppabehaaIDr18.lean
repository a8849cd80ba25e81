import Derived.Test.YtjfhmacppabehaaIDr17
import Derived.Test.YtjfhmacppabehaaIDr08
import Derived.Test.YtjfhmacppabehaaIDr07
namespace Go.Proofs.Ytjfhmacppabehaa.Am
open Go.RowKit
theorem SN:envS.orc.get 10=some usedM:=by kernel_rfl
theorem KS {call round:Ac}{f:Nat}{l:List Value}:A9 call round (.func (.func f) #[] #[]) l=call f l:=by
 show call f ([]++(l++[]))=_
 rw[List.append_nil,List.nil_append]
theorem Bs.lenq {E:Env}{s s':St}{t sz:Nat}{v:Value}{l:List Nat}(h:Bs s v l)(ht:slN E t=some sz)(Q:Value→St→Prop):W (A6 E .len [t] [v]) s' Q=Q (.int .i64 (l.length:Nat)) s':=by
 obtain⟨p,c,rfl⟩:=h.sl
 exact B8 ht Q
theorem Bs.oneq {s:St}{v:Value}{l:List Nat}(h:Bs s v l):oneCell v=true:=by
 obtain⟨p,c,rfl⟩:=h.sl
 rfl
theorem W.usedD {D Mp:Nat}{k:DkS}{col:Nat→Nat}{s:St}{β:Type}{n:Nat}{f:Value×OpLog→M β}{Q:β→St→Prop}(hI:DkI s col D Mp k)(hz:k.used≤5000000)(q: ∀rd,(∀x∈rd,x<s.next)→W (f (.int .i64 (k.used:Nat),⟨s.next,s.next,rd,[]⟩)) (dSt s.mem s.next) Q):W (M.bind (apartO (As envS (runF envS n) 10 [.pointer (some ⟨D,0,none⟩)])) f) (dSt s.mem s.next) Q:=by
 refine W.dop (W.orc SN (W.used (s:=oSt s.mem s.next) (Nat.le_refl _) (hI.d0.same rfl rfl).at' (hI.d1.same rfl rfl).at' (hI.om.same rfl rfl) hI.bo (ns:=k.fs.map fun f=>f.sb.length+f.lb.length) (by simp) (fun i e n h1 h2=>(hI.lens i e n h1 h2).same rfl rfl) fun s1 m1 n1 x1=>⟨Any,x1,fun rd hr=> ?_⟩))
 have e:wrap64 (((k.fs.map fun f=>f.sb.length+f.lb.length).sum:Nat):Int)=((k.used:Nat):Int):=by
  show wrap64 ((k.used:Nat):Int)=_
  exact Cb (by omega) (by omega)
 rw[e,m1,n1]
 exact q rd fun x hx=>(hr x hx).1
theorem DkI.own {F G:Nat→Prop}{s s':St}{col:Nat→Nat}{D M:Nat}{k:DkS}{st le:Int}{fu ou:Bool}(h:DkI s col D M k)(x:Ext F G s s')(hG: ∀y,y<s.next→G y→D+3≤y∧y<D+7)(h3:Own s' D 3 (.int .i64 st))(h4:Own s' D 4 (.bool fu))(h5:Own s' D 5 (.int .i64 le))(h6:Own s' D 6 (.bool ou)):DkI s' col D M {k with steps:=st,fused:=fu,left:=le,out:=ou}:=by
 have c: ∀o,o<3→D+o<s.next→ ¬G (D+o):=fun o ho hn g=>by have:=hG _ hn g;omega
 have z: ∀y,y<s.next→G y→col y=0:=fun y hy g=>h.kd y (by have:=hG y hy g;omega) (by have:=hG y hy g;omega)
 exact⟨h.d0.ext x (c 0 (by decide) h.d0.1),h.d1.ext x (c 1 (by decide) h.d1.1),h.d2.ext x (c 2 (by decide) h.d2.1),h3,h4,h5,h6,h.kd,h.om.ext x fun g=>by
  have h1:=z _ h.om.1 g
  have h2:=h.km
  omega,h.km,h.bo,fun i hi=>(h.fl i hi).ext x fun y hy g=>by
  have h1:=z y hy g
  omega⟩
section
variable {n D M:Nat}{s:St}{k:DkS}{col:Nat→Nat}{a:ByteArray}{bv:Value}{l:List Nat}{Q:Value→St→Prop}
theorem P6 (hb:s.lim≤s.next)(hI:DkI s col D M k)(hlen:k.fs.length≤300)(ha:NmOk a)(hB:Bs s bv l)(hBc: ∀x,BsF bv x→x<s.next∧1000≤col x)(hz:k.used+l.length≤4000000)(hn:400≤n)
  (q1:k.out=true→ ∀s1 col',After s s1 col col' D M k→Q (.int .i64 10) s1)
  (q2:k.out=false→k.room<(k.used+l.length:Nat)→ ∀s1 col',After s s1 col col' D M k→Q (.int .i64 8) s1)
  (q3:k.out=false→((k.used+l.length:Nat):Int)≤k.room→(k.fused=true∧k.left=0)→ ∀s1 col',After s s1 col col' D M {k with out:=true}→Q (.int .i64 10) s1)
  (q4:k.out=false→((k.used+l.length:Nat):Int)≤k.room→ ¬(k.fused=true∧k.left=0)→ ∀s1 col' blk v b,After s s1 col col' D M {k with fs:=DG k a blk v b l,mx:=DR k a,steps:=wrap64 (k.steps+1),left:=if k.fused then wrap64 (k.left-1)else k.left}→Q (.int .i64 0) s1):
  W (As envS (runF envS n) 9 [.pointer (some ⟨D,0,none⟩), .string a,bv]) s Q:=by
 have hb0:(s.cxN cxN).lim≤(s.cxN cxN).next:=hb
 have hI0:DkI (s.cxN cxN) (paint col s.next 1000) D M k:=(hI.col fun x hx=>BJ hx).same rfl rfl
 have hag: ∀x,x<s.next→paint col s.next 1000 x=col x:=fun x hx=>BJ hx
 have hnew: ∀x,s.next≤x→paint col s.next 1000 x=1000:=fun x hx=>Dx hx
 have hBc': ∀x,BsF bv x→1000≤paint col s.next 1000 x:=fun x hx=>by rw[hag x (hBc x hx).1];exact(hBc x hx).2
 have hDlt:D+6<s.next:=hI.d6.1
 generalize hcol1:paint col s.next 1000=col1 at *
 refine HO_ fun tm t0 t1 t2=> ?_
 refine GS_.w rfl (by omega) ?_
 simp only[U5,Ad,W_oS,Aa,W_mv,Ab,T.get_set,reduceIte,Nat.reduceEqDiff, ↓reduceIte,t0]
 refine W.box fun sa na xa oa=> ?_
 have ea:(s.cxN cxN).next=s.next:=rfl
 rw[Du (show oneCell (.pointer (some ⟨D,0,none⟩))=true from rfl)]at na oa
 rw[ea]at oa na ⊢
 have na':sa.next=s.next+2:=na
 simp only[W_oS,t1]
 refine W.box fun sb nb xb ob=> ?_
 rw[Du (show oneCell (.string a)=true from rfl)]at nb ob
 rw[na']at ob nb ⊢
 have nb':sb.next=s.next+4:=nb
 simp only[W_oS,t2]
 refine W.box fun sc nc xc oc=> ?_
 rw[Du hB.oneq]at nc oc
 rw[nb']at oc nc ⊢
 have nc':sc.next=s.next+6:=nc
 try simp only[Ad,W_oS,W_on,Aa,W_mv,Ab,AV,T.get_set,Ak,Aj,A0,AZ,Ai,Av,reduceIte,AP,AW,A2,AY,AT,AQ,AS,AX,AO,AN,Nat.reduceEqDiff,reduceCtorEq, ↓reduceIte]
 have yc:=(((Ext.refl (F:=Any) (G:=Non) (s.cxN cxN)).on xa hb0 fun _ _ h=>h).on xb hb0 fun _ _ h=>h).on xc hb0 fun _ _ h=>h
 have c0:Own sc s.next 0 (.pointer (some ⟨D,0,none⟩)):=((oa 0 _ rfl).ext0 xb).ext0 xc
 have c2:Own sc (s.next+2) 0 (.string a):=(ob 0 _ rfl).ext0 xc
 have c4:Own sc (s.next+4) 0 bv:=oc 0 _ rfl
 have hIc:DkI sc col1 D M k:=hI0.ext0 yc hlen
 have hBsc:Bs sc bv l:=(hB.same (s':=s.cxN cxN) rfl rfl).ext0 yc
 refine JQ_.w At_ (by omega) ?_
 simp only[RF,Ad,W_oS,W_on,Aa,W_mv,Ab,T.get_set,Ak,Aj,Ai,Av,reduceIte,Nat.reduceEqDiff, ↓reduceIte]
 refine W.load1 Cy c0.at' ?_
 have yd:=yc.thenRd hb0 (s.next+0)
 try simp only[Ad,W_oS,W_on,Aa,W_mv,Ab,AV,T.get_set,Ak,Aj,A0,AZ,Ai,Av,reduceIte,AP,AW,A2,AY,AT,AQ,AS,AX,AO,AN,Nat.reduceEqDiff,reduceCtorEq, ↓reduceIte]
 refine OE (o:=k.out) (yd.bnd hb0) (hIc.d0.same rfl rfl) (hIc.d6.same rfl rfl) (by omega) fun s1 m1 n1 x1=> ?_
 have y1:=yd.on x1 hb0 fun _ _ h=>h
 have m1':s1.mem=sc.mem:=m1
 have n1':s1.next=s.next+6:=by have:s1.next=sc.next:=n1;omega
 have hI1:DkI s1 col1 D M k:=hIc.same m1' (by omega)
 have d0:=c0.same m1' (show s1.next=sc.next by omega)
 have d2:=c2.same m1' (show s1.next=sc.next by omega)
 have d4:=c4.same m1' (show s1.next=sc.next by omega)
 have hB1:=hBsc.same m1' (show s1.next=sc.next by omega)
 try simp only[Ad,W_oS,W_on,Aa,W_mv,Ab,AV,T.get_set,Ak,Aj,A0,AZ,Ai,Av,reduceIte,AP,AW,A2,AY,AT,AQ,AS,AX,AO,AN,Nat.reduceEqDiff,reduceCtorEq, ↓reduceIte]
 refine Gs_.w Ct_ (by omega) ?_
 cases ho:k.out with
 |true=>
  simp only[Nw,Ad,W_oS,Aa,W_mv,Ab,T.get_set,reduceIte, ↓reduceIte,Cd]
  refine W.cond (v:=true) O9 Sw (by simp[T.get_set]) (by omega) (fun _=> ?_) fun h=>by cases h
  refine HL_.w Gg_ (by omega) ?_
  simp only[Pk,Aa,W_mv,Ab,T.get_set,reduceIte,Nat.reduceEqDiff, ↓reduceIte]
  refine W.end' (rs:=[6]) (vs:=[.int .i64 10]) Ge_ (.inl Zo) (by omega) Gg I4 y1.cx (by simp[T.get_set]) ?_
  exact q1 ho _ col1 ⟨hI1.same rfl rfl,hag,(y1.gw hb0 fun _ _ h=>h.elim).cx'⟩
 |false=>
  simp only[Nw,Ad,W_oS,Aa,W_mv,Ab,T.get_set,reduceIte,reduceCtorEq, ↓reduceIte,Cd]
  refine W.cond (v:=false) O9 Sw (by simp[T.get_set]) (by omega) (fun h=>by cases h) fun _=> ?_
  refine De_.w Kg_ (by omega) ?_
  simp only[Pn,T.get_set,Nat.reduceEqDiff,reduceIte,Ba]
  refine W.dload Cy ((d0.same (s':=dSt s1.mem s1.next) rfl rfl).at') fun rd0 hr0=> ?_
  try simp only[Ba]
  rw[W_dq fun s Q=>AN (s:=s) _ Q]
  dsimp only
  try simp only[Ba]
  rw[W_dq fun s Q=>Bz (s:=s) Et (by decide) Q]
  dsimp only
  try simp only[Ba]
  refine W.dload EK ((hI1.d1.same (s':=dSt s1.mem s1.next) rfl rfl).at') fun rd3 hr3=> ?_
  refine W.dload Dc ((d2.same (s':=dSt s1.mem s1.next) rfl rfl).at') fun rd4 hr4=> ?_
  try simp only[Ba]
  refine W.dop (Oc (s:=oSt s1.mem s1.next) (fs:=k.fs) (mx:=k.mx) (hI1.om.same rfl rfl) ⟨Any,Ext.rdN (F:=Any) (G:=Non) _ M fun _=>trivial,fun rd5 hr5=> ?_⟩)
  show W _ (dSt s1.mem s1.next) _
  refine W.dop (W.alloc (s:=oSt s1.mem s1.next) DI_ fun s2 n2 x2 o2=>⟨Non,x2,fun rd6 hr6=> ?_⟩)
  obtain rfl:=V4 (fun x hx=>(hr6 x hx).2)
  have n2':s2.next=s.next+8:=by
   have:s2.next=s1.next+2:=n2
   omega
  simp only[AV,Aa]
  refine⟨HA ?_, ?_⟩
  ·simp only[List.reverse_cons,List.reverse_nil,List.nil_append,List.cons_append,allP,DA,List.take,GJ]
   have lts: ∀x,s1.next≤x→ ¬x<s1.next:=fun x h=>by omega
   have e5: ∀x,x∈rd5→s1.next≤x→False:=fun x h1 h2=>by have:=(hr5 x h1).1;omega
   simp+contextual [lts]
  ·refine W.cast (BM_ _ _ _ _ _ _ _ _ _ _ _ _) ?_
   simp only[Ad,W_oS,Aa]
   generalize hs':(⟨(dSt s2.mem s2.next).mem,(dSt s2.mem s2.next).next,s1.lim,_,_,s1.cx⟩:St)=s3
   have m3:s3.mem=s2.mem:=by rw[←hs'];rfl
   have n3:s3.next=s2.next:=by rw[←hs'];rfl
   have x3:Ext Any Non s1 s3:=by
    rw[←hs']
    exact Ext.draw (F:=Any) (by show s1.next≤s2.next;omega) (fun x hx=>x2.mem x hx fun h=>h) (by simp) fun _ _ _ _ _=>trivial
   have y3:=y1.on x3 hb0 fun _ _ h=>h.elim
   have hlv:oneCell (BG k.fs a)=true:=by
    unfold BG
    cases BL k.fs a with
    |none=>rfl
    |some j=>simp only;cases k.fs[j]?<;>rfl
   have oK3:Own s3 s1.next 0 (.pointer none):=(o2 0 _ rfl).same m3 n3
   rw[show(oSt s1.mem s1.next).next=s.next+6 from n1'] 
   rw[n1']at oK3
   refine W.store1 Ek hlv oK3 fun s4 n4 x4 o4=> ?_
   try simp only[Ad,W_oS,W_on,Aa,W_mv,Ab,AV,T.get_set,Ak,Aj,A0,AZ,Ai,Av,reduceIte,AP,AW,A2,AY,AT,AQ,AS,AX,AO,AN,Nat.reduceEqDiff,reduceCtorEq, ↓reduceIte]
   have x4':Ext Any (fun y=>y=s.next+6) s3 s4:=x4.weak (y3.bnd hb0) (fun _ _ _=>trivial) fun y _ hq=>by have h1:=hq.1;have h2:=hq.2;omega
   have y4:Ext Any Non (s.cxN cxN) s4:=y3.on x4' hb0 fun y hy h=>by have:y<s.next:=hy;omega
   have hI4:DkI s4 col1 D M k:=(hI1.ext0 x3 hlen).ext x4' hlen fun y _ h=>by rw[hnew y (by omega)];exact Nat.le_refl _
   have keep: ∀o u,o<6→Own s1 (s.next+o) 0 u→Own s4 (s.next+o) 0 u:=fun o u ho hu=>(hu.ext0 x3).ext x4' fun h=>by omega
   have e0:=keep 0 _ (by decide) d0
   have e2:=keep 2 _ (by decide) d2
   have e4:=keep 4 _ (by decide) d4
   have hB4:Bs s4 bv l:=(Bs.ext0 hB1 x3).ext x4' fun x hx h=>by have:=(hBc x hx).1;omega
   have n4':s4.next=s.next+8:=by omega
   refine EY_.w AB_ (by omega) ?_
   simp only[Rt,Ad,W_oS,W_on,Aa,W_mv,Ab,T.get_set,Ak,Aj,Ai,Av,reduceIte,Nat.reduceEqDiff, ↓reduceIte]
   refine W.load1 Dc e2.at' ?_
   have y5:=y4.thenRd hb0 (s.next+2+0)
   try simp only[Ad,W_oS,W_on,Aa,W_mv,Ab,AV,T.get_set,Ak,Aj,A0,AZ,Ai,Av,reduceIte,AP,AW,A2,AY,AT,AQ,AS,AX,AO,AN,Nat.reduceEqDiff,reduceCtorEq, ↓reduceIte]
   refine AS_ (y5.bnd hb0) ha (by omega) fun s6 x6=> ?_
   have y6:=y5.on x6 hb0 fun _ _ h=>h
   have x46:Ext Any Non s4 s6:=((Ext.refl (F:=Any) (G:=Non) s4).thenRd (y4.bnd hb0) _).on x6 (y4.bnd hb0) fun _ _ h=>h
   have hI6:=hI4.ext0 x46 hlen
   have f0:=e0.ext0 x46
   have f2:=e2.ext0 x46
   have f4:=e4.ext0 x46
   have fK:=o4.ext0 x46
   have hB6:=Bs.ext0 hB4 x46
   simp only[JO,Bool.not_true]
   refine W.cond (v:=false) Bf_ JF_ (by simp[T.get_set]) (by omega) (fun h=>by cases h) fun _=> ?_
   refine Dw_.w Jz_ (by omega) ?_
   have full: ∀(n':Nat) (tm':T Value) (td':List Item) (s':St),n≤n'+20→skim 64 td'=G1→Ext Any Non (s.cxN cxN) s'→Ext Any Non s6 s'→T.get tm' 3=some (.pointer (some ⟨s.next,0,none⟩))→T.get tm' 4=some (.pointer (some ⟨s.next+2,0,none⟩))→T.get tm' 5=some (.pointer (some ⟨s.next+4,0,none⟩))→T.get tm' 8=some (.pointer (some ⟨s.next+6,0,none⟩))→
     W (runF envS n' ⟨9,Zn,Ca,tm',td', .run, .normal,none⟩) s' fun p s1=>Q p.1 (s1.cxN s.cx):=by
    intro n' tm' td' s' hn' hT' y' x' g3 g4 g5 g8
    have hI':=hI6.ext0 x' hlen
    have p0:=f0.ext0 x'
    have p4:=f4.ext0 x'
    have pK:=fK.ext0 x'
    have p2:=f2.ext0 x'
    have hB':=Bs.ext0 hB6 x'
    refine KX_.w hT' (by omega) ?_
    simp only[R5,g3,g5,Ba,FO,Ak,Aj,Ai,KS]
    refine W.dload Cy ((p0.same (s':=dSt s'.mem s'.next) rfl rfl).at') fun rd0 hr0=> ?_
    try simp only[FO]
    refine W.usedD hI' (by omega) fun rd1 hr1=> ?_
    refine W.dload Cx ((p4.same (s':=dSt s'.mem s'.next) rfl rfl).at') fun rd2 hr2=> ?_
    try simp only[Ba]
    rw[W_dq fun s Q=>Bs.lenq (s':=s) hB' EB Q]
    dsimp only
    try simp only[Ba]
    rw[W_dq fun s Q=>X8 (s:=s) _ _ Q]
    have es:wrap64 (((k.used:Nat):Int)+((l.length:Nat):Int))=((k.used+l.length:Nat):Int):=by
     rw[Cb (by omega) (by omega)];omega
    rw[es]
    dsimp only
    refine W.dload Cy ((p0.same (s':=dSt s'.mem s'.next) rfl rfl).at') fun rd5 hr5=> ?_
    try simp only[Ba]
    rw[W_dq fun s Q=>AN (s:=s) _ Q]
    dsimp only
    try simp only[Ba]
    rw[W_dq fun s Q=>Bz (s:=s) PQ (by decide) Q]
    dsimp only
    try simp only[Ba]
    refine W.dload GZ ((hI'.d2.same (s':=dSt s'.mem s'.next) rfl rfl).at') fun rd8 hr8=> ?_
    try simp only[Ba]
    rw[W_dq fun s Q=>CU (s:=s) (Q:=Q) _ _,Aa]
    refine⟨IV (by simp) (by simp), ?_⟩
    refine W.cast (W9 _ _ _ _ _ _ _ _ _ _ _ _ _ _ _) ?_
    simp only[Ad,W_oS,Aa,AV]
    generalize hs':(⟨(dSt s'.mem s'.next).mem,(dSt s'.mem s'.next).next,s'.lim,_,_,s'.cx⟩:St)=s7
    have x7:Ext Any Non s' s7:=by
     rw[←hs']
     exact Ext.draw (F:=Any) (Nat.le_refl _) (fun _ _=>rfl) (by simp) fun _ _ _ _ _=>trivial
    have y7:=y'.on x7 hb0 fun _ _ h=>h
    have hI7:=hI'.ext0 x7 hlen
    have r0:=p0.ext0 x7
    have r2:=p2.ext0 x7
    have r4:=p4.ext0 x7
    have rK:=pK.ext0 x7
    have hB7:=Bs.ext0 hB' x7
    by_cases hfu:k.room<((k.used+l.length:Nat):Int)
    ·refine W.cond (v:=true) Pf UB (by simp[T.get_set];exact hfu) (by omega) (fun _=> ?_) fun h=>by cases h
     refine Bp_.w Eo_ (by omega) ?_
     simp only[Up,Aa,W_mv,Ab]
     refine W.end' (rs:=[6]) (vs:=[.int .i64 8]) Ws (.inl ZE) (by omega) Gg I4 y7.cx (by simp[T.get_set]) ?_
     exact q2 ho hfu _ col1 ⟨hI7.same rfl rfl,hag,(y7.gw hb0 fun _ _ h=>h.elim).cx'⟩
    ·refine W.cond (v:=false) Pf UB (by simp[T.get_set];omega) (by omega) (fun h=>by cases h) fun _=> ?_
     refine EB_.w EC_ (by omega) ?_
     simp only[QZ,Ad,W_oS,W_on,Aa,W_mv,Ab,T.get_set,Ak,Aj,Ai,Av,reduceIte,Nat.reduceEqDiff, ↓reduceIte,g3,g4,g5,g8]
     refine W.load1 Cy r0.at' ?_
     have y8:=y7.thenRd hb0 (s.next+0)
     have hI8:DkI (s7.rdN (s.next+0)) col1 D M k:=hI7.same rfl rfl
     have u0:Own (s7.rdN (s.next+0)) s.next 0 (.pointer (some ⟨D,0,none⟩)):=r0.same rfl rfl
     have u2:Own (s7.rdN (s.next+0)) (s.next+2) 0 (.string a):=r2.same rfl rfl
     have u4:Own (s7.rdN (s.next+0)) (s.next+4) 0 bv:=r4.same rfl rfl
     have uK:Own (s7.rdN (s.next+0)) (s.next+6) 0 (BG k.fs a):=rK.same rfl rfl
     have hB8:Bs (s7.rdN (s.next+0)) bv l:=hB7.same rfl rfl
     generalize s7.rdN (s.next+0)=s8 at *
     try simp only[Ad,W_oS,W_on,Aa,W_mv,Ab,AV,T.get_set,Ak,Aj,A0,AZ,Ai,Av,reduceIte,AP,AW,A2,AY,AT,AQ,AS,AX,AO,AN,Nat.reduceEqDiff,reduceCtorEq, ↓reduceIte]
     have hD0:=hI8.kd
     refine TR (f2:=39) (y8.bnd hb0) hI8.d3 hI8.d4 hI8.d5 hI8.d6 (by omega) (fun hf s9 n9 x9 o9=> ?_) fun hf n9 s9 hn9 hcx9 hnx9 x9 o93 o95=> ?_
     ·have y9:Ext Any (fun x=>col1 x<1000) (s.cxN cxN) s9:=(y8.gw hb0 fun _ _ h=>h.elim).on x9 hb0 fun y _ h=>by rw[h,hD0 (D+6) (by omega) (by omega)];decide
      try simp only[Ad,W_oS,W_on,Aa,W_mv,Ab,AV,T.get_set,Ak,Aj,A0,AZ,Ai,Av,reduceIte,AP,AW,A2,AY,AT,AQ,AS,AX,AO,AN,Nat.reduceEqDiff,reduceCtorEq, ↓reduceIte]
      refine W.end' (rs:=[6]) (vs:=[.int .i64 10]) OT (.inl UP) (by omega) Gg I4 y9.cx (by simp[T.get_set]) ?_
      have hd:Ext Any (fun y=>y=D+6) s8 s9:=x9
      have hI9:=hI8.own (st:=k.steps) (fu:=k.fused) (le:=k.left) (ou:=true) hd (fun y _ h=>by omega) (hI8.d3.ext hd fun h=>by omega) (hI8.d4.ext hd fun h=>by omega) (hI8.d5.ext hd fun h=>by omega) o9
      exact q3 ho (by omega) hf _ col1 ⟨hI9.same rfl rfl,hag,(y9.gw hb0 fun y hy h=>by rw[←hag y hy];exact h).cx'⟩
     ·have hd:Ext Any (fun y=>y=D+3∨y=D+5) s8 (s9.cxN s8.cx):=x9
      have hI9':=hI8.own (st:=wrap64 (k.steps+1)) (fu:=k.fused) (le:=if k.fused then wrap64 (k.left-1)else k.left) (ou:=k.out) hd (fun y _ h=>by omega) (o93.same rfl rfl) (hI8.d4.ext hd fun h=>by omega) (o95.same rfl rfl) (hI8.d6.ext hd fun h=>by omega)
      have hI9:=hI9'.same (s':=s9) rfl rfl
      have v0:=(u0.ext hd fun h=>by omega).same (s':=s9) rfl rfl
      have v2:=(u2.ext hd fun h=>by omega).same (s':=s9) rfl rfl
      have v4:=(u4.ext hd fun h=>by omega).same (s':=s9) rfl rfl
      have vK:=(uK.ext hd fun h=>by omega).same (s':=s9) rfl rfl
      have hB9:Bs s9 bv l:=(hB8.ext hd fun x hx h=>by
       have h1:=hBc' x hx
       have h2:=hD0 x (by omega) (by omega)
       omega).same rfl rfl
      have y9:Ext Any (fun x=>col1 x<1000) (s.cxN cxN) (s9.cxN s8.cx):=(y8.gw hb0 fun _ _ h=>h.elim).on hd hb0 fun y _ h=>by rw[hD0 y (by omega) (by omega)];decide
      have y9':Ext Any (fun x=>col1 x<1000) (s.cxN cxN) s9:=⟨y9.nxt,y9.lim,hcx9,y9.mem,y9.rd,y9.wr⟩
      have hn9':s9.next=s8.next:=hnx9
      show W (As envS (runF envS n9) 39 [.pointer (some ⟨s.next+6,0,none⟩), .pointer (some ⟨s.next,0,none⟩), .pointer (some ⟨s.next+2,0,none⟩), .pointer (some ⟨s.next+4,0,none⟩)]) s9 _
      refine W7 (C:=s.next) (K:=s.next+6) (y9'.bnd hb0) hI9 hlen hB9 v0 v2 v4 vK (fun x h1 h2=>by rw[hnew x h1];exact Nat.le_refl _) (by rw[hnew _ (by omega)];exact Nat.le_refl _) (fun x hx=>⟨fun h=>by have:=(hBc x hx).1;omega,hBc' x hx⟩) (.inr (by omega)) (by show DkS.used _+_≤_;exact hz) (by omega) fun s10 col' blk v b hI10 hag10 x10=> ?_
      refine⟨x10.cx.trans hcx9, ?_⟩
      have y10:=y9'.on x10 hb0 fun y hy h=>by
       have h0:y<s.next:=hy
       rcases h with h|h
       ·exact h
       ·omega
      have e8:s8.cx=cxN:=y8.cx
      rw[e8]
      try simp only[Ad,W_oS,W_on,Aa,W_mv,Ab,AV,T.get_set,Ak,Aj,A0,AZ,Ai,Av,reduceIte,AP,AW,A2,AY,AT,AQ,AS,AX,AO,AN,Nat.reduceEqDiff,reduceCtorEq, ↓reduceIte]
      refine W.end' (rs:=[6]) (vs:=[.int .i64 0]) OT (.inl UP) (by omega) Gg I4 rfl (by simp[T.get_set]) ?_
      have hn8:s.next≤s8.next:=y8.nxt
      exact q4 ho (by omega) hf _ col' blk v b ⟨hI10.same rfl rfl,fun x hx=>(hag10 x (by omega)).trans (hag x hx),(y10.gw hb0 fun y hy h=>by rw[←hag y hy];exact h).cx'⟩
   simp only[Rq,Ad,W_oS,W_on,Aa,W_mv,Ab,T.get_set,Ak,Aj,Ai,reduceIte,Nat.reduceEqDiff, ↓reduceIte]
   refine W.load1 Ek fK.at' ?_
   have y7:=y6.thenRd hb0 (s.next+6+0)
   have x7:=(Ext.refl (F:=Any) (G:=Non) s6).thenRd (y6.bnd hb0) (s.next+6+0)
   cases hj:BL k.fs a with
   |none=>
    have hv:BG k.fs a= .pointer none:=by unfold BG;rw[hj]
    rw[hv]
    simp only[W_oS,reduceIte,AP,AW,AQ,AS,AO, ↓reduceIte,Nl]
    refine W.load1 Cy (f0.same (s':=s6.rdN (s.next+6+0)) rfl rfl).at' ?_
    simp only[AN,Bz Et (by decide)]
    refine W.load1 EK (hI6.d1.same rfl rfl).at' ?_
    try simp only[Ad,W_oS,W_on,Aa,W_mv,Ab,AV,T.get_set,Ak,Aj,A0,AZ,Ai,Av,reduceIte,AP,AW,A2,AY,AT,AQ,AS,AX,AO,AN,Nat.reduceEqDiff,reduceCtorEq, ↓reduceIte]
    refine W.lenM Lx_ (hI6.om.same rfl rfl) ?_
    have e7:decide ((1000:Int)≤((k.fs.map FileS.ent).length:Nat))=false:=by
     rw[List.length_map]
     exact decide_eq_false (by omega)
    simp only[Ls,e7]
    refine W.cond (v:=false) So UJ (by simp[T.get_set]) (by omega) (fun h=>by cases h) fun _=> ?_
    exact full _ _ _ _ (by omega) Tt (((y7.thenRd hb0 _).thenRd hb0 _).thenRd hb0 _) (((x7.thenRd (y6.bnd hb0) _).thenRd (y6.bnd hb0) _).thenRd (y6.bnd hb0) _) (by simp[T.get_set]) (by simp[T.get_set]) (by simp[T.get_set]) (by simp[T.get_set])
   |some j=> 
    have hlt:=JR hj
    have hv:BG k.fs a= .pointer (some ⟨k.fs[j].blk,0,none⟩):=by
     unfold BG
     rw[hj]
     simp only[List.getElem?_eq_getElem hlt]
    rw[hv]
    simp only[Aa,reduceIte,AP,AY,AQ,AX,AO,reduceCtorEq, ↓reduceIte,Fp JX]
    refine W.cond (v:=false) So UJ (by simp[T.get_set]) (by omega) (fun h=>by cases h) fun _=> ?_
    exact full _ _ _ _ (by omega) Tt y7 x7 (by simp[T.get_set]) (by simp[T.get_set]) (by simp[T.get_set]) (by simp[T.get_set])
end
section
variable {E:Env}{s s':St}{t:Nat}{xo yo:Operand}
theorem MkS.bs {l:List Nat}{v:Value}{b:Nat}(h:MkS s 1 l.length (u8l l) v b)(hn:l.length<capU):Bs s v l:=by
 rcases h with⟨rfl,h0,_⟩|⟨h,_⟩
 ·exact .inl ⟨rfl,List.eq_nil_of_length_eq_zero h0⟩
 ·refine .inr ⟨b,0,_,h.val, ?_,Kv hn (by decide),fun i u e=>(h.own i u e).at'⟩
  rw[Nat.mul_add_mod,Nat.mod_eq_of_lt hn]
  exact Nat.le_refl _
theorem MkS.get {l:List Nat}{k:Nat}{v:Value}{b:Nat}(h:MkS s 1 l.length (u8l l) v b)(hk:k<l.length): ∃c,v= .slice (some ⟨b,0,none⟩) l.length c∧Own s b k (.int .u8 (l.getD k 0:Nat)):=by
 rcases h with⟨_,h0,_⟩|⟨h,h0⟩
 ·omega
 ·refine⟨_,h.val, ?_⟩
  have:=h.own k (.int .u8 (l.getD k 0:Nat)) (by
   unfold u8l
   rw[List.getElem?_map,List.getElem?_eq_getElem hk,List.getD_eq_getElem?_getD,List.getElem?_eq_getElem hk]
   rfl)
  rwa [Nat.zero_add]at this
end
theorem Bs.at {s:St}{v:Value}{l:List Nat}(h:Bs s v l){i:Nat}(hi:i<l.length): ∃b o c,v= .slice (some ⟨b,o,none⟩) l.length c∧At s b (o+i*1) (u8 l[i])∧(∀x,x=b+(o+i*1)→BsF v x):=by
 rcases h with⟨rfl,rfl⟩|⟨b,o,c,rfl,_,_,h3⟩
 ·simp at hi
 ·refine⟨b,o,c,rfl, ?_,fun x hx=>⟨by omega,by omega⟩⟩
  rw[Nat.mul_one]
  exact h3.at (List.getElem?_eq_getElem hi)
def FileS.kept (f:FileS)(v:Value)(b:Nat)(m:List Nat):FileS:={f with sv:=v,sbk:=b,sb:=m,lv:= .slice none 0 0,lbk:=0,lb:=[]}
theorem FileI.kept {F:Nat→Prop}{s s':St}{col:Nat→Nat}{c b:Nat}{v:Value}{m:List Nat}{f:FileS}(h:FileI s col c f)(x:Ext F (fun y=>y=f.blk∨y=f.blk+1∨MkF 1 f.sb.length f.sbk y) s s')(h0:Own s' f.blk 0 v)(h1:Own s' f.blk 1 (.slice none 0 0))(hm:MkS s' 1 m.length (u8l m) v b)(hb:b=f.sbk∧m.length=f.sb.length∨s.next≤b):FileI s' (paint col s.next (c+1)) c (f.kept v b m):=by
 have b1:=h.o1.1
 refine⟨h0,h1,fun y q1 q2=>(BJ (by have h3:y<f.blk+2:=q2;omega)).trans (h.k y q1 q2),hm,fun y hy=> ?_, .inl ⟨rfl,rfl,rfl⟩,fun y hy=>absurd hy.1 (Nat.lt_irrefl 0)⟩
 have hy':MkF 1 m.length b y:=hy
 rcases hb with⟨q1,q2⟩|q1
 ·rw[q1,q2]at hy'
  exact(BJ (h.ms.lt y hy')).trans (h.ks y hy')
 ·exact Dx (by have:=hy'.2.1;omega)
section
variable {n D M K j:Nat}{s:St}{k:DkS}{col:Nat→Nat}{a:ByteArray}{Q:Value→St→Prop}
end
section
variable {s:St}
def Bn (s:St)(v:Value)(l:List Nat):Prop:= ∃b o c,v= .slice (some ⟨b,o,none⟩) l.length c∧l.length≤c%capU∧BM c 1=true∧Row s b o (u8l l)
theorem Bn.bs {v:Value}{l:List Nat}(h:Bn s v l):Bs s v l:= .inr h
theorem Bn.ext {F G:Nat→Prop}{s s':St}{v:Value}{l:List Nat}(h:Bn s v l)(e:Ext F G s s')(hG: ∀x,BsF v x→ ¬G x):Bn s' v l:=by
 rcases h.bs.ext e hG with⟨rfl,_⟩|h'
 ·obtain⟨_,_,_,e,_⟩:=h;cases e
 ·exact h'
theorem Bn.ext0 {F:Nat→Prop}{s s':St}{v:Value}{l:List Nat}(h:Bn s v l)(e:Ext F Non s s'):Bn s' v l:=h.ext e fun _ _=>id
def Byt (l:List Nat):Prop:= ∀x∈l,x<256
end
theorem CM:slN envS 26=some 1:=by kernel_rfl
theorem B7:slN envS 22=some 1:=by kernel_rfl
theorem Mw_:elT envS 26=some (1,1,[.int .u8 0]):=by kernel_rfl
theorem VO:appT envS 26 26=some (1,1,false,[.int .u8 0]):=by kernel_rfl
theorem MF_:appT envS 26 3=some (1,1,true,[.int .u8 0]):=by kernel_rfl
theorem Nb:tyS envS 26=some (1,false):=by kernel_rfl
theorem Kh (n:Nat):rep n [Value.int .u8 0]=List.replicate n (Value.int .u8 0):=by
 induction n with
 |zero=>rfl
 |succ n ih=>
  show [Value.int .u8 0]++rep n [Value.int .u8 0]=_
  rw[ih];rfl
structure Room (s s':St)(N:Nat)(v:Value)(b:Nat):Prop where
 val:v= .slice (some ⟨b,0,none⟩) 0 (capU*((b+N*1)*1024+1)+N)
 new:s.next≤b
 own:A7 s' b 0 (List.replicate N (.int .u8 0))
theorem WF {n N:Nat}{s:St}{Q:Value→St→Prop}(hbd:s.lim≤s.next)(hn:20≤n)(hN:0<N)(hN2:N≤1000000)
  (q: ∀s1 v b,Room s s1 N v b→Ext Non Non s s1→Q v s1):W (As envS (runF envS n) 75 [.slice none 0 0, .int .i64 (N:Nat)]) s Q:=by
 refine Sr fun tm h0 h1=> ?_
 refine V9.w rfl (by omega) ?_
 simp -implicitDefEqProofs only[Nt,Aa,W_mv,Ab]
 refine QB.w Pr (by omega) ?_
 simp -implicitDefEqProofs only[Ms,Ad,W_oS,Aa,W_mv,Ab,T.get_set,reduceIte,Nat.reduceEqDiff, ↓reduceIte,BN,h1]
 refine W.cond (v:=false) Q0 OQ (by simp[T.get_set]) (by omega) (fun h=>by cases h) fun _=> ?_
 refine Qc.w Uk (by omega) ?_
 simp -implicitDefEqProofs only[Mw,Ad,W_oS,Aa,W_mv,Ab,T.get_set,Ak,Aj,Ai,reduceIte,Nat.reduceEqDiff,reduceCtorEq, ↓reduceIte,Jo,h0,h1,LV CM,B8 CM]
 refine T2.w Um (by omega) ?_
 have e1:wrap64 ((N:Int)-wrap64 (((0:Nat):Int)-((0:Nat):Int)))=(N:Nat):=by
  rw[Cb (n:=((0:Nat):Int)-((0:Nat):Int)) (by simp) (by simp),Cb]<;>simp<;>omega
 simp -implicitDefEqProofs only[MC,Ad,W_oS,Aa,W_mv,Ab,T.get_set,reduceIte, ↓reduceIte,CU,e1]
 refine W.cond (v:=true) Q3 Rn (by simp[T.get_set,hN]) (by omega) (fun _=> ?_) fun h=>by cases h
 refine ZL.w WV (by omega) ?_
 simp -implicitDefEqProofs only[Py,Ad,W_oS,W_on,Aa,W_mv,Ab,T.get_set,Ak,Aj,Ai,reduceIte,Nat.reduceEqDiff,reduceCtorEq, ↓reduceIte,h0,LV CM,Su (lo:=none) (hi:=some (.int .i64 ((0:Nat):Int))) CM rfl rfl,N4]
 refine W.appNil (s:=s.cxN cxN) hbd (n:=N) (l:=rep N [.int .u8 0]) MF_ (LE_ (by omega)) hN (by decide) (by decide) (by omega) (by rw[Kh];simp) (by rw[Kh];simp[oneCell]) fun s2 v b hf x2=> ?_
 obtain⟨rfl,hnew,hown,hlen,htok,hlt⟩:=hf
 have hc:=MS (q:=(b+N*1)*1024+1) (Ho (n:=N) (by omega))
 simp -implicitDefEqProofs only[B8 CM,UK (l:=0) (h:=0) (lo:=none) (hi:=some (.int .i64 ((0:Nat):Int))) CM rfl rfl (Nat.le_refl _) (Nat.zero_le _) (Kv (m:=b+N*1) (Ho (n:=N) (by omega)) (by decide)),reduceIte, ↓reduceIte,hc,hN]
 refine P9.w Zh (by omega) ?_
 simp -implicitDefEqProofs only[Mk,Aa,W_mv,Ab,T.get_set,reduceIte, ↓reduceIte]
 refine W.end' (rs:=[4]) (vs:=[.slice (some ⟨b,0,none⟩) 0 (capU*((b+N*1)*1024+1)+N)]) PI (.inl PF) (by omega) Lj VN x2.cx (by simp[T.get_set]) ?_
 exact q _ _ b ⟨rfl,hnew,fun i v e=>(hown i v (by rw[Kh];exact e)).same rfl rfl⟩ ⟨x2.nxt,x2.lim,rfl,x2.mem,x2.rd,x2.wr⟩
def tot (l:List (Value×List Nat)):Nat:=(l.map fun p=>p.2.length).sum
theorem Fe_ {l:List (Value×List Nat)}{i:Nat}{p:Value×List Nat}(h:l[i]?=some p):tot (l.take (i+1))=tot (l.take i)+p.2.length:=by
 unfold tot
 rw[List.take_add_one,h]
 simp
theorem MZ {l:List (Value×List Nat)}(i:Nat):tot (l.take i)≤tot l:=by
 unfold tot
 have:(l.map fun p=>p.2.length).sum=((l.take i).map fun p=>p.2.length).sum+((l.drop i).map fun p=>p.2.length).sum:=by
  rw[←List.sum_append,←List.map_append,List.take_append_drop]
 omega
def CA (b o:Nat)(l:List (Value×List Nat)):Nat→Prop:=fun x=>In b o l.length x∨ ∃p∈l,BsF p.1 x
structure Parts (s:St)(b o:Nat)(l:List (Value×List Nat)):Prop where
 row:Row s b o (l.map (·.1))
 bs: ∀p∈l,Bs s p.1 p.2
theorem Parts.same {s s':St}{b o:Nat}{l:List (Value×List Nat)}(h:Parts s b o l)(hm:s'.mem=s.mem)(hn:s'.next=s.next):Parts s' b o l:=
 ⟨fun i v e=>(h.row i v e).same hm hn,fun p hp=>(h.bs p hp).same hm hn⟩
theorem Parts.ext0 {F:Nat→Prop}{s s':St}{b o:Nat}{l:List (Value×List Nat)}(h:Parts s b o l)(e:Ext F Non s s'):Parts s' b o l:=⟨h.row.ext0 e,fun p hp=>(h.bs p hp).ext0 e⟩
section
variable {b o c:Nat}{parts:List (Value×List Nat)}
theorem Parts.get {s:St}(h:Parts s b o parts){i:Nat}(hi:i<parts.length):At s b (o+i*1) parts[i].1∧Bs s parts[i].1 parts[i].2:=by
 refine⟨?_,h.bs _ (List.getElem_mem hi)⟩
 rw[Nat.mul_one]
 exact h.row i _ (by simp[hi])
theorem M4 {i:Nat}(hi:i<parts.length):tot (parts.take (i+1))=tot (parts.take i)+parts[i].2.length:=Fe_ (List.getElem?_eq_getElem hi)
theorem QW (ht:tot parts≤1000000)(hlen:parts.length≤4611686018427387904){F:Nat→Prop}(hF: ∀x,CA b o parts x→F x){Q:Value×FrameMode→St→Prop}{s0:St}(hb0:s0.lim≤s0.next)(hp:Parts s0 b o parts): ∀(k i n:Nat) (tm:T Value) (s:St) (td:List Item),i+k=parts.length→7*k+7≤n→skim 64 td=FC→Ext F Non s0 s→s.mem=s0.mem→s.next=s0.next→
  T.get tm 0=some (.slice (some ⟨b,o,none⟩) parts.length c)→T.get tm 9=some (.slice (some ⟨b,o,none⟩) parts.length c)→T.get tm 10=some (.int .i64 (parts.length:Nat))→T.get tm 11=some (.int .i64 (i:Nat))→T.get tm 3=some (.int .i64 (tot (parts.take i):Nat))→
  (∀n' tm' s1 td',n≤n'+7*k+2→skim 64 td'=Hm→Ext F Non s0 s1→s1.mem=s0.mem→s1.next=s0.next→T.get tm' 0=some (.slice (some ⟨b,o,none⟩) parts.length c)→T.get tm' 3=some (.int .i64 (tot parts:Nat))→W (runF envS n' ⟨47,Fx,BD,tm',td', .run, .normal,none⟩) s1 Q)→
  W (runF envS n ⟨47,Fx,BD,tm,td, .run, .normal,none⟩) s Q:=by
 intro k
 induction k with
 |zero=>
  intro i n tm s td hi hn hT hx hm hnx h0 h9 h10 h11 h3 q
  refine PZ.w hT (by omega) ?_
  simp -implicitDefEqProofs only[LJ,Ad,W_oS,Aa,Ab,BN,h10,h11]
  refine W.cond (v:=false) Ut VV (by simp[T.get_set];omega) (by omega) (fun h=>by cases h) fun _=> ?_
  have e:tot (parts.take i)=tot parts:=by rw[show i=parts.length by omega,List.take_length]
  rw[e]at h3
  exact q _ _ _ _ (by omega) BA_ hx hm hnx (by simp[T.get_set,h0]) (by simp[T.get_set,h3])
 |succ k ih=>
  intro i n tm s td hi hn hT hx hm hnx h0 h9 h10 h11 h3 q
  have hil:i<parts.length:=by omega
  obtain⟨g1,g2⟩:=hp.get hil
  have hlt:=M4 hil
  have htl:=MZ (l:=parts) (i+1)
  refine PZ.w hT (by omega) ?_
  simp -implicitDefEqProofs only[LJ,Ad,W_oS,Aa,Ab,BN,h10,h11]
  refine W.cond (v:=true) Ut VV (by simp[T.get_set];omega) (by omega) (fun _=> ?_) fun h=>by cases h
  refine CX_.w BP_ (by omega) ?_
  simp -implicitDefEqProofs only[TY,Ad,W_oS,Aa,W_mv,Ab,T.get_set,reduceIte,Nat.reduceEqDiff, ↓reduceIte,h9,h11,CL B7 hil]
  refine W.load1 Nb (g1.same hm hnx) ?_
  refine WP.w Hz_ (by omega) ?_
  have ew:wrap64 ((tot (parts.take i):Nat)+(parts[i].2.length:Nat):Int)=(tot (parts.take (i+1)):Nat):=by
   rw[Cb (by omega) (by omega),hlt];simp
  have ei:wrap64 ((i:Nat)+1:Int)=((i+1:Nat):Int):=by
   have:parts.length≤4611686018427387904:=hlen
   rw[Cb (by omega) (by omega)];simp
  have hx1:Ext F Non s0 (s.rdN (b+(o+i*1))):=hx.trans (Ext.rdN (F:=F) s _ fun _=>hF _ (.inl ⟨by omega,by omega⟩)) hb0 (fun _ _ h=>h) fun _ _ h=>h
  simp -implicitDefEqProofs only[UL,Ad,W_oS,Aa,W_mv,Ab,T.get_set,Ak,Aj,Ai,reduceIte,Nat.reduceEqDiff, ↓reduceIte,CP,h3,Bs.len (s:=s.rdN (b+(o+i*1))) (g2.same hm hnx) CM,ew]
  refine Ea_.w GT_ (by omega) ?_
  simp -implicitDefEqProofs only[Q5,Ad,W_oS,Aa,W_mv,Ab,T.get_set,reduceIte, ↓reduceIte,BN]
  refine W.cond (v:=false) ES_ W4 (by simp[T.get_set]) (by omega) (fun h=>by cases h) fun _=> ?_
  refine JB_.w Ke_ (by omega) ?_
  simp -implicitDefEqProofs only[VK,Ad,W_oS,Aa,W_mv,Ab,T.get_set,reduceIte,Nat.reduceEqDiff, ↓reduceIte,CP,h11,ei]
  exact ih (i+1) _ _ _ _ (by omega) (by omega) DJ_ hx1 hm hnx (by simp[T.get_set,h0]) (by simp[T.get_set,h9]) (by simp[T.get_set,h10]) (by simp[T.get_set]) (by simp[T.get_set]) fun n' tm' s1 td' e=>q n' tm' s1 td' (by omega)
end
section
variable {b o c:Nat}{parts:List (Value×List Nat)}
def fl (l:List (Value×List Nat)):List Nat:=(l.map (·.2)).flatten
theorem F3 (l:List (Value×List Nat)):(fl l).length=tot l:=by
 unfold fl tot
 rw[List.length_flatten,List.map_map]
 rfl
theorem Jr_ {l:List (Value×List Nat)}{i:Nat}(h:i<l.length):fl (l.take (i+1))=fl (l.take i)++l[i].2:=by
 unfold fl
 rw[List.take_add_one,List.getElem?_eq_getElem h,List.map_append,List.flatten_append]
 simp
theorem IX_ (ht:tot parts≤1000000)(hlen:parts.length≤4611686018427387904){F:Nat→Prop}(hF: ∀x,CA b o parts x→F x){Q:Value×FrameMode→St→Prop}{s0:St}(hb0:s0.lim≤s0.next)(hp:Parts s0 b o parts){nb cc:Nat}(hnb:s0.next≤nb)(hcc:cc%capU=tot parts): ∀(k i n:Nat) (tm:T Value) (s:St) (td:List Item),i+k=parts.length→6*k+6≤n→skim 64 td=D5→Ext F Non s0 s→Es s nb 0 (tot parts)→A7 s nb 0 (u8l (fl (parts.take i)))→
  T.get tm 25=some (.slice (some ⟨b,o,none⟩) parts.length c)→T.get tm 26=some (.int .i64 (parts.length:Nat))→T.get tm 27=some (.int .i64 (i:Nat))→T.get tm 6=some (.slice (some ⟨nb,0,none⟩) (tot (parts.take i)) cc)→
  (∀n' tm' s1 td',n≤n'+6*k+2→skim 64 td'=Fh→Ext F Non s0 s1→A7 s1 nb 0 (u8l (fl parts))→T.get tm' 6=some (.slice (some ⟨nb,0,none⟩) (tot parts) cc)→W (runF envS n' ⟨47,Fx,BD,tm',td', .run, .normal,none⟩) s1 Q)→
  W (runF envS n ⟨47,Fx,BD,tm,td, .run, .normal,none⟩) s Q:=by
 intro k
 induction k with
 |zero=>
  intro i n tm s td hi hn hT hx hown hrow h25 h26 h27 h6 q
  refine Jj.w hT (by omega) ?_
  simp -implicitDefEqProofs only[GR,Ad,W_oS,Aa,Ab,BN,h26,h27]
  refine W.cond (v:=false) Hz KK (by simp[T.get_set];omega) (by omega) (fun h=>by cases h) fun _=> ?_
  have e:parts.take i=parts:=by rw[show i=parts.length by omega,List.take_length]
  rw[e]at h6 hrow
  exact q _ _ _ _ (by omega) RL hx hrow (by simp[T.get_set,h6])
 |succ k ih=>
  intro i n tm s td hi hn hT hx hown hrow h25 h26 h27 h6 q
  have hil:i<parts.length:=by omega
  obtain⟨g1,g2⟩:=(hp.ext0 hx).get hil
  have hlt:=M4 hil
  have htl:=MZ (l:=parts) (i+1)
  refine Jj.w hT (by omega) ?_
  simp -implicitDefEqProofs only[GR,Ad,W_oS,Aa,Ab,BN,h26,h27]
  refine W.cond (v:=true) Hz KK (by simp[T.get_set];omega) (by omega) (fun _=> ?_) fun h=>by cases h
  refine Uc.w QI (by omega) ?_
  simp -implicitDefEqProofs only[NO,Ad,W_oS,Aa,W_mv,Ab,T.get_set,reduceIte,Nat.reduceEqDiff, ↓reduceIte,h25,h27,CL B7 hil]
  refine W.load1 Nb g1 ?_
  have hx1:Ext F Non s0 (s.rdN (b+(o+i*1))):=hx.trans (Ext.rdN (F:=F) s _ fun _=>hF _ (.inl ⟨by omega,by omega⟩)) hb0 (fun _ _ h=>h) fun _ _ h=>h
  refine Qb.w Sy (by omega) ?_
  simp -implicitDefEqProofs only[K7,Ad,W_oS,Aa,W_mv,Ab,T.get_set,Ak,Aj,Ai,reduceIte,Nat.reduceEqDiff, ↓reduceIte,h6,N4]
  refine W.appIn (s:=s.rdN (b+(o+i*1))) VO (g2.same (s':=s.rdN (b+(o+i*1))) rfl rfl).src.g (by rw[hcc];omega) (by rw[Df,Nat.mul_one]) (NP _) (fun j hj=> ?_) fun s2 n2 x2 r2=> ?_
  ·obtain⟨u,hu⟩:=hown (tot (parts.take i)+j) (by omega)
   exact⟨u,by rw[show 0+tot (parts.take i)*1+j=0+(tot (parts.take i)+j) by omega];exact hu⟩
  have ei:wrap64 ((i:Nat)+1:Int)=((i+1:Nat):Int):=by
   rw[Cb (by omega) (by omega)];simp
  have hx2:Ext F Non s0 s2:=hx1.step x2 hb0 (fun l hl h=>by
   rcases h with h|h
   ·exact hF _ (.inr ⟨_,List.getElem_mem hil,h⟩)
   ·exact absurd h.1 (by omega)) fun l h=>by have:=h.1;omega
  have el:parts[i].2.length*1=(u8l parts[i].2).length:=by rw[Df,Nat.mul_one]
  rw[el]at x2
  have hown2:Es s2 nb 0 (tot parts):=Es.ext (s:=s.rdN (b+(o+i*1))) (fun j hj=>let ⟨u,hu⟩:=hown j hj;⟨u,hu.same rfl rfl⟩) x2 r2
  have hrow2:A7 s2 nb 0 (u8l (fl (parts.take (i+1)))):=by
   rw[Jr_ hil]
   unfold u8l
   rw[List.map_append]
   refine A7.append (A7.ext (s:=s.rdN (b+(o+i*1))) (fun j v e=>(hrow j v e).same rfl rfl) x2 fun j hj=> ?_) ?_
   ·rw[Df,F3]at hj
    intro h
    have:=h.1
    omega
   ·rw[Df,F3]
    rw[Nat.mul_one]at r2
    exact r2
  refine VL.w Sv (by omega) ?_
  simp -implicitDefEqProofs only[M0,Ad,W_oS,Aa,W_mv,Ab,T.get_set,reduceIte,Nat.reduceEqDiff, ↓reduceIte,CP,h27,ei]
  exact ih (i+1) _ _ _ _ (by omega) (by omega) QS hx2 hown2 hrow2 (by simp[T.get_set,h25]) (by simp[T.get_set,h26]) (by simp[T.get_set]) (by simp[T.get_set,hlt]) fun n' tm' s1 td' e=>q n' tm' s1 td' (by omega)
end
structure New (s s':St)(v:Value)(l:List Nat):Prop where
 bn:Bn s' v l
 new: ∀x,BsF v x→s.next≤x
theorem Bn.same {s s':St}{v:Value}{l:List Nat}(h:Bn s v l)(hm:s'.mem=s.mem)(hn:s'.next=s.next):Bn s' v l:=by
 obtain⟨b,o,c,h0,h1,h2,h3⟩:=h
 exact⟨b,o,c,h0,h1,h2,fun i v e=>(h3 i v e).same hm hn⟩
theorem Cd_ {n:Nat}{s:St}{b o c:Nat}{parts:List (Value×List Nat)}{Q:Value→St→Prop}(hbd:s.lim≤s.next)(hp:Parts s b o parts)(h0:0<tot parts)(ht:tot parts≤1000000)(hlen:parts.length≤4611686018427387904)(hn:13*parts.length+60≤n)
  (q: ∀s1 v,Ext (CA b o parts) Non s s1→New s s1 v (fl parts)→Q v s1):W (As envS (runF envS n) 47 [.slice (some ⟨b,o,none⟩) parts.length c]) s Q:=by
 refine TB fun tm hk0=> ?_
 have hpc:Parts (s.cxN cxN) b o parts:=hp.same rfl rfl
 refine P8.w rfl (by omega) ?_
 simp -implicitDefEqProofs only[LF,Aa,W_mv,Ab]
 refine QL.w QQ (by omega) ?_
 simp -implicitDefEqProofs only[Oh,Aa,W_mv,Ab]
 refine VB.w Q2 (by omega) ?_
 simp -implicitDefEqProofs only[Oe,Ad,W_oS,Aa,W_mv,Ab,T.get_set,Ak,Aj,Ai,reduceIte,reduceCtorEq, ↓reduceIte,hk0,B8 B7]
 refine QW (c:=c) ht hlen (F:=CA b o parts) (fun _ h=>h) (s0:=s.cxN cxN) hbd hpc parts.length 0 _ _ _ _ (by omega) (by omega) UO (Ext.refl _) rfl rfl (by simp[T.get_set,hk0]) (by simp[T.get_set]) (by simp[T.get_set]) (by simp[T.get_set]) (by simp[T.get_set,tot]) fun n1 tm1 s1 td1 hn1 hT1 hx1 hm1 hnx1 g0 g3=> ?_
 refine TW.w hT1 (by omega) ?_
 simp -implicitDefEqProofs only[N5,Ad,W_on,Aa,W_mv,Ab,Ak,Aj,Ai,Av,g3]
 have hb1:s1.lim≤s1.next:=hx1.bnd hbd
 refine WF hb1 (by omega) h0 ht fun s2 v nb hr x2=> ?_
 obtain⟨rfl,hnew,hown⟩:=hr
 have hx2:Ext (CA b o parts) Non (s.cxN cxN) s2:=hx1.step x2 hbd (fun _ _ h=>h.elim) fun _ h=>h.elim
 have hnb:s.next≤nb:=by
  have:s1.next=s.next:=hnx1
  omega
 have hcc:=MS (q:=(nb+tot parts*1)*1024+1) (Ho (n:=tot parts) (by omega))
 have hok:=Kv (m:=nb+tot parts*1) (sz:=1) (Ho (n:=tot parts) (by omega)) (by decide)
 generalize hC:capU*((nb+tot parts*1)*1024+1)+tot parts=C at *
 refine SH.w Pl (by omega) ?_
 simp -implicitDefEqProofs only[KZ,Ad,W_oS,Aa,W_mv,Ab,T.get_set,Ak,Aj,Ai,reduceIte,reduceCtorEq, ↓reduceIte,g0,B8 B7]
 refine IX_ (c:=c) ht hlen (F:=CA b o parts) (fun _ h=>h) (s0:=s.cxN cxN) hbd hpc (nb:=nb) (cc:=C) hnb hcc parts.length 0 _ _ _ _ (by omega) (by omega) Pa hx2 (by have:=hown.owned;rwa [List.length_replicate]at this) (fun i v e=>by simp[fl]at e) (by simp[T.get_set]) (by simp[T.get_set]) (by simp[T.get_set]) (by simp[T.get_set,tot]) fun n3 tm3 s3 td3 hn3 hT3 hx3 hrow g6=> ?_
 refine VE.w hT3 (by omega) ?_
 simp -implicitDefEqProofs only[On,Aa,W_mv,Ab,g6]
 refine W.end' (rs:=[2]) (vs:=[.slice (some ⟨nb,0,none⟩) (tot parts) C]) O1 (.inl R9) (by omega) L8 S1 hx3.cx (by simp[T.get_set]) ?_
 refine q _ _ hx3.cx' ⟨⟨nb,0,C,by rw[F3];rfl,by rw[F3,hcc];exact Nat.le_refl _,hok,hrow.row⟩,fun x hx=> ?_⟩
 have:nb+0≤x:=hx.1
 omega
theorem Du_ {n:Nat}{s:St}{Q:Value→St→Prop}(hbd:s.lim≤s.next)(hn:20≤n)(q: ∀s1,s1.mem=s.mem→s1.next=s.next→Ext Non Non s s1→Q (.slice none 0 0) s1):W (As envS (runF envS n) 75 [.slice none 0 0, .int .i64 ((0:Nat):Int)]) s Q:=by
 refine Sr fun tm h0 h1=> ?_
 refine V9.w rfl (by omega) ?_
 simp -implicitDefEqProofs only[Nt,Aa,W_mv,Ab]
 refine QB.w Pr (by omega) ?_
 simp -implicitDefEqProofs only[Ms,Ad,W_oS,Aa,W_mv,Ab,T.get_set,reduceIte,Nat.reduceEqDiff, ↓reduceIte,BN,h1]
 refine W.cond (v:=false) Q0 OQ (by simp[T.get_set]) (by omega) (fun h=>by cases h) fun _=> ?_
 refine Qc.w Uk (by omega) ?_
 simp -implicitDefEqProofs only[Mw,Ad,W_oS,Aa,W_mv,Ab,T.get_set,Ak,Aj,Ai,reduceIte,Nat.reduceEqDiff,reduceCtorEq, ↓reduceIte,Jo,h0,h1,LV CM,B8 CM]
 refine T2.w Um (by omega) ?_
 have e1:wrap64 (((0:Nat):Int)-wrap64 (((0:Nat):Int)-((0:Nat):Int)))=((0:Nat):Int):=by decide
 simp -implicitDefEqProofs only[MC,Ad,W_oS,Aa,W_mv,Ab,T.get_set,reduceIte, ↓reduceIte,CU,e1]
 refine W.cond (v:=false) Q3 Rn (by simp[T.get_set]) (by omega) (fun h=>by cases h) fun _=> ?_
 refine P9.w Bo_ (by omega) ?_
 simp -implicitDefEqProofs only[Mk,Aa,W_mv,Ab,T.get_set,reduceIte,reduceCtorEq, ↓reduceIte,h0]
 refine W.end' (rs:=[4]) (vs:=[.slice none 0 0]) PI (.inl PF) (by omega) Lj VN rfl (by simp[T.get_set]) ?_
 exact q _ rfl rfl (Ext.refl _)
section
variable {b o c:Nat}{parts:List (Value×List Nat)}
theorem Zj (ht:tot parts=0)(hlen:parts.length≤4611686018427387904){F:Nat→Prop}(hF: ∀x,CA b o parts x→F x){Q:Value×FrameMode→St→Prop}{s0:St}(hb0:s0.lim≤s0.next)(hp:Parts s0 b o parts): ∀(k i n:Nat) (tm:T Value) (s:St) (td:List Item),i+k=parts.length→6*k+6≤n→skim 64 td=D5→Ext F Non s0 s→
  T.get tm 25=some (.slice (some ⟨b,o,none⟩) parts.length c)→T.get tm 26=some (.int .i64 (parts.length:Nat))→T.get tm 27=some (.int .i64 (i:Nat))→T.get tm 6=some (.slice none 0 0)→
  (∀n' tm' s1 td',n≤n'+6*k+2→skim 64 td'=Fh→Ext F Non s0 s1→T.get tm' 6=some (.slice none 0 0)→W (runF envS n' ⟨47,Fx,BD,tm',td', .run, .normal,none⟩) s1 Q)→
  W (runF envS n ⟨47,Fx,BD,tm,td, .run, .normal,none⟩) s Q:=by
 intro k
 induction k with
 |zero=>
  intro i n tm s td hi hn hT hx h25 h26 h27 h6 q
  refine Jj.w hT (by omega) ?_
  simp -implicitDefEqProofs only[GR,Ad,W_oS,Aa,Ab,BN,h26,h27]
  refine W.cond (v:=false) Hz KK (by simp[T.get_set];omega) (by omega) (fun h=>by cases h) fun _=> ?_
  exact q _ _ _ _ (by omega) RL hx (by simp[T.get_set,h6])
 |succ k ih=>
  intro i n tm s td hi hn hT hx h25 h26 h27 h6 q
  have hil:i<parts.length:=by omega
  obtain⟨g1,g2⟩:=(hp.ext0 hx).get hil
  have hlt:=M4 hil
  have htl:=MZ (l:=parts) (i+1)
  have hl0:parts[i].2.length=0:=by omega
  refine Jj.w hT (by omega) ?_
  simp -implicitDefEqProofs only[GR,Ad,W_oS,Aa,Ab,BN,h26,h27]
  refine W.cond (v:=true) Hz KK (by simp[T.get_set];omega) (by omega) (fun _=> ?_) fun h=>by cases h
  refine Uc.w QI (by omega) ?_
  simp -implicitDefEqProofs only[NO,Ad,W_oS,Aa,W_mv,Ab,T.get_set,reduceIte,Nat.reduceEqDiff, ↓reduceIte,h25,h27,CL B7 hil]
  refine W.load1 Nb g1 ?_
  have hx1:Ext F Non s0 (s.rdN (b+(o+i*1))):=hx.trans (Ext.rdN (F:=F) s _ fun _=>hF _ (.inl ⟨by omega,by omega⟩)) hb0 (fun _ _ h=>h) fun _ _ h=>h
  refine Qb.w Sy (by omega) ?_
  simp -implicitDefEqProofs only[K7,Ad,W_oS,Aa,W_mv,Ab,T.get_set,Ak,Aj,Ai,reduceIte,Nat.reduceEqDiff, ↓reduceIte,h6,N4]
  refine W.appV (s:=s.rdN (b+(o+i*1))) (hx1.bnd hb0) VO (len:=0) (b:=0) (old:=[]) (.inl ⟨rfl,rfl,rfl⟩) (g2.same (s':=s.rdN (b+(o+i*1))) rfl rfl).src.g (by decide) (by decide) (by omega) (by rw[Df,Nat.mul_one]) (NP _) fun s2 v2 b2 hb2 mk2 x2=> ?_
  have hv2:v2= .slice none 0 0:=by
   rcases mk2 with h|h
   ·exact h.1
   ·have:=h.2
    omega
  subst hv2
  have ei:wrap64 ((i:Nat)+1:Int)=((i+1:Nat):Int):=by
   rw[Cb (by omega) (by omega)];simp
  have hx2:Ext F Non s0 s2:=hx1.step x2 hb0 (fun l hl h=>by
   rcases h with h|h
   ·exact hF _ (.inr ⟨_,List.getElem_mem hil,h⟩)
   ·exact absurd h.1 (by omega)) fun l h=>by have:=h.1;omega
  refine VL.w Sv (by omega) ?_
  simp -implicitDefEqProofs only[M0,Ad,W_oS,Aa,W_mv,Ab,T.get_set,reduceIte,Nat.reduceEqDiff, ↓reduceIte,CP,h27,ei]
  exact ih (i+1) _ _ _ _ (by omega) (by omega) QS hx2 (by simp[T.get_set,h25]) (by simp[T.get_set,h26]) (by simp[T.get_set]) (by simp[T.get_set]) fun n' tm' s1 td' e=>q n' tm' s1 td' (by omega)
end
theorem Bs.nil0 (s:St):Bs s (.slice none 0 0) []:= .inl ⟨rfl,rfl⟩
theorem X9 {n:Nat}{s:St}{b o c:Nat}{parts:List (Value×List Nat)}{Q:Value→St→Prop}(hbd:s.lim≤s.next)(hp:Parts s b o parts)(ht:tot parts≤1000000)(hlen:parts.length≤4611686018427387904)(hn:13*parts.length+60≤n)
  (q: ∀s1 v,Ext (CA b o parts) Non s s1→Bs s1 v (fl parts)→(∀x,BsF v x→s.next≤x)→Q v s1):W (As envS (runF envS n) 47 [.slice (some ⟨b,o,none⟩) parts.length c]) s Q:=by
 by_cases h0:tot parts=0
 ·refine TB fun tm hk0=> ?_
  have hpc:Parts (s.cxN cxN) b o parts:=hp.same rfl rfl
  refine P8.w rfl (by omega) ?_
  simp -implicitDefEqProofs only[LF,Aa,W_mv,Ab]
  refine QL.w QQ (by omega) ?_
  simp -implicitDefEqProofs only[Oh,Aa,W_mv,Ab]
  refine VB.w Q2 (by omega) ?_
  simp -implicitDefEqProofs only[Oe,Ad,W_oS,Aa,W_mv,Ab,T.get_set,Ak,Aj,Ai,reduceIte,reduceCtorEq, ↓reduceIte,hk0,B8 B7]
  refine QW (c:=c) ht hlen (F:=CA b o parts) (fun _ h=>h) (s0:=s.cxN cxN) hbd hpc parts.length 0 _ _ _ _ (by omega) (by omega) UO (Ext.refl _) rfl rfl (by simp[T.get_set,hk0]) (by simp[T.get_set]) (by simp[T.get_set]) (by simp[T.get_set]) (by simp[T.get_set,tot]) fun n1 tm1 s1 td1 hn1 hT1 hx1 hm1 hnx1 g0 g3=> ?_
  refine TW.w hT1 (by omega) ?_
  rw[h0]at g3
  simp -implicitDefEqProofs only[N5,Ad,W_on,Aa,W_mv,Ab,Ak,Aj,Ai,Av,g3]
  have hb1:s1.lim≤s1.next:=hx1.bnd hbd
  refine Du_ hb1 (by omega) fun s2 m2 nx2 x2=> ?_
  have hx2:Ext (CA b o parts) Non (s.cxN cxN) s2:=hx1.step x2 hbd (fun _ _ h=>h.elim) fun _ h=>h.elim
  refine SH.w Pl (by omega) ?_
  simp -implicitDefEqProofs only[KZ,Ad,W_oS,Aa,W_mv,Ab,T.get_set,Ak,Aj,Ai,reduceIte,reduceCtorEq, ↓reduceIte,g0,B8 B7]
  refine Zj (c:=c) h0 hlen (F:=CA b o parts) (fun _ h=>h) (s0:=s.cxN cxN) hbd hpc parts.length 0 _ _ _ _ (by omega) (by omega) Pa hx2 (by simp[T.get_set]) (by simp[T.get_set]) (by simp[T.get_set]) (by simp[T.get_set]) fun n3 tm3 s3 td3 hn3 hT3 hx3 g6=> ?_
  refine VE.w hT3 (by omega) ?_
  simp -implicitDefEqProofs only[On,Aa,W_mv,Ab,g6]
  refine W.end' (rs:=[2]) (vs:=[.slice none 0 0]) O1 (.inl R9) (by omega) L8 S1 hx3.cx (by simp[T.get_set]) ?_
  have e0:fl parts=[]:=List.eq_nil_of_length_eq_zero (by rw[F3];exact h0)
  refine q _ _ hx3.cx' ?_ fun x hx=>hx.elim
  rw[e0]
  exact Bs.nil0 _
 ·exact Cd_ hbd hp (by omega) ht hlen hn fun s1 v x1 h1=>q s1 v x1 h1.bn.bs h1.new
theorem Ce_:elT envS 22=some (1,24,[.slice none 0 0]):=by kernel_rfl
theorem GZ_ {va vb:Value}(ha: ∃p n c,va= .slice p n c)(hb: ∃p n c,vb= .slice p n c):CW (fun k=>some (k*1,1)) [(0,va),(1,vb)] (rep 2 [.slice none 0 0])=some [va,vb]:=by
 obtain⟨p,n,c,rfl⟩:=ha
 obtain⟨p',n',c',rfl⟩:=hb
 rfl
theorem KQ_ {n b c:Nat}{s:St}{va vb:Value}{la lb:List Nat}{Q:Value→St→Prop}(hbd:s.lim≤s.next)(ra:Row s b 0 [va,vb])(ba:Bs s va la)(bb:Bs s vb lb)(ht:la.length+lb.length≤1000000)(hn:100≤n)(q: ∀s1 v,Ext Any Non s s1→Bs s1 v (la++lb)→(∀x,BsF v x→s.next≤x)→Q v s1):W (As envS (runF envS n) 47 [.slice (some ⟨b,0,none⟩) 2 c]) s Q:=by
 have hp:Parts s b 0 [(va,la),(vb,lb)]:=⟨ra,fun p hp=>by
  simp only[List.mem_cons,List.not_mem_nil,or_false]at hp
  rcases hp with rfl|rfl
  ·exact ba
  ·exact bb⟩
 have ef:fl [(va,la),(vb,lb)]=la++lb:=by
  show la++(lb++[])=_
  rw[List.append_nil]
 have et:tot [(va,la),(vb,lb)]=la.length+lb.length:=by
  rw[←F3,ef,List.length_append]
 have el:[(va,la),(vb,lb)].length=2:=rfl
 generalize [(va,la),(vb,lb)]=ps at *
 have:=X9 (n:=n) (s:=s) (b:=b) (o:=0) (c:=c) (parts:=ps) (Q:=Q) hbd hp (by omega) (by omega) (by omega) fun s1 v x1 h1 h2=>q s1 v (x1.weak hbd (fun _ _ _=>trivial) fun _ _ h=>h) (by rw[←ef];exact h1) h2
 rwa [el]at this
section
variable {n D M:Nat}{s:St}{k:DkS}{col:Nat→Nat}{a:ByteArray}{Q:Value→St→Prop}
theorem HX_ (hb:s.lim≤s.next)(hI:DkI s col D M k)(hlen:k.fs.length≤300)(hz:k.used≤1000000)(hn:400≤n)
  (q1:k.out=true→ ∀s1,Ext Any Non s s1→Q (.tuple #[.slice none 0 0, .int .i64 10]) s1)
  (q2:k.out=false→BL k.fs a=none→ ∀s1,Ext Any Non s s1→Q (.tuple #[.slice none 0 0, .int .i64 6]) s1)
  (q3:k.out=false→ ∀j,BL k.fs a=some j→ ∀hj:j<k.fs.length,∀s1 v,Ext Any Non s s1→Bs s1 v k.fs[j].all→(∀x,BsF v x→s.next≤x)→Q (.tuple #[v, .int .i64 0]) s1):
  W (As envS (runF envS n) 12 [.pointer (some ⟨D,0,none⟩), .string a]) s Q:=by
 have hb0:(s.cxN cxN).lim≤(s.cxN cxN).next:=hb
 have hI0:DkI (s.cxN cxN) col D M k:=hI.same rfl rfl
 refine Mf_ fun tm t0 t1=> ?_
 refine Z7.w rfl (by omega) ?_
 simp only[UF,Aa,W_mv,Ab]
 refine YB.w DF_ (by omega) ?_
 simp only[T0,Ad,W_on,Aa,W_mv,Ab,T.get_set,Ak,Aj,Ai,Av,reduceIte,reduceCtorEq, ↓reduceIte,t0]
 refine OE (o:=k.out) hb0 (hI0.d0.same rfl rfl) (hI0.d6.same rfl rfl) (by omega) fun s1 m1 n1 x1=> ?_
 have y1:=x1
 have n1':s1.next=s.next:=n1
 have hI1:DkI s1 col D M k:=hI0.same m1 n1
 try simp only[Ad,W_oS,W_on,Aa,W_mv,Ab,AV,T.get_set,Ak,Aj,A0,AZ,Ai,Av,reduceIte,AP,AW,A2,AY,AT,AQ,AS,AX,AO,AN,Nat.reduceEqDiff,reduceCtorEq, ↓reduceIte]
 refine HD_.w YM (by omega) ?_
 cases ho:k.out with
 |true=>
  simp only[Mv,Ad,W_oS,Aa,W_mv,Ab,T.get_set,reduceIte, ↓reduceIte,Cd]
  refine W.cond (v:=true) R4 Q1 (by simp[T.get_set]) (by omega) (fun _=> ?_) fun h=>by cases h
  refine ME_.w WM (by omega) ?_
  simp only[Vp,Aa,W_mv,Ab,T.get_set,reduceIte,Nat.reduceEqDiff, ↓reduceIte]
  refine W.end' (rs:=[4,5]) (vs:=[.slice none 0 0, .int .i64 10]) WA (.inl WO) (by omega) H2 N3 y1.cx (by simp[T.get_set]) ?_
  exact q1 ho _ y1.cx'
 |false=>
  simp only[Mv,Ad,W_oS,Aa,W_mv,Ab,T.get_set,reduceIte,reduceCtorEq, ↓reduceIte,Cd]
  refine W.cond (v:=false) R4 Q1 (by simp[T.get_set]) (by omega) (fun h=>by cases h) fun _=> ?_
  refine Y1.w FF_ (by omega) ?_
  simp only[PM,Ad,W_oS,Aa,W_mv,Ab,T.get_set,reduceIte,AN,Nat.reduceEqDiff,reduceCtorEq, ↓reduceIte,t0,t1,Bz Et (by decide)]
  refine W.load1 EK hI1.d1.at' ?_
  try simp only[Ad,W_oS,W_on,Aa,W_mv,Ab,AV,T.get_set,Ak,Aj,A0,AZ,Ai,Av,reduceIte,AP,AW,A2,AY,AT,AQ,AS,AX,AO,AN,Nat.reduceEqDiff,reduceCtorEq, ↓reduceIte]
  refine Oc (fs:=k.fs) (mx:=k.mx) (hI1.om.same rfl rfl) ?_
  try simp only[Ad,W_oS,W_on,Aa,W_mv,Ab,AV,T.get_set,Ak,Aj,A0,AZ,Ai,Av,reduceIte,AP,AW,A2,AY,AT,AQ,AS,AX,AO,AN,Nat.reduceEqDiff,reduceCtorEq, ↓reduceIte]
  have y2:=(y1.thenRd hb0 (D+(0+1))).thenRd hb0 M
  have hI2:DkI ((s1.rdN (D+(0+1))).rdN M) col D M k:=hI1.same rfl rfl
  have n2:((s1.rdN (D+(0+1))).rdN M).next=s.next:=n1'
  generalize (s1.rdN (D+(0+1))).rdN M=s2 at *
  refine JU_.w Lb_ (by omega) ?_
  cases hj:BL k.fs a with
  |none=>
   have hv:BG k.fs a= .pointer none:=by unfold BG;rw[hj]
   rw[hv]
   simp only[Nn,Ad,W_oS,Aa,W_mv,Ab,T.get_set,reduceIte, ↓reduceIte,Nl]
   refine W.cond (v:=true) RW Rz (by simp[T.get_set]) (by omega) (fun _=> ?_) fun h=>by cases h
   refine EH_.w IS_ (by omega) ?_
   simp only[R7,Aa,W_mv,Ab]
   refine W.end' (rs:=[4,5]) (vs:=[.slice none 0 0, .int .i64 6]) Lu_ (.inl Zk) (by omega) H2 N3 y2.cx (by simp[T.get_set]) ?_
   exact q2 ho hj _ y2.cx'
  |some j=>
   have hlt:=JR hj
   have hv:BG k.fs a= .pointer (some ⟨k.fs[j].blk,0,none⟩):=by
    unfold BG
    rw[hj]
    simp only[List.getElem?_eq_getElem hlt]
   rw[hv]
   simp only[Nn,Ad,W_oS,Aa,W_mv,Ab,T.get_set,reduceIte, ↓reduceIte,Fp JX]
   refine W.cond (v:=false) RW Rz (by simp[T.get_set]) (by omega) (fun h=>by cases h) fun _=> ?_
   have g:=hI2.fl j hlt
   have hused:=DkS.used_at hlt
   refine HV_.w Zm (by omega) ?_
   simp only[Ua,T.get_set,Nat.reduceEqDiff,reduceIte,Ba,FO,Ak,Aj,A0,AZ,Ai,KS,GT]
   rw[W_dq fun s Q=>AN (s:=s) _ Q]
   dsimp only
   try simp only[Ba]
   rw[W_dq fun s Q=>Bz (s:=s) Lq_ (by decide) Q]
   dsimp only
   try simp only[Ba]
   refine W.dload Cx ((g.o0.same (s':=dSt s2.mem s2.next) rfl rfl).at') fun rd3 hr3=> ?_
   try simp only[GT]
   rw[W_dq fun s Q=>AN (s:=s) _ Q]
   dsimp only
   try simp only[Ba]
   rw[W_dq fun s Q=>Bz (s:=s) Nj (by decide) Q]
   dsimp only
   try simp only[Ba]
   refine W.dload Cx ((g.o1.same (s':=dSt s2.mem s2.next) rfl rfl).at') fun rd7 hr7=> ?_
   try simp only[Ba]
   refine W.dop (W.buildS (s:=oSt s2.mem s2.next) (Nat.le_refl _) (r:=[k.fs[j].sv,k.fs[j].lv]) Ce_ (by decide) (GZ_ (g.ms.sl.imp fun p h=>⟨_,h⟩) (g.ml.sl.imp fun p h=>⟨_,h⟩)) (Ho (by decide)) fun sa na xa ra=>⟨Non,xa,fun rd8 hr8=> ?_⟩)
   obtain rfl:=V4 fun x hx=>(hr8 x hx).2
   try simp only[Ba]
   have bs:Bs s2 k.fs[j].sv k.fs[j].sb:=g.ms.bs (Nat.lt_of_le_of_lt (show _≤1000000 by omega) (by decide))
   have bl:Bs s2 k.fs[j].lv k.fs[j].lb:=g.ml.bs (Nat.lt_of_le_of_lt (show _≤1000000 by omega) (by decide))
   refine W.dop (KQ_ (s:=oSt sa.mem sa.next) (Nat.le_refl _) (fun i v e=>((ra i v e).same rfl rfl).at') (((bs.same (s':=oSt s2.mem s2.next) rfl rfl).ext0 xa).same rfl rfl) (((bl.same (s':=oSt s2.mem s2.next) rfl rfl).ext0 xa).same rfl rfl) (by omega) (by omega) fun sb v xb hbs hnw=>⟨_,xb,fun rd9 hr9=> ?_⟩)
   refine Eq.mpr (GT v _ _ _ _) ?_
   dsimp only
   try simp only[AV]
   have na':sa.next=s2.next+3:=na
   have nb':sa.next≤sb.next:=xb.nxt
   rw[Aa]
   refine⟨HA ?_, ?_⟩
   ·simp only[List.reverse_cons,List.reverse_nil,List.nil_append,List.cons_append,allP,DA,List.take,GJ]
    have lts: ∀x,s2.next≤x→ ¬x<s2.next:=fun x h=>by omega
    simp+contextual [lts]
    exact .inl rfl
   ·refine W.cast (CZ_ _ _ _ _ _ _ _ _ _ _ _ _ _ _ _ _) ?_
    simp only[Ad,W_oS,Aa,AV]
    generalize hs':(⟨(dSt sb.mem sb.next).mem,(dSt sb.mem sb.next).next,s2.lim,_,_,s2.cx⟩:St)=s7
    have x7:Ext Any Non s2 s7:=by
     rw[←hs']
     exact Ext.draw (F:=Any) (by show s2.next≤sb.next;omega) (fun x hx=>(xb.mem x (by show x<sa.next;omega) id).trans (xa.mem x hx id)) (by simp) fun _ _ _ _ _=>trivial
    have m7:s7.mem=sb.mem:=by rw[←hs'];rfl
    have n7:s7.next=sb.next:=by rw[←hs'];rfl
    have y7:=y2.on x7 hb0 fun _ _ h=>h
    refine W.end' (rs:=[4,5]) (vs:=[v, .int .i64 0]) CO_ (.inl LU_) (by omega) H2 N3 y7.cx (by simp[T.get_set]) ?_
    refine q3 ho j hj hlt _ v y7.cx' (hbs.same m7 n7) fun x hx=> ?_
    have h1:=hnw x hx
    have h2:sa.next≤x:=h1
    omega
end
end Go.Proofs.Ytjfhmacppabehaa.Am
