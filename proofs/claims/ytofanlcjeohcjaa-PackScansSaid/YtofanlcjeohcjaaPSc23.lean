import Derived.Test.YtofanlcjeohcjaaPSc22
import Derived.Test.YtofanlcjeohcjaaPSc19
import Derived.Test.YtofanlcjeohcjaaPSc18
import Derived.Test.YtofanlcjeohcjaaPSc08
namespace Go.Proofs.Ytofanlcjeohcjaa.Am
open Go.RowKit
theorem Pb_ {n:Nat}{a z:Int}{id:List Nat}{v:Value}{l:List Nat}{s:St}(hbd:s.lim≤s.next)(hbs:Bs s v l)(hby:Byt l)(hz:l.length≤90000)(h16:id.length=16)(hn:210000≤n):
  W (Ai envS (runF envS n) 28 [v, .agg (Bj id a z).toArray]) s fun u s1=> ∃x,u= .tuple #[x, .int .i64 (getR l id a z).2]∧Ext Any Non s s1∧Bs s1 x (getR l id a z).1:=by
 refine Wg_ fun tm h0 h1=> ?_
 have hb0:(s.cxN cxN).lim≤(s.cxN cxN).next:=hbd
 have hB0:Bs (s.cxN cxN) v l:=hbs.same rfl rfl
 refine OX_.w rfl (by omega) ?_
 simp only[XZ,Ad,W_oS,Aa,W_mv,Ac,h1]
 refine W.box fun sa na xa oa=> ?_
 have hcel:cellsOf (.agg (Bj id a z).toArray)=Bj id a z:=rfl
 have hl18:(Bj id a z).length=18:=GG h16
 rw[hcel]at na oa
 have na':sa.next=s.next+19:=by rw[na,hl18];rfl
 have oa':Ae sa s.next 0 (Bj id a z):=oa
 try simp only[Ad,W_oS,W_on,Aa,W_mv,Ac,AJ,T.get_set,Ah,Ag,A8,A2,Af,Ar,reduceIte,Ax,Bp,Ba,Bv,A5,A9,Bb,Bo,AA,Bg,Nat.reduceEqDiff,reduceCtorEq, ↓reduceIte]
 have ya:Ext Any Non (s.cxN cxN) sa:=(Ext.refl _).then0 xa hb0
 refine Pg_.w rfl (by omega) ?_
 simp only[Vm,Ad,W_oS,W_on,Aa,W_mv,Ac,T.get_set,Ah,Ag,Af,Ar,reduceIte,Nat.reduceEqDiff,reduceCtorEq, ↓reduceIte,h0]
 rw[show(s.cxN cxN).next=s.next from rfl,BW E6 (by decide)]
 have o16:Own sa s.next (0+16) (.int .i64 a):=oa' 16 _ (Ej h16).1
 refine W.load1 B4 o16.at' ?_
 try simp only[Ad,W_oS,W_on,Aa,W_mv,Ac,AJ,T.get_set,Ah,Ag,A8,A2,Af,Ar,reduceIte,Ax,Bp,Ba,Bv,A5,A9,Bb,Bo,AA,Bg,Nat.reduceEqDiff,reduceCtorEq, ↓reduceIte]
 have yb:=ya.thenRd hb0 (s.next+(0+16))
 have ob:Ae (sa.rdN (s.next+(0+16))) s.next 0 (Bj id a z):=fun i v e=>(oa' i v e).same rfl rfl
 have nb:(sa.rdN (s.next+(0+16))).next=s.next+19:=na'
 generalize sa.rdN (s.next+(0+16))=sb at *
 have go: ∀(nn:Int) (sc:St),Ext Any Non sb sc→(okAt l a=true→nn=(A1 l a.toNat:Nat))→(okAt l a=false→nn=0)→
   W (kExt 0 (.tuple #[.int .i64 nn, .bool (okAt l a)])) sc fun v6 s2=>W (kExt 1 (.tuple #[.int .i64 nn, .bool (okAt l a)])) s2 fun v7 s3=>W (runF envS (n-1-1) ⟨28,G9,C2,T.set (T.set (T.set (T.set (T.set tm 3 (.pointer (some ⟨s.next,0,none⟩))) 4 (.slice none 0 0)) 5 (.int .i64 0)) 6 v6) 7 v7,Me.tail, .run, .normal,none⟩) s3 fun p s1=> ∃x,p.1= .tuple #[x, .int .i64 (getR l id a z).2]∧Ext Any Non s (s1.cxN s.cx)∧Bs (s1.cxN s.cx) x (getR l id a z).1:=by
  intro nn sc xc hn1 hn2
  rw[Bq (k:=0) rfl,Bq (k:=1) rfl]
  have yc:=yb.then0 xc hb0
  have oc:Ae sc s.next 0 (Bj id a z):=fun i v e=>(ob i v e).ext0 xc
  refine Tp_ (R:=s.next) (id:=id) (a:=a) (z:=z) (yc.bnd hb0) (hB0.ext0 yc) (by omega) h16 oc (by simp[T.get_set,h0]) (by simp[T.get_set]) (fun h=>by simp[T.get_set,hn1 h]) (fun h=>by simp[T.get_set,hn2 h]) (by simp[T.get_set]) rfl (by omega) fun n' sd tm' td' hn' hT' md nd xd hkeep h35=> ?_
  have yd:=yc.then0 xd hb0
  have od:Ae sd s.next 0 (Bj id a z):=fun i v e=>(oc i v e).same md nd
  have k0:T.get tm' 0=some v:=by rw[hkeep 0 (by decide)];simp[T.get_set,h0]
  have k3:T.get tm' 3=some (.pointer (some ⟨s.next,0,none⟩)):=by rw[hkeep 3 (by decide)];simp[T.get_set]
  have k6:T.get tm' 6=some (.int .i64 nn):=by rw[hkeep 6 (by decide)];simp[T.get_set]
  cases hm:isAt l a z with
  |false=>
   rw[hm]at h35
   have hR:getR l id a z=([],6):=by unfold getR;rw[hm];rfl
   refine W.cond (v:=true) hT' AI_ h35 (by omega) (fun _=> ?_) fun h=>by cases h
   refine Mv_.w rfl (by omega) ?_
   simp only[GI_,Aa,W_mv,Ac]
   refine W.end' (rs:=[4,5]) (vs:=[.slice none 0 0, .int .i64 6]) rfl (.inl NL_) (by omega) Kv MW yd.cx (by simp[T.get_set]) ?_
   rw[hR]
   exact⟨_,rfl,yd.cx', .inl ⟨rfl,rfl⟩⟩
  |true=>
   rw[hm]at h35
   obtain⟨k,m,rfl,rfl,hso,hsn,g1,g2,hlen⟩:=Yr hm
   have hok:okAt l ((k:Nat):Int)=true:=by
    unfold isAt at hm
    simp only[Bool.and_eq_true]at hm
    exact hm.1.1
   have e6:=hn1 hok
   rw[Int.toNat_natCast,hsn]at e6
   subst e6
   refine W.cond (v:=false) hT' AI_ h35 (by omega) (fun h=>by cases h) fun _=> ?_
   refine Kf_.w rfl (by omega) ?_
   have ek:wrap64 (((k:Nat):Int)+6)=((k+6:Nat):Int):=by
    rw[AP (by omega) (by omega)];omega
   simp only[Yz,Ad,W_oS,W_on,Aa,W_mv,Ac,Ah,Ag,Af,Ar,k0,k3,k6]
   rw[BW E6 (by decide)]
   have o16d:Own sd s.next (0+16) (.int .i64 (k:Nat)):=od 16 _ (Ej h16).1
   refine W.load1 B4 o16d.at' ?_
   simp only[By,ek]
   have ye:=yd.thenRd hb0 (s.next+(0+16))
   have oe:Ae (sd.rdN (s.next+(0+16))) s.next 0 (Bj id (k:Nat) (m:Nat)):=fun i v e=>(od i v e).same rfl rfl
   generalize sd.rdN (s.next+(0+16))=se at *
   have hbe:=ye.bnd hb0
   have rest: ∀(sf:St) (w:Value) (i2:List Nat) (g:Bool),Ext Any Non se sf→i2.length=16→i2=BI l k m→g=BC l k m→(g=true→Bs sf w (BJ l k m))→
     W (kExt 0 (.tuple #[.agg (u8l i2).toArray,w, .bool g])) sf fun v43 s3=>W (kExt 1 (.tuple #[.agg (u8l i2).toArray,w, .bool g])) s3 fun v44 s4=>W (kExt 2 (.tuple #[.agg (u8l i2).toArray,w, .bool g])) s4 fun v45 s5=>W (Bt envS 26) s5 fun v8 s6=>W (A7 envS 26 v8 v43) s6 fun _ s7=>W (runF envS (n'-1-1) ⟨28,G9,C2,T.set (T.set (T.set tm' 8 v8) 9 v44) 10 v45,Mt.tail, .run, .normal,none⟩) s7 fun p s1=> ∃x,p.1= .tuple #[x, .int .i64 (getR l id k m).2]∧Ext Any Non s (s1.cxN s.cx)∧Bs (s1.cxN s.cx) x (getR l id k m).1:=by
    intro sf w i2 g xf hid hide hge hw
    rw[Bq (k:=0) rfl,Bq (k:=1) rfl,Bq (k:=2) rfl]
    have yf:=ye.then0 xf hb0
    have hIl:(u8l i2).length=16:=by rw[A6];exact hid
    refine W.alloc DH fun sg ng xg og=> ?_
    have yg:=yf.then0 xg hb0
    refine W.store BL hIl (BT _) (fun i hi=>(Ae.owned og) i (by simpa using hi)) fun sh nh xh oh=> ?_
    have nf:s.next≤sf.next:=yf.nxt
    have oh':Ae sh sf.next 0 (u8l i2):=oh
    have yh:=yg.thenW xh hb0 (by show s.next≤sf.next;exact nf)
    have oh18:Ae sh s.next 0 (Bj id (k:Nat) (m:Nat)):=fun i v e=>(((oe i v e).ext0 xf).ext0 xg).ext xh fun h=>by
     have h1:=h.1
     have h2:=((oe i v e).ext0 xf).1
     omega
    have hwh:g=true→Bs sh w (BJ l k m):=fun h=>(((hw h).ext0 xg).ext xh fun y hy h2=>by
     have h3:=(hw h).lt' y hy
     have h4:=h2.1
     omega)
    have hR:getR l id k m=if hitB l (id,k,m)then(BJ l k m,0)else([],11):=by unfold getR;rw[hm];rfl
    refine Pd_.w rfl (by omega) ?_
    have fin: ∀(si:St) (tm2:T Value) (td2:List Item) (b:Bool),Ext Any Non sh si→si.mem=sh.mem→si.next=sh.next→skim 64 td2=JE→T.get tm2 9=some w→T.get tm2 53=some (.bool b)→b= !hitB l (id,k,m)→(b=false→g=true)→
      W (runF envS (n'-1-1-1) ⟨28,G9,C2,tm2,td2, .run, .normal,none⟩) si fun p s1=> ∃x,p.1= .tuple #[x, .int .i64 (getR l id k m).2]∧Ext Any Non s (s1.cxN s.cx)∧Bs (s1.cxN s.cx) x (getR l id k m).1:=fun si tm2 td2 b xi mi ni hT2 h9 h53 hb hbg=>by
     have yi:=yh.then0 xi hb0
     cases b with
     |true=>
      have hh:hitB l (id,k,m)=false:=by simpa using hb.symm
      rw[hh]at hR
      refine W.cond (v:=true) hT2 Gr_ h53 (by omega) (fun _=> ?_) fun h=>by cases h
      refine Kl_.w rfl (by omega) ?_
      simp only[VM,Aa,W_mv,Ac]
      refine W.end' (rs:=[4,5]) (vs:=[.slice none 0 0, .int .i64 11]) rfl (.inl Yj_) (by omega) Kv MW yi.cx (by simp[T.get_set]) ?_
      rw[hR]
      exact⟨_,rfl,yi.cx', .inl ⟨rfl,rfl⟩⟩
     |false=>
      have hh:hitB l (id,k,m)=true:=by simpa using hb.symm
      rw[hh]at hR
      refine W.cond (v:=false) hT2 Gr_ h53 (by omega) (fun h=>by cases h) fun _=> ?_
      refine AbH_.w rfl (by omega) ?_
      simp only[X4,Aa,W_mv,Ac,h9]
      refine W.end' (rs:=[4,5]) (vs:=[w, .int .i64 0]) rfl (.inl Wj_) (by omega) Kv MW yi.cx (by simp[T.get_set]) ?_
      rw[hR]
      exact⟨_,rfl,yi.cx',((hwh (hbg rfl)).same mi ni).same rfl rfl⟩
    cases g with
    |false=>
     simp only[Qx,Ad,W_oS,W_on,Aa,W_mv,Ac,T.get_set,reduceIte,Ax,Ba,A9,Bo,AA,Nat.reduceEqDiff, ↓reduceIte,CJ,Bool.not_false]
     refine fin sh _ _ true (Ext.refl _) rfl rfl rfl (by simp[T.get_set]) (by simp[T.get_set]) ?_ fun h=>by cases h
     unfold hitB
     rw[←hge]
     rfl
    |true=>
     simp only[Qx,Ad,W_oS,W_on,Aa,W_mv,Ac,T.get_set,reduceIte,Ax,A5,A9,Bb,AA,Nat.reduceEqDiff,reduceCtorEq, ↓reduceIte,CJ,Bool.not_true,k3]
     refine W.loadA BL oh'.row hIl fun si mi ni xi=> ?_
     rw[BW WQ (by decide)]
     have oid:Ae si s.next (0+0) (u8l id):=fun i u e=>by
      have hi:i<(u8l id).length:=(List.getElem?_eq_some_iff.1 e).1
      have:=oh18 i u (by unfold Bj;rw[List.getElem?_append_left hi];exact e)
      exact this.same mi ni
     refine W.loadA BL oid.row (by rw[A6];exact h16) fun sj mj nj xj=> ?_
     try simp only[Ad,W_oS,W_on,Aa,W_mv,Ac,AJ,T.get_set,Ah,Ag,A8,A2,Af,Ar,reduceIte,Ax,Bp,Ba,Bv,A5,A9,Bb,Bo,AA,Bg,Nat.reduceEqDiff,reduceCtorEq, ↓reduceIte]
     rw[Ew_ Jg hid h16]
     try simp only[Ad,W_oS,W_on,Aa,W_mv,Ac,AJ,T.get_set,Ah,Ag,A8,A2,Af,Ar,reduceIte,Ax,Bp,Ba,Bv,A5,A9,Bb,Bo,AA,Bg,Nat.reduceEqDiff,reduceCtorEq, ↓reduceIte]
     have hbh:sh.lim≤sh.next:=yh.bnd hb0
     refine fin sj _ _ (!decide (i2=id)) ((Ext.anyG xi hbh).then0 xj hbh) (mj.trans mi) (nj.trans ni) rfl (by simp[T.get_set]) (by simp[T.get_set]) ?_ fun _=>rfl
     unfold hitB
     rw[←hge,←hide,Bool.true_and]
   refine Uy hbe (hB0.ext0 ye) hby (by omega) g1 g2 hlen (by omega) (fun hg sf w xf hw1=> ?_) fun hg sf xf=> ?_
   ·have e1:BI l k m=BH l k m:=if_pos hg
    have e2:BC l k m=decide (idB (BJ l k m)=BH l k m):=by unfold BC;rw[decide_eq_true hg,Bool.true_and]
    exact rest sf w _ _ xf (Fz hlen) e1.symm e2.symm fun _=>hw1.bs
   ·have e1:BI l k m=FZ:=if_neg hg
    have e2:BC l k m=false:=by unfold BC;rw[decide_eq_false hg,Bool.false_and]
    exact rest sf _ _ _ xf rfl e1.symm e2.symm fun h=>by cases h
 refine Sz (yb.bnd hb0) (hB0.ext0 yb) hby (by omega) (by omega) (fun h sc xc=> ?_) fun h sc xc=> ?_
 ·have:=go _ sc (Ext.anyG xc (yb.bnd hb0)) (fun _=>rfl) fun h'=>by rw[h]at h';cases h'
  rw[h]at this
  exact this
 ·have:=go 0 sc (Ext.anyG xc (yb.bnd hb0)) (fun h'=>by rw[h]at h';cases h') fun _=>rfl
  rw[h]at this
  exact this
theorem Xl_ {n:Nat}{a:Int}{s:St}{v:Value}{l:List Nat}{Q:Value→St→Prop}(hbs:Bs s v l)(ha: ¬(0≤a∧a+6≤(l.length:Nat)))(hz:l.length≤1000000)(hn:60≤n)(q:Q (.tuple #[.int .i64 0, .bool false]) s):W (Ai envS (runF envS n) 71 [v, .int .i64 a]) s Q:=by
 refine Nw fun tm h0 h1=> ?_
 have hb0:Bs (s.cxN cxN) v l:=hbs.same rfl rfl
 refine NQ.w rfl (by omega) ?_
 simp only[IC,Aa,W_mv,Ac]
 refine MH.w rfl (by omega) ?_
 have e6:wrap64 (((l.length:Nat):Int)-6)=((l.length:Nat):Int)-6:=AP (by omega) (by omega)
 simp only[K8,Ad,W_oS,W_on,Aa,W_mv,Ac,T.get_set,Ah,Ag,Af,reduceIte,Ax,A9,AA,Nat.reduceEqDiff,reduceCtorEq, ↓reduceIte,Be,h0,h1]
 have fin: ∀(n':Nat) (tm':T Value) (td:List Item),20≤n'→skim 64 td=Nz→W (runF envS n' ⟨71,CS_,D2,tm',td, .run, .normal,none⟩) (s.cxN cxN) fun p s1=>Q p.1 (s1.cxN s.cx):=fun n' tm' td hn' hT=>by
  refine Tv.w hT (by omega) ?_
  simp only[Ob,Aa,W_mv,Ac]
  exact W.end' (rs:=[4,5]) (vs:=[.int .i64 0, .bool false]) rfl (.inl UV) (by omega) Hm KM rfl (by simp[T.get_set]) q
 by_cases h:a<0
 ·rw[decide_eq_true h]
  simp only[Aa,reduceIte,Ba,Bo, ↓reduceIte]
  refine W.cond (v:=true) rfl Iy (by simp[T.get_set]) (by omega) (fun _=> ?_) fun h=>by cases h
  exact fin _ _ _ (by omega) rfl
 ·rw[decide_eq_false h]
  simp only[W_oS,Aa,reduceIte,A5,Bb,reduceCtorEq, ↓reduceIte,Cm,Dl,hb0.len AE,e6]
  refine W.cond (v:=true) rfl Iy (by simp[T.get_set];omega) (by omega) (fun _=> ?_) fun h=>by cases h
  exact fin _ _ _ (by omega) rfl
theorem MO_ {n:Nat}{a:Int}{s:St}{v:Value}{l:List Nat}{Q:Value→St→Prop}(hbd:s.lim≤s.next)(hbs:Bs s v l)(hby:Byt l)(hz:l.length≤1000000)(hn:200≤n)
  (q: ∀nn s1,(okAt l a=true→nn=((A1 l a.toNat:Nat):Int))→Ext (BsF v) Non s s1→Q (.tuple #[.int .i64 nn, .bool (okAt l a)]) s1):W (Ai envS (runF envS n) 71 [v, .int .i64 a]) s Q:=by
 by_cases h:0≤a∧a+6≤(l.length:Nat)
 ·obtain⟨k,rfl⟩: ∃k:Nat,a=(k:Nat):=⟨a.toNat,by omega⟩
  refine J1 hbd hbs hby hz hn fun s1 x1=> ?_
  have e:(Co l k).2=okAt l ((k:Nat):Int):=by
   unfold Co okAt
   rw[if_pos (by omega),decide_eq_true h,Bool.true_and]
   rfl
  rw[e]
  refine q _ s1 (fun _=> ?_) x1
  unfold Co
  rw[if_pos (by omega)]
  rfl
 ·have e:okAt l a=false:=by unfold okAt;rw[decide_eq_false h,Bool.false_and]
  rw[e]at q
  exact Xl_ hbs h hz (by omega) (q 0 s (fun h=>by cases h) (Ext.refl _))
theorem Qn_ {R n:Nat}{a z:Int}{id:List Nat}{v:Value}{l:List Nat}{tm:T Value}{td:List Item}{s:St}{Q:Value×FrameMode→St→Prop}(hbd:s.lim≤s.next)(hbs:Bs s v l)(hz:l.length≤900000)(h16:id.length=16)(hR:Ae s R 0 (Bj id a z))(h0:T.get tm 0=some v)(h3:T.get tm 3=some (.pointer (some ⟨R,0,none⟩)))(h6:okAt l a=true→T.get tm 6=some (.int .i64 (A1 l a.toNat:Nat)))(h6': ∃nn,T.get tm 6=some (.int .i64 nn))(h7:T.get tm 7=some (.bool (okAt l a)))(hT:skim 64 td=Hs)(hn:100≤n)
  (q: ∀n' s1 tm' td',n≤n'+2→skim 64 td'=Il→s1.mem=s.mem→s1.next=s.next→Ext Any Non s s1→(∀j,j≠35→T.get tm' j=T.get tm j)→T.get tm' 35=some (.bool (!isAt l a z))→W (runF envS n' ⟨27,Gp,CV,tm',td', .run, .normal,none⟩) s1 Q):
  W (runF envS n ⟨27,Gp,CV,tm,td, .run, .normal,none⟩) s Q:=by
 refine Be_.w hT (by omega) ?_
 have o16:At (dSt s.mem s.next) R (0+16) (.int .i64 a):=((hR 16 _ (Ej h16).1).same (s':=dSt s.mem s.next) rfl rfl).at'
 have o17:At (dSt s.mem s.next) R (0+17) (.int .i64 z):=((hR 17 _ (Ej h16).2).same (s':=dSt s.mem s.next) rfl rfl).at'
 have hRn:R+17<s.next:=by
  have:=(hR 17 _ (Ej h16).2).1
  omega
 cases his:okAt l a with
 |false=>
  obtain⟨nn,h6⟩:=h6'
  rw[his]at h7
  have hm:(!isAt l a z)=true:=by unfold isAt;rw[his];rfl
  simp only[Hw,h0,h3,h6,h7,BG,Ck,Ah,Ag,Af,Dc,Ap]
  rw[W_dq fun s Q=>CJ (s:=s) _ _ Q]
  simp only[Ap,Bool.not_false,Ax,Cw,Ba,if_f]
  rw[W_dq fun s Q=>AA (s:=s) _ _ _ _]
  simp only[reduceIte,Ap,Ax,Cw,Ba,if_f,Aa]
  refine⟨Dn (by simp) (by simp), ?_⟩
  refine W.cast (GN ..) ?_
  simp only[Ad,W_on,Aa,AJ,reduceIte,AA, ↓reduceIte]
  exact q _ _ _ _ (by omega) rfl rfl rfl (Ext.drawG (Nat.le_refl _) (fun _ _ _=>rfl) (by simp) (by simp)) (fun j hj=>by rw[T.get_set,if_neg hj]) (by rw[T.get_set,if_pos rfl,hm])
 |true=>
  have h6:=h6 his
  rw[his]at h7
  have hok:=his
  unfold okAt at hok
  simp only[Bool.and_eq_true,decide_eq_true_eq]at hok
  obtain⟨⟨ha1,ha2⟩,hso⟩:=hok
  obtain⟨g1,g2⟩:=EB hso
  simp only[Hw,h0,h3,h6,h7,BG,Ck,Ah,Ag,Af,Dc,Ap]
  rw[W_dq fun s Q=>CJ (s:=s) _ _ Q]
  simp only[Ap,Bool.not_true,Ax,Cw,A5,if_t]
  rw[W_dq fun s Q=>BW (s:=s) MQ (by decide) Q]
  refine W.dload B4 o17 fun rd1 hr1=> ?_
  rw[W_dq fun s Q=>Dj (s:=s) _ _]
  rw[W_dq fun s Q=>AA (s:=s) _ _ _ _]
  simp only[Bool.false_eq_true,reduceIte,Ap]
  by_cases hsz:((A1 l a.toNat:Nat):Int)=z
  ·have e1:(!decide (((A1 l a.toNat:Nat):Int)=z))=false:=by rw[decide_eq_true hsz];rfl
   rw[e1]
   simp only[Ax,Cw,A5,if_t,Ap]
   obtain⟨p,c,rfl⟩:=hbs.sl
   rw[W_dq fun s Q=>B5 (s:=s) AE Q]
   rw[W_dq fun s Q=>BW (s:=s) E6 (by decide) Q]
   refine W.dload B4 o16 fun rd2 hr2=> ?_
   have e2:wrap64 (((l.length:Nat):Int)-a)=((l.length:Nat):Int)-a:=AP (by omega) (by omega)
   rw[W_dq fun s Q=>Cm (s:=s) _ _,e2]
   simp only[Ap]
   refine W.dop0 (Gt _ (by omega) ⟨rfl, ?_⟩)
   rw[Fc g1 g2,W_dq fun s Q=>Be (s:=s) _ _,Aa]
   have e3:decide (((l.length:Nat):Int)-a<((A1 l a.toNat+26:Nat):Int))= !isAt l a z:=by
    unfold isAt
    rw[his,decide_eq_true hsz,Bool.true_and,Bool.true_and]
    by_cases h5:a+26+z≤(l.length:Nat)
    ·rw[decide_eq_true h5,decide_eq_false (by omega)];rfl
    ·rw[decide_eq_false h5,decide_eq_true (by omega)];rfl
   rw[e3]
   refine⟨Fa (by simp) (by
    simp only[List.reverse_cons,List.reverse_nil,List.nil_append,List.cons_append,List.mem_cons,List.not_mem_nil,or_false]
    rintro m (rfl|rfl|rfl|rfl|rfl|rfl|rfl|rfl|rfl|rfl|rfl|rfl|rfl|rfl|rfl|rfl|rfl)<;>refine⟨rfl,fun x hx=> ?_⟩<;>first|(cases hx;done)|(have:=hr1 _ hx;omega)|(have:=hr2 _ hx;omega)), ?_⟩
   refine W.cast (GN ..) ?_
   simp only[Ad,W_on,Aa,AJ,reduceIte,AA,reduceCtorEq, ↓reduceIte]
   refine q _ _ _ _ (by omega) rfl rfl rfl (Ext.drawG (Nat.le_refl _) (fun _ _ _=>rfl) ?_ fun _ _ _ _ _=>trivial) (fun j hj=>by rw[T.get_set,if_neg hj]) (by rw[T.get_set,if_pos rfl])
   simp only[List.mem_cons,List.not_mem_nil,or_false]
   rintro m (rfl|rfl|rfl|rfl|rfl|rfl|rfl|rfl|rfl|rfl|rfl|rfl|rfl|rfl|rfl|rfl|rfl) x hx _<;>cases hx
  ·have e1:(!decide (((A1 l a.toNat:Nat):Int)=z))=true:=by
    rw[decide_eq_false hsz];rfl
   have hm:(!isAt l a z)=true:=by unfold isAt;rw[his,decide_eq_false hsz];rfl
   rw[e1]
   simp only[Ax,Cw,Ba,if_f,Ap,Aa]
   refine⟨Fa (by simp) (by
    simp only[List.reverse_cons,List.reverse_nil,List.nil_append,List.cons_append,List.mem_cons,List.not_mem_nil,or_false]
    rintro m (rfl|rfl|rfl|rfl|rfl|rfl|rfl|rfl|rfl|rfl|rfl|rfl|rfl|rfl|rfl|rfl|rfl)<;>refine⟨rfl,fun x hx=> ?_⟩<;>first|(cases hx;done)|(have:=hr1 _ hx;omega)), ?_⟩
   refine W.cast (GN ..) ?_
   simp only[Ad,W_on,Aa,AJ,reduceIte,AA, ↓reduceIte]
   refine q _ _ _ _ (by omega) rfl rfl rfl (Ext.drawG (Nat.le_refl _) (fun _ _ _=>rfl) ?_ fun _ _ _ _ _=>trivial) (fun j hj=>by rw[T.get_set,if_neg hj]) (by rw[T.get_set,if_pos rfl,hm])
   simp only[List.mem_cons,List.not_mem_nil,or_false]
   rintro m (rfl|rfl|rfl|rfl|rfl|rfl|rfl|rfl|rfl|rfl|rfl|rfl|rfl|rfl|rfl|rfl|rfl) x hx _<;>cases hx
def DI (s:St)(x:Value)(r:List Nat)(n0 n1:Nat):Prop:=(x= .slice none 0 0∧r=[])∨ ∃nb o,MkO s x r nb o∧0<r.length∧r.length≤2000∧n0≤nb∧nb+o+r.length<n1
theorem DI.bs {s:St}{x:Value}{r:List Nat}{n0 n1:Nat}(h:DI s x r n0 n1):Bs s x r:=by
 rcases h with⟨h1,h2⟩|⟨nb,o,h,_,h2,_⟩
 ·exact .inl ⟨h1,h2⟩
 ·exact(h.bn (by omega)).bs
theorem DI.ext {F G:Nat→Prop}{s s':St}{x:Value}{r:List Nat}{n0 n1:Nat}(h:DI s x r n0 n1)(e:Ext F G s s')(hG: ∀y,n0≤y→y<n1→ ¬G y):DI s' x r n0 n1:=by
 rcases h with h|⟨nb,o,h,h1,h2,h3,h4⟩
 ·exact .inl h
 ·exact .inr ⟨nb,o,h.ext e fun y hy=>hG y (by have:=hy.1;omega) (by have:=hy.2;omega),h1,h2,h3,h4⟩
theorem DI.same {s s':St}{x:Value}{r:List Nat}{n0 n1:Nat}(h:DI s x r n0 n1)(hm:s'.mem=s.mem)(hn:s'.next=s.next):DI s' x r n0 n1:=by
 rcases h with h|⟨nb,o,h,h1⟩
 ·exact .inl h
 ·exact .inr ⟨nb,o,h.same hm hn,h1⟩
theorem Wr_ {n:Nat}{a z:Int}{id:List Nat}{v:Value}{l:List Nat}{s:St}(hbd:s.lim≤s.next)(hbs:Bs s v l)(hby:Byt l)(hz:l.length≤90000)(h16:id.length=16)(hn:210000≤n):
  W (Ai envS (runF envS n) 27 [v, .agg (Bj id a z).toArray]) s fun u s1=> ∃x,u= .tuple #[x, .int .i64 (getR l id a z).2]∧Ext Any Non s s1∧DI s1 x (getR l id a z).1 s.next s1.next:=by
 cases hm:isAt l a z with
 |true=>
  obtain⟨k,m,rfl,rfl,hso,hsn,g1,g2,hlen⟩:=Yr hm
  have hR:getR l id k m=if hitB l (id,k,m)then(BJ l k m,0)else([],11):=by unfold getR;rw[hm];rfl
  have hmi:CY l (id,k,m)=false:=by
   unfold CY Co
   rw[if_pos (by show k+6≤_;omega)]
   show(!(Cp l k&&decide (A1 l k=m)&&decide (k+26+m≤l.length)))=false
   rw[hso,hsn,decide_eq_true rfl,decide_eq_true hlen]
   rfl
  show W (Ai envS (runF envS n) 27 [v, .agg (AI (id,k,m)).toArray]) s _
  refine AaF_ (h:=(id,k,m)) hbd hbs hby (by omega) (by show k≤_;omega) h16 (by omega) (fun _ hh s1 w nb x1 hw hnb=> ?_) (fun _ hh s1 x1=> ?_) fun h=>by rw[hmi]at h;cases h
  ·have hR':getR l id k m=(BJ l k m,0):=by rw[hR,hh];rfl
   rw[hR']
   have hc:=K4 hlen
   exact⟨w,rfl,Ext.anyG x1 hbd, .inr ⟨nb,16,hw,by rw[hc];omega,by rw[hc];omega,hnb,hw.lt⟩⟩
  ·have hR':getR l id k m=([],11):=by rw[hR,hh];rfl
   rw[hR']
   exact⟨_,rfl,Ext.anyG x1 hbd, .inl ⟨rfl,rfl⟩⟩
 |false=>
  have hR:getR l id a z=([],6):=by unfold getR;rw[hm];rfl
  rw[hR]
  refine XS fun tm h0 h1=> ?_
  have hb0:(s.cxN cxN).lim≤(s.cxN cxN).next:=hbd
  have hB0:Bs (s.cxN cxN) v l:=hbs.same rfl rfl
  refine WY.w rfl (by omega) ?_
  simp only[NX,Ad,W_oS,Aa,W_mv,Ac,h1]
  refine W.box fun sa na xa oa=> ?_
  have hcel:cellsOf (.agg (Bj id a z).toArray)=Bj id a z:=rfl
  rw[hcel]at na oa
  have oa':Ae sa s.next 0 (Bj id a z):=oa
  try simp only[Ad,W_oS,W_on,Aa,W_mv,Ac,AJ,T.get_set,Ah,Ag,A8,A2,Af,Ar,reduceIte,Ax,Bp,Ba,Bv,A5,A9,Bb,Bo,AA,Bg,Nat.reduceEqDiff,reduceCtorEq, ↓reduceIte]
  have ya:Ext Any Non (s.cxN cxN) sa:=(Ext.refl _).then0 xa hb0
  refine CO_.w rfl (by omega) ?_
  simp only[NI,Ad,W_oS,W_on,Aa,W_mv,Ac,T.get_set,Ah,Ag,Af,Ar,reduceIte,Nat.reduceEqDiff,reduceCtorEq, ↓reduceIte,h0]
  rw[show(s.cxN cxN).next=s.next from rfl,BW E6 (by decide)]
  have o16:Own sa s.next (0+16) (.int .i64 a):=oa' 16 _ (Ej h16).1
  refine W.load1 B4 o16.at' ?_
  try simp only[Ad,W_oS,W_on,Aa,W_mv,Ac,AJ,T.get_set,Ah,Ag,A8,A2,Af,Ar,reduceIte,Ax,Bp,Ba,Bv,A5,A9,Bb,Bo,AA,Bg,Nat.reduceEqDiff,reduceCtorEq, ↓reduceIte]
  have yb:=ya.thenRd hb0 (s.next+(0+16))
  have ob:Ae (sa.rdN (s.next+(0+16))) s.next 0 (Bj id a z):=fun i v e=>(oa' i v e).same rfl rfl
  generalize sa.rdN (s.next+(0+16))=sb at *
  refine MO_ (yb.bnd hb0) (hB0.ext0 yb) hby (by omega) (by omega) fun nn sc hnn xc=> ?_
  rw[Bq (k:=0) rfl,Bq (k:=1) rfl]
  have yc:=yb.then0 xc hb0
  have oc:Ae sc s.next 0 (Bj id a z):=fun i v e=>(ob i v e).ext0 xc
  refine Qn_ (R:=s.next) (id:=id) (a:=a) (z:=z) (yc.bnd hb0) (hB0.ext0 yc) (by omega) h16 oc (by simp[T.get_set,h0]) (by simp[T.get_set]) (fun h=>by simp[T.get_set,hnn h]) ⟨nn,by simp[T.get_set]⟩ (by simp[T.get_set]) rfl (by omega) fun n' sd tm' td' hn' hT' md nd xd hkeep h35=> ?_
  have yd:=yc.then0 xd hb0
  rw[hm]at h35
  refine W.cond (v:=true) hT' ON h35 (by omega) (fun _=> ?_) fun h=>by cases h
  refine At_.w rfl (by omega) ?_
  simp only[Pk,Aa,W_mv,Ac]
  refine W.end' (rs:=[4,5]) (vs:=[.slice none 0 0, .int .i64 6]) rfl (.inl Fm_) (by omega) G3 IW yd.cx (by simp[T.get_set]) ?_
  exact⟨_,rfl,yd.cx', .inl ⟨rfl,rfl⟩⟩
theorem Le_ {n k m:Nat}{v:Value}{l:List Nat}{s:St}(hbd:s.lim≤s.next)(hbs:Bs s v l)(hby:Byt l)(hz:l.length≤100000)(hm1:1≤m)(hm2:m≤1024)(hlen:k+26+m≤l.length)(hn:200000≤n):
  W (Ai envS (runF envS n) 70 [v, .int .i64 (k+6:Nat), .int .i64 (m:Nat)]) s fun u s1=> ∃x,u= .tuple #[.agg (u8l (BI l k m)).toArray,x, .bool (BC l k m)]∧Ext Any Non s s1:=by
 refine Uy hbd hbs hby hz hm1 hm2 hlen hn (fun hg s1 w x1 _=>⟨w, ?_,x1⟩) fun hg s1 x1=>⟨.slice none 0 0, ?_,x1⟩
 ·have e1:BI l k m=BH l k m:=if_pos hg
  have e2:BC l k m=decide (idB (BJ l k m)=BH l k m):=by unfold BC;rw[decide_eq_true hg,Bool.true_and]
  rw[e1,e2]
 ·have e1:BI l k m=FZ:=if_neg hg
  have e2:BC l k m=false:=by unfold BC;rw[decide_eq_false hg,Bool.false_and]
  rw[e1,e2]
theorem Ux_ {v:Value}{l:List Nat}{s0:St}{Q:Value→St→Prop}(hb0:(s0.cxN cxN).lim≤(s0.cxN cxN).next)(hbs:Bs (s0.cxN cxN) v l)(hby:Byt l)(hz:l.length≤90000): ∀(f k n:Nat) (hs:List Hd) (bad:Nat) (tm:T Value) (td:List Item) (s:St) (w:Value) (bw:Nat),
  k≤l.length→l.length-k≤f→bad*27≤k→hs.length*27≤k→210000+40*f≤n→skim 64 td=JP→Ext Any Non (s0.cxN cxN) s→MkS s 18 hs.length (Bu hs) w bw→(∀y,MkF 18 hs.length bw y→s0.next≤y)→
  T.get tm 0=some v→T.get tm 6=some w→T.get tm 7=some (.int .i64 (k:Nat))→T.get tm 8=some (.int .i64 (bad:Nat))→
  (∀s1 w1 b1,Ext Any Non (s0.cxN cxN) s1→MkS s1 18 (BE l f k hs bad).1.length (Bu (BE l f k hs bad).1) w1 b1→(∀y,MkF 18 (BE l f k hs bad).1.length b1 y→s0.next≤y)→Q (.tuple #[w1, .int .i64 ((BE l f k hs bad).2.2.1:Nat), .int .i64 ((BE l f k hs bad).2.1:Nat), .int .i64 ((BE l f k hs bad).2.2.2:Nat)]) (s1.cxN s0.cx))→
  W (runF envS n ⟨25,DR_,Cs,tm,td, .run, .normal,none⟩) s fun p s1=>Q p.1 (s1.cxN s0.cx):=by
 intro f
 induction f with
 |zero=>
  intro k n hs bad tm td s w bw hk hf hc1 hc2 hn hT hx hm hmF h0 h6 h7 h8 q
  have hkl:k=l.length:=by omega
  have hB:=hbs.ext0 hx
  refine CQ_.w hT (by omega) ?_
  simp only[Qp,Ad,W_oS,Aa,W_mv,Ac,Ah,Ag,Af,Fl,h0,h7,hB.len AE]
  refine W.cond (v:=true) rfl Pc (by simp[T.get_set,hkl]) (by omega) (fun _=> ?_) fun h=>by cases h
  refine AS_.w rfl (by omega) ?_
  simp only[Mv,Aa,W_mv,Ac,T.get_set,reduceIte,Nat.reduceEqDiff, ↓reduceIte,h6,h7,h8]
  have e:BE l 0 k hs bad=(hs,bad,k,0):=by unfold BE Cz;rw[if_pos hkl]
  rw[e]at q
  exact W.end' (rs:=[2,3,4,5]) (vs:=[w, .int .i64 (k:Nat), .int .i64 (bad:Nat), .int .i64 0]) rfl (.inl Hl_) (by omega) GS Ih hx.cx (by simp[T.get_set]) (q s w bw hx hm hmF)
 |succ f ih=>
  intro k n hs bad tm td s w bw hk hf hc1 hc2 hn hT hx hm hmF h0 h6 h7 h8 q
  have hB:=hbs.ext0 hx
  have over:Cc l k=false→ ∀r,Cz l k=r→ ∀s4,Ext Any Non (s0.cxN cxN) s4→MkS s4 18 hs.length (Bu hs) w bw→Q (.tuple #[w, .int .i64 (k:Nat), .int .i64 (bad:Nat), .int .i64 (r:Nat)]) (s4.cxN s0.cx):=fun hno r hr s4 x4 m4=>by
   have e:BE l (f+1) k hs bad=(hs,bad,k,r):=by
    unfold BE
    rw[hno,hr]
    rfl
   rw[e]at q
   exact q s4 w bw x4 m4 hmF
  refine CQ_.w hT (by omega) ?_
  simp only[Qp,Ad,W_oS,Aa,W_mv,Ac,Ah,Ag,Af,Fl,h0,h7,hB.len AE]
  by_cases hkl:k=l.length
  ·refine W.cond (v:=true) rfl Pc (by simp[T.get_set,hkl]) (by omega) (fun _=> ?_) fun h=>by cases h
   refine AS_.w rfl (by omega) ?_
   simp only[Mv,Aa,W_mv,Ac,T.get_set,reduceIte,Nat.reduceEqDiff, ↓reduceIte,h6,h7,h8]
   refine W.end' (rs:=[2,3,4,5]) (vs:=[w, .int .i64 (k:Nat), .int .i64 (bad:Nat), .int .i64 0]) rfl (.inl Hl_) (by omega) GS Ih hx.cx (by simp[T.get_set]) ?_
   refine over ?_ 0 (by unfold Cz;rw[if_pos hkl]) s hx hm
   unfold Cc
   rw[decide_eq_false (by omega)]
   rfl
  refine W.cond (v:=false) rfl Pc (by simp[T.get_set];omega) (by omega) (fun h=>by cases h) fun _=> ?_
  refine XV_.w rfl (by omega) ?_
  have e1:wrap64 (((l.length:Nat):Int)-((k:Nat):Int))=((l.length-k:Nat):Int):=by
   rw[AP (by omega) (by omega)];omega
  simp only[YS,Ad,W_oS,Aa,W_mv,Ac,T.get_set,Ah,Ag,Af,reduceIte,Nat.reduceEqDiff,reduceCtorEq, ↓reduceIte,Cm,Be,h0,h7,hB.len AE,e1]
  by_cases h6k:l.length<k+6
  ·refine W.cond (v:=true) rfl Yt (by simp[T.get_set];omega) (by omega) (fun _=> ?_) fun h=>by cases h
   refine ZS_.w rfl (by omega) ?_
   simp only[Se,Aa,W_mv,Ac,T.get_set,reduceIte,Nat.reduceEqDiff, ↓reduceIte,h6,h7,h8]
   refine W.end' (rs:=[2,3,4,5]) (vs:=[w, .int .i64 (k:Nat), .int .i64 (bad:Nat), .int .i64 1]) rfl (.inl Qi_) (by omega) GS Ih hx.cx (by simp[T.get_set]) ?_
   refine over ?_ 1 (by unfold Cz;rw[if_neg hkl,if_pos h6k]) s hx hm
   unfold Cc
   rw[decide_eq_false (by omega)]
   rfl
  refine W.cond (v:=false) rfl Yt (by simp[T.get_set];omega) (by omega) (fun h=>by cases h) fun _=> ?_
  refine Jf_.w rfl (by omega) ?_
  simp only[WB,Ad,W_oS,W_on,Aa,W_mv,Ac,T.get_set,Ah,Ag,Af,Ar,reduceIte,Nat.reduceEqDiff,reduceCtorEq, ↓reduceIte,h0,h7]
  have hok:okAt l ((k:Nat):Int)=Cp l k:=by
   unfold okAt
   rw[decide_eq_true ⟨by omega,by omega⟩,Bool.true_and]
   rfl
  refine Sz (hx.bnd hb0) hB hby (by omega) (by omega) (fun hso s1 x1=> ?_) fun hso s1 x1=> ?_
  ·rw[Bq (k:=0) rfl,Bq (k:=1) rfl]
   try simp only[Ad,W_oS,W_on,Aa,W_mv,Ac,AJ,T.get_set,Ah,Ag,A8,A2,Af,Ar,reduceIte,Ax,Bp,Ba,Bv,A5,A9,Bb,Bo,AA,Bg,Nat.reduceEqDiff,reduceCtorEq, ↓reduceIte]
   rw[hok]at hso
   rw[Int.toNat_natCast]
   obtain⟨g1,g2⟩:=EB hso
   have y1:=hx.then0 x1 hb0
   have m1:=hm.ext0 x1
   refine XG.w rfl (by omega) ?_
   simp only[PZ,Ad,W_oS,Aa,W_mv,Ac,T.get_set,reduceIte, ↓reduceIte,CJ,Bool.not_true]
   refine W.cond (v:=false) rfl Gq_ (by simp[T.get_set]) (by omega) (fun h=>by cases h) fun _=> ?_
   refine KN_.w rfl (by omega) ?_
   simp only[ZW,Ad,W_oS,W_on,Aa,W_mv,Ac,T.get_set,Ah,Ag,Af,Ar,reduceIte,Nat.reduceEqDiff,reduceCtorEq, ↓reduceIte,Cm,h0,h7,(hbs.ext0 y1).len AE,e1]
   generalize hN:A1 l k=N at *
   refine KH _ (by omega) ?_
   rw[Fc g1 g2]
   simp only[Be]
   by_cases hsh:l.length<k+26+N
   ·refine W.cond (v:=true) rfl Tf (by simp[T.get_set];omega) (by omega) (fun _=> ?_) fun h=>by cases h
    refine QI_.w rfl (by omega) ?_
    simp only[GD_,Aa,W_mv,Ac,T.get_set,reduceIte,Nat.reduceEqDiff, ↓reduceIte,h6,h7,h8]
    refine W.end' (rs:=[2,3,4,5]) (vs:=[w, .int .i64 (k:Nat), .int .i64 (bad:Nat), .int .i64 1]) rfl (.inl YP_) (by omega) GS Ih y1.cx (by simp[T.get_set]) ?_
    refine over ?_ 1 (by unfold Cz;rw[if_neg hkl,if_neg h6k,hso];rfl) s1 y1 m1
    unfold Cc
    rw[hN,decide_eq_false (show ¬k+26+N≤l.length by omega),Bool.and_false]
   refine W.cond (v:=false) rfl Tf (by simp[T.get_set];omega) (by omega) (fun h=>by cases h) fun _=> ?_
   have hlen:k+26+N≤l.length:=by omega
   have hrec:Cc l k=true:=by
    unfold Cc
    rw[hN,hso,decide_eq_true hlen,decide_eq_true (by omega)]
    rfl
   have es:BE l (f+1) k hs bad=BE l f (k+26+N) (if BC l k N then hs++[(BI l k N,k,N)]else hs) (if BC l k N then bad else bad+1):=by
    rw[BE,hrec,hN]
    rfl
   rw[es]at q
   refine Rb_.w rfl (by omega) ?_
   have ek:wrap64 (((k:Nat):Int)+6)=((k+6:Nat):Int):=by
    rw[AP (by omega) (by omega)];omega
   simp only[T9,Ad,W_oS,W_on,Aa,W_mv,Ac,T.get_set,Ah,Ag,Af,Ar,reduceIte,Nat.reduceEqDiff,reduceCtorEq, ↓reduceIte,By,h0,h7,ek]
   refine W.mono (Le_ (y1.bnd hb0) (hbs.ext0 y1) hby (by omega) g1 g2 hlen (by omega)) ?_
   rintro _ s2 ⟨x,rfl,x2⟩
   rw[Bq (k:=0) rfl,Bq (k:=1) rfl,Bq (k:=2) rfl]
   try simp only[Ad,W_oS,W_on,Aa,W_mv,Ac,AJ,T.get_set,Ah,Ag,A8,A2,Af,Ar,reduceIte,Ax,Bp,Ba,Bv,A5,A9,Bb,Bo,AA,Bg,Nat.reduceEqDiff,reduceCtorEq, ↓reduceIte]
   have y2:=y1.then0 x2 hb0
   have hidl:(u8l (BI l k N)).length=16:=by rw[A6];exact Ik hlen
   refine W.alloc DH fun s3 n3 x3 o3=> ?_
   have y3:=y2.then0 x3 hb0
   refine W.store BL hidl (BT _) (fun i hi=>(Ae.owned o3) i (by simpa using hi)) fun s4 n4 x4 o4=> ?_
   have ns2:s0.next≤s2.next:=y2.nxt
   have y4:=y3.thenW x4 hb0 ns2
   have o4':Ae s4 s2.next 0 (u8l (BI l k N)):=o4
   have m2:=m1.ext0 x2
   have m4:MkS s4 18 hs.length (Bu hs) w bw:=(m2.ext0 x3).ext x4 fun y hy h=>by
    have h1:=h.1
    have h2:=m2.lt y hy
    omega
   refine AbG_.w rfl (by omega) ?_
   simp only[Fa_,Aa,W_mv,Ac,T.get_set,reduceIte, ↓reduceIte]
   have e26:wrap64 (((k:Nat):Int)+((N+26:Nat):Int))=((k+26+N:Nat):Int):=by
    rw[AP (by omega) (by omega)];omega
   have next: ∀(hs':List Hd) (bad':Nat) (n':Nat) (tm':T Value) (td':List Item) (s5:St) (w5:Value) (b5:Nat),hs'=(if BC l k N then hs++[(BI l k N,k,N)]else hs)→bad'=(if BC l k N then bad else bad+1)→210000+40*f+10≤n'→skim 64 td'=Je→Ext Any Non (s0.cxN cxN) s5→MkS s5 18 hs'.length (Bu hs') w5 b5→(∀y,MkF 18 hs'.length b5 y→s0.next≤y)→
     T.get tm' 0=some v→T.get tm' 6=some w5→T.get tm' 7=some (.int .i64 (k:Nat))→T.get tm' 8=some (.int .i64 (bad':Nat))→T.get tm' 9=some (.int .i64 (N:Nat))→
     W (runF envS n' ⟨25,DR_,Cs,tm',td', .run, .normal,none⟩) s5 fun p s1=>Q p.1 (s1.cxN s0.cx):=by
    intro hs' bad' n' tm' td' s5 w5 b5 e1' e2' hn' hT' y5 m5 mF5 k0 k6 k7 k8 k9
    refine YO_.w hT' (by omega) ?_
    simp only[Hc_,Ad,W_oS,W_on,Aa,W_mv,Ac,Ah,Ag,Af,Ar,k7,k9]
    refine KH _ (by omega) ?_
    rw[Fc g1 g2]
    simp only[By,e26]
    rw[←e1',←e2']at q
    refine ih (k+26+N) _ hs' bad' _ _ s5 w5 b5 hlen (by omega) (by rw[e2'];split<;>omega) (by rw[e1'];split<;>(try rw[List.length_append,List.length_singleton])<;>omega) (by omega) Wy_ y5 m5 mF5 (by simp[T.get_set,k0]) (by simp[T.get_set,k6]) (by simp[T.get_set]) (by simp[T.get_set,k8]) q
   cases hg:BC l k N with
   |false=>
    refine W.cond (v:=false) rfl Ht_ (by simp[T.get_set]) (by omega) (fun h=>by cases h) fun _=> ?_
    refine Ua_.w rfl (by omega) ?_
    have eb:wrap64 (((bad:Nat):Int)+1)=((bad+1:Nat):Int):=by
     rw[AP (by omega) (by omega)];simp
    simp only[Tj,Ad,W_oS,Aa,W_mv,Ac,T.get_set,reduceIte,Nat.reduceEqDiff, ↓reduceIte,By,h8,eb]
    exact next hs (bad+1) _ _ _ s4 w bw (by rw[hg];rfl) (by rw[hg];rfl) (by omega) Kr_ y4 m4 hmF (by simp[T.get_set,h0]) (by simp[T.get_set,h6]) (by simp[T.get_set,h7]) (by simp[T.get_set]) (by simp[T.get_set])
   |true=>
    refine W.cond (v:=true) rfl Ht_ (by simp[T.get_set]) (by omega) (fun _=> ?_) fun h=>by cases h
    refine NG_.w rfl (by omega) ?_
    simp only[Fl_,Ad,W_oS,Aa,W_mv,Ac,T.get_set,Ah,Ag,A8,A2,Af,reduceIte,Nat.reduceEqDiff, ↓reduceIte,h6,h7]
    refine W.loadA BL o4'.row hidl fun s5 m5 n5 x5=> ?_
    have y5:=y4.then0 x5 hb0
    try simp only[Ad,W_oS,W_on,Aa,W_mv,Ac,AJ,T.get_set,Ah,Ag,A8,A2,Af,Ar,reduceIte,Ax,Bp,Ba,Bv,A5,A9,Bb,Bo,AA,Bg,Nat.reduceEqDiff,reduceCtorEq, ↓reduceIte]
    rw[AaM_ (Ik hlen) k N]
    try simp only[Ad,W_oS,W_on,Aa,W_mv,Ac,AJ,T.get_set,Ah,Ag,A8,A2,Af,Ar,reduceIte,Ax,Bp,Ba,Bv,A5,A9,Bb,Bo,AA,Bg,Nat.reduceEqDiff,reduceCtorEq, ↓reduceIte]
    refine W.buildS (y5.bnd hb0) (r:=AI (BI l k N,k,N)) Jn (by decide) (Bo_ (Ik hlen) k N) (Bh (by decide)) fun s6 n6 x6 o6=> ?_
    have y6:=y5.then0 x6 hb0
    have h18:(AI (BI l k N,k,N)).length=18:=DZ (Ik hlen)
    have hsrc:SrcG s6 18 32 false (List.replicate 16 (.int .u8 0)++[.int .i64 0, .int .i64 0]) (.slice (some ⟨s5.next,0,none⟩) 1 1) 1 (AI (BI l k N,k,N)) (In s5.next 0 (1*18)):=(H0 o6.row (by rw[h18])).g
    rw[Eo]
    refine W.appU (y6.bnd hb0) H9 ((m4.same m5 n5).ext0 x6) hsrc (by decide) (by decide) (by decide) (by omega) (by rw[h18]) (It _) fun s7 w7 b7 hb7 m7 x7=> ?_
    have y7:Ext Any Non (s0.cxN cxN) s7:=y6.trans x7 hb0 (fun _ _ _=>trivial) fun y hy h=>absurd hy (Nat.not_lt_of_le (hmF y h))
    have ns6:s0.next≤s6.next:=y6.nxt
    have e7:Bu (hs++[(BI l k N,k,N)])=Bu hs++AI (BI l k N,k,N):=Mr _ _
    try simp only[Ad,W_oS,W_on,Aa,W_mv,Ac,AJ,T.get_set,Ah,Ag,A8,A2,Af,Ar,reduceIte,Ax,Bp,Ba,Bv,A5,A9,Bb,Bo,AA,Bg,Nat.reduceEqDiff,reduceCtorEq, ↓reduceIte]
    refine next (hs++[(BI l k N,k,N)]) bad _ _ _ s7 w7 b7 (by rw[hg];rfl) (by rw[hg];rfl) (by omega) rfl y7 (by rw[e7,List.length_append];exact m7) (fun y hy=>by have:=hy.2.1;omega) (by simp[T.get_set,h0]) (by simp[T.get_set]) (by simp[T.get_set,h7]) (by simp[T.get_set,h8]) (by simp[T.get_set])
  ·rw[Bq (k:=0) rfl,Bq (k:=1) rfl]
   try simp only[Ad,W_oS,W_on,Aa,W_mv,Ac,AJ,T.get_set,Ah,Ag,A8,A2,Af,Ar,reduceIte,Ax,Bp,Ba,Bv,A5,A9,Bb,Bo,AA,Bg,Nat.reduceEqDiff,reduceCtorEq, ↓reduceIte]
   rw[hok]at hso
   have y1:=hx.then0 x1 hb0
   have m1:=hm.ext0 x1
   refine XG.w rfl (by omega) ?_
   simp only[PZ,Ad,W_oS,Aa,W_mv,Ac,T.get_set,reduceIte, ↓reduceIte,CJ,Bool.not_false]
   refine W.cond (v:=true) rfl Gq_ (by simp[T.get_set]) (by omega) (fun _=> ?_) fun h=>by cases h
   refine AaP_.w rfl (by omega) ?_
   simp only[UO,Aa,W_mv,Ac,T.get_set,reduceIte,Nat.reduceEqDiff, ↓reduceIte,h6,h7,h8]
   refine W.end' (rs:=[2,3,4,5]) (vs:=[w, .int .i64 (k:Nat), .int .i64 (bad:Nat), .int .i64 2]) rfl (.inl Im_) (by omega) GS Ih y1.cx (by simp[T.get_set]) ?_
   refine over ?_ 2 (by unfold Cz;rw[if_neg hkl,if_neg h6k,hso];rfl) s1 y1 m1
   unfold Cc
   rw[hso,Bool.and_false,Bool.false_and]
theorem Xc_ {n:Nat}{v:Value}{l:List Nat}{s:St}{Q:Value→St→Prop}(hbd:s.lim≤s.next)(hbs:Bs s v l)(hby:Byt l)(hz:l.length≤90000)(hn:220000+40*l.length≤n)
  (q: ∀s1 w b,Ext Any Non s s1→MkS s1 18 (Ci l).1.length (Bu (Ci l).1) w b→(∀y,MkF 18 (Ci l).1.length b y→s.next≤y)→Q (.tuple #[w, .int .i64 ((Ci l).2.2.1:Nat), .int .i64 ((Ci l).2.1:Nat), .int .i64 ((Ci l).2.2.2:Nat)]) s1):W (Ai envS (runF envS n) 25 [v]) s Q:=by
 refine AaR_ fun tm h0=> ?_
 refine LG_.w rfl (by omega) ?_
 simp only[Bi_,Aa,W_mv,Ac]
 refine Sg_.w rfl (by omega) ?_
 simp only[U3,Aa,W_mv,Ac]
 refine Ll_.w rfl (by omega) ?_
 simp only[XD,Aa,W_mv,Ac]
 refine Ux_ (s0:=s) hbd (hbs.same rfl rfl) hby hz l.length 0 _ [] 0 _ _ _ (.slice none 0 0) 0 (Nat.zero_le _) (by omega) (by omega) (by simp) (by omega) rfl (Ext.refl _) (.inl ⟨rfl,rfl,rfl⟩) (fun y hy=>absurd hy.1 (by simp)) (by simp[T.get_set,h0]) (by simp[T.get_set]) (by simp[T.get_set]) (by simp[T.get_set]) fun s1 w1 b1 y1 m1 mF=> ?_
 exact q _ w1 b1 y1.cx' (m1.same rfl rfl) mF
theorem AaG_ {v:Value}{l:List Nat}{nb o n:Nat}{s:St}{Q:Value→St→Prop}(hbd:s.lim≤s.next)(h:MkO s v l nb o)(h0:0<l.length)(hl:l.length≤16777216)
  (q: ∀s1,Ext (In nb o (l.length+1)) (In nb o (l.length+1)) s s1→Q (.tuple #[]) s1):W (Ai envS (runF envS n) 22 [v]) s Q:=by
 refine W.orc (m:=EG) (by kernel_rfl) ?_
 rw[h.val]
 show W (Gd ⟨nb,o,none⟩ l.length (capU*((nb+o+l.length)*1024+1)+l.length)) s Q
 have hlt:l.length<capU:=Bh (by omega)
 obtain⟨hd,hm⟩:=enc (q:=(nb+o+l.length)*1024+1) hlt
 obtain⟨hd2,hm2⟩:=enc2 (m:=nb+o+l.length) (sz:=1) (by decide)
 unfold Gd
 refine W.chk ?_ (W.bind ?_)
 ·show(Nat.blt 0 l.length&&Nat.ble l.length 16777216&&Nat.beq ((capU*((nb+o+l.length)*1024+1)+l.length)%capU) l.length&&Nat.beq ((capU*((nb+o+l.length)*1024+1)+l.length)/capU%1024) 1)=true
  rw[hm,hd,hm2,BV h0,Nat.ble_eq_true_of_le hl,Nat.beq_refl]
  rfl
 have hr:Row s nb o (u8l l):=h.own.row
 have hle:(u8l l).length=l.length:=A6 l
 rw[←hle]
 refine W.rdL hr fun s1 m1 n1 x1=>W.chk ?_ (W.bind ?_)
 ·rw[List.all_eq_true]
  intro x hx
  obtain⟨y,_,rfl⟩:=List.mem_map.1 hx
  rfl
 rw[hle]at x1 ⊢
 show W (Am.rdC ((capU*((nb+o+l.length)*1024+1)+l.length)/capU/1024)) s1 _
 rw[hd,hd2]
 refine W.rdC (c:= .O (.tok false 1025)) (by rw[m1];exact h.tok) (by rw[n1];exact h.lt) ?_
 show W (M.chk (Nat.beq 1025 1025) (M.bind (Am.wrC ((capU*((nb+o+l.length)*1024+1)+l.length)/capU/1024) (.O (.tok true 1))) fun _=>M.bind (C4 l.length (Nat.add nb o)) fun _=>M.pure (.tuple #[]))) _ Q
 rw[hd,hd2]
 refine W.chk rfl (W.bind (W.wrC (by show nb+o+l.length<s1.next;rw[n1];exact h.lt) (W.bind ?_)))
 generalize hs3:((s1.rdN (nb+o+l.length)).wrN (nb+o+l.length) (.O (.tok true 1)))=s3
 have xa:Ext (In nb o (l.length+1)) (In nb o (l.length+1)) s s1:=x1.weak hbd (fun y _ h=>⟨h.1,by have:=h.2;omega⟩) fun _ _ h=>h.elim
 have hn1:s1.next=s.next:=n1
 have x3:Ext (In nb o (l.length+1)) (In nb o (l.length+1)) s s3:=by
  rw[←hs3]
  refine(xa.trans (Ext.rdN (F:=In nb o (l.length+1)) (G:=Non) s1 _ fun _=>⟨by omega,by omega⟩) hbd (fun _ _ h=>h) fun _ _ h=>h.elim).trans (Ext.wrN (F:=In nb o (l.length+1)) _ _ _ (⟨by omega,by omega⟩:In nb o (l.length+1) (nb+o+l.length))) hbd (fun _ _ h=>h) fun _ _ h=>h
 have n3:s3.next=s.next:=by rw[←hs3];exact hn1
 have hll:=h.lt
 obtain⟨s4,e4,n4,x4⟩:=PQ l.length (nb+o) s3 (x3.bnd hbd) (by omega)
 refine W.of e4 (W.pure (q s4 (x3.trans x4 hbd (fun _ _ h=>h.elim) fun y _ h=>⟨h.1,by have:=h.2;omega⟩)))
abbrev HdZ:Type:=List Nat×Int×Int
def CW:List HdZ→List Value
 |[]=>[]
 |e::l=>Bj e.1 e.2.1 e.2.2++CW l
def toZ (h:Hd):HdZ:=(h.1,((h.2.1:Nat):Int),((h.2.2:Nat):Int))
theorem Wa_ (a b:List HdZ):CW (a++b)=CW a++CW b:=by
 induction a with
 |nil=>rfl
 |cons e a ih=>
  show Bj e.1 e.2.1 e.2.2++CW (a++b)=(Bj e.1 e.2.1 e.2.2++CW a)++CW b
  rw[ih,List.append_assoc]
theorem TL: ∀hs:List Hd,CW (hs.map toZ)=Bu hs
 |[]=>rfl
 |h::l=>by
  show Bj h.1 _ _++CW (l.map toZ)=AI h++Bu l
  rw[TL l]
  rfl
theorem R4 {s:St}{b:Nat}: ∀{l:List HdZ} {o i:Nat} (_: ∀h∈l,h.1.length=16) (_:Row s b o (CW l)) (hi:i<l.length),Row s b (o+i*18) (Bj l[i].1 l[i].2.1 l[i].2.2)
 |[],_,_,_,_,hi=>absurd hi (by simp)
 |h::l,o,0,hl,hr,hi=>fun j u e=>by
  rw[Nat.zero_mul,Nat.add_zero]
  have e:(Bj h.1 h.2.1 h.2.2)[j]?=some u:=e
  refine hr j u ?_
  show(Bj h.1 h.2.1 h.2.2++CW l)[j]?=_
  rw[List.getElem?_append_left (List.getElem?_eq_some_iff.1 e).1]
  exact e
 |h::l,o,i+1,hl,hr,hi=>by
  have h18:(Bj h.1 h.2.1 h.2.2).length=18:=GG (hl h (by simp))
  have hr':Row s b (o+18) (CW l):=fun j u e=>by
   have:=hr (18+j) u (by
    show(Bj h.1 h.2.1 h.2.2++CW l)[18+j]?=_
    rw[List.getElem?_append_right (by omega),h18,Nat.add_sub_cancel_left]
    exact e)
   rwa [←Nat.add_assoc]at this
  have:=R4 (i:=i) (fun x hx=>hl x (by simp[hx])) hr' (by simpa using hi)
  rw[show o+(i+1)*18=o+18+i*18 by omega]
  exact this
theorem Abp_ (id:List Nat)(a z:Int):(Bj id a z).all oneCell=true:=by
 unfold Bj
 rw[List.all_append,BT]
 rfl
theorem HsR.src {s:St}{hs:List Hd}{w:Value}(h:HsR s w hs)(h16: ∀h∈hs,h.1.length=16):Src s 18 w hs.length (Bu hs) (HsF w):=by
 rcases h with⟨rfl,rfl⟩|⟨b,o,c,rfl,h3⟩
 ·exact Q0
 ·exact H0 h3 (J6 h16)
theorem Zd: ∀hs:List Hd,(Bu hs).all oneCell=true
 |[]=>rfl
 |h::l=>by
  show(AI h++Bu l).all oneCell=true
  rw[List.all_append,It,Zd l]
  rfl
theorem Vn (l:List Nat): ∀(f k:Nat) (hs:List Hd) (bad:Nat),hs.length*27≤k→k≤l.length→(BE l f k hs bad).1.length*27≤l.length
 |0,k,hs,bad,h1,h2=>by show hs.length*27≤_;omega
 |f+1,k,hs,bad,h1,h2=>by
  unfold BE
  cases hr:Cc l k with
  |false=>show hs.length*27≤_;omega
  |true=>
   unfold Cc at hr
   simp only[Bool.and_eq_true,decide_eq_true_eq]at hr
   obtain⟨⟨_,h4⟩,h5⟩:=hr
   obtain⟨g1,_⟩:=EB h4
   refine Vn l f _ _ _ ?_ h5
   split
   ·rw[List.length_append,List.length_singleton];omega
   ·omega
theorem SO_ (l:List Nat):(Ci l).1.length*27≤l.length:=Vn l l.length 0 [] 0 (by simp) (Nat.zero_le _)
end Go.Proofs.Ytofanlcjeohcjaa.Am
